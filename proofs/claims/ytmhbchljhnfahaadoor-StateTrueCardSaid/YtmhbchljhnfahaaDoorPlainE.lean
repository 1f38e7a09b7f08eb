/-
  THE STATE FAMILY, PART PE: copies that were printed in an order, and show what was there; StateTrue in plain words.
-/
import Derived.Test.YtmhbchljhnfahaaDoorLawC
import Derived.Test.YtmhbchljhnfahaaDoorPlainD
import Derived.Test.YtmhbchljhnfahaaDoorPlainC
import Derived.Test.YtmhbchljhnfahaaDoorLawG
namespace Go.Ab.StF
open Go Go.Ab Go.Proofs
set_option maxHeartbeats 1000000
set_option maxRecDepth 100000

/-- After how many corrections a copy was printed, and what it shows. -/
def prtK (n : Nat) (pr : List Int) (i : Nat) : Nat := (turnV pr i).toNat % (n + 1)
def seeU (n : Nat) (se : List Int) (i k : Nat) (st : List Int) : List Int := (List.range n).map fun j => if j < k ∧ (turnV se (i * n + j)).tmod 3 = 2 then 0 else st.getD j 0
def tolC (n : Nat) (o : List Int × List Int) (pr se : List Int) (i : Nat) : List Int := seeU n se i n (stateS (prtK n pr i) o)
def tolF (n : Nat) (o : List Int × List Int) (pr se : List Int) (cs : List (ByteArray × List Int)) (i : Nat) : ByteArray × List Int := ((cs.getD i (ByteArray.empty, [])).1, tolC n o pr se i)
def tolL (n : Nat) (o : List Int × List Int) (pr se : List Int) (cs : List (ByteArray × List Int)) : List (ByteArray × List Int) := (List.range cs.length).map (tolF n o pr se cs)
def prtL (n : Nat) (pr : List Int) (i : Nat) : List Int := (List.range i).map fun i => ((prtK n pr i : Nat) : Int)
theorem seeU_len (n : Nat) (se : List Int) (i k : Nat) (st : List Int) : (seeU n se i k st).length = n := by simp [seeU]
theorem seeU_at {n : Nat} {se : List Int} {i k : Nat} {st : List Int} {j : Nat} (h : j < (seeU n se i k st).length) : (seeU n se i k st)[j] = if j < k ∧ (turnV se (i * n + j)).tmod 3 = 2 then 0 else st.getD j 0 := by simp [seeU]
theorem seeU_get {n : Nat} {se : List Int} {i k : Nat} {st : List Int} {j : Nat} (h : j < n) : (seeU n se i k st).getD j 0 = if j < k ∧ (turnV se (i * n + j)).tmod 3 = 2 then 0 else st.getD j 0 := by
  rw [getD_e (by rw [seeU_len]; exact h), seeU_at]
theorem seeU_zero {n : Nat} {se : List Int} {i : Nat} {st : List Int} (h : st.length = n) : st = seeU n se i 0 st := by
  apply List.ext_getElem (by rw [seeU_len, h])
  intro j a b
  rw [seeU_at b, if_neg (by omega), getD_e a]
theorem seeU_T {n : Nat} {se : List Int} {i k : Nat} {st : List Int} (h : (turnV se (i * n + k)).tmod 3 = 2) : (seeU n se i k st).set k 0 = seeU n se i (k + 1) st := by
  apply List.ext_getElem (by rw [List.length_set, seeU_len, seeU_len])
  intro j a b
  rw [seeU_at b, List.getElem_set]
  by_cases e : k = j
  · subst e; rw [if_pos rfl, if_pos ⟨Nat.lt_succ_self k, h⟩]
  · rw [if_neg e, seeU_at]
    by_cases c : j < k
    · simp only [c, show j < k + 1 by omega]
    · simp only [c, show ¬ j < k + 1 by omega]
theorem seeU_F {n : Nat} {se : List Int} {i k : Nat} {st : List Int} (h : ¬ (turnV se (i * n + k)).tmod 3 = 2) : seeU n se i k st = seeU n se i (k + 1) st := by
  apply List.ext_getElem (by rw [seeU_len, seeU_len])
  intro j a b
  rw [seeU_at b, seeU_at]
  by_cases e : k = j
  · subst e; rw [if_neg (by omega), if_neg (fun h' => h h'.2)]
  · by_cases c : j < k
    · simp only [c, show j < k + 1 by omega]
    · simp only [c, show ¬ j < k + 1 by omega]
theorem prtK_le (n : Nat) (pr : List Int) (i : Nat) : prtK n pr i ≤ n := by unfold prtK; have := Nat.mod_lt (turnV pr i).toNat (show 0 < n + 1 by omega); omega
theorem prtL_len (n : Nat) (pr : List Int) (i : Nat) : (prtL n pr i).length = i := by simp [prtL]
theorem prtL_succ (n : Nat) (pr : List Int) (i : Nat) : prtL n pr (i + 1) = prtL n pr i ++ [((prtK n pr i : Nat) : Int)] := by simp [prtL, List.range_succ]
theorem prtL_at {n : Nat} {pr : List Int} {c i : Nat} (h : i < (prtL n pr c).length) : (prtL n pr c)[i] = ((prtK n pr i : Nat) : Int) := by simp [prtL]
theorem tolL_len (n : Nat) (o : List Int × List Int) (pr se : List Int) (cs : List (ByteArray × List Int)) : (tolL n o pr se cs).length = cs.length := by simp [tolL]
theorem tolF_succ (n : Nat) (o : List Int × List Int) (pr se : List Int) (cs : List (ByteArray × List Int)) (i : Nat) : (List.range (i + 1)).map (tolF n o pr se cs) = (List.range i).map (tolF n o pr se cs) ++ [tolF n o pr se cs i] := by simp [List.range_succ]
section
variable {xs : List (ByteArray × Int)} {cs ds : List (ByteArray × List Int)} {o : List Int × List Int} {pr se : List Int}
theorem tolC_len (n : Nat) (i : Nat) : (tolC n o pr se i).length = n := seeU_len _ _ _ _ _
theorem tol_shows {n : Nat} {i : Nat} (hi : i < cs.length) : showsOf (tolL n o pr se cs) i = tolC n o pr se i := by
  rw [showsOf_eq (by rw [tolL_len]; exact hi)]; simp [tolL, tolF]
theorem tolC_get (ho : Ord xs o) {i j : Nat} (hj : j < xs.length) : (tolC xs.length o pr se i).getD j 0 = 0 ∨ (tolC xs.length o pr se i).getD j 0 = atV o.1 o.2 (prtK xs.length pr i) j := by
  unfold tolC
  rw [seeU_get hj]
  split
  · exact .inl rfl
  · right
    have h : j < (stateS (prtK xs.length pr i) o).length := by simp [stateS, ho.l, hj]
    rw [getD_e h]
    simp [stateS]
theorem tol_chk (hc : (chk xs cs).2.2 = 0) (ho : Ord xs o) : (chk xs (tolL xs.length o pr se cs)).2.2 = 0 := by
  refine chk_cops hc ((chk_iff.1 hc).2.same ?_ fun c hcm => ?_)
  · apply List.ext_getElem
    · simp [tolL]
    · intro i h1 h2
      have : i < cs.length := by simpa using h2
      simp [tolL, tolF, this]
  · obtain ⟨i, hi, rfl⟩ := List.mem_map.1 hcm
    refine ⟨tolC_len _ _, fun v hv => ?_⟩
    obtain ⟨j, hj, rfl⟩ := List.mem_iff_getElem.1 hv
    have hj' : j < xs.length := by have : (tolC xs.length o pr se i).length = xs.length := tolC_len _ _; have : j < (tolC xs.length o pr se i).length := hj; omega
    rw [← getD_e (d := 0) hj]
    have h := tolC_get (pr := pr) (se := se) (i := i) ho hj'
    have h' := at_vals (n := xs.length) (k := prtK xs.length pr i) (o := o) ho.v hj'
    change 0 ≤ (tolC xs.length o pr se i).getD j 0 ∧ (tolC xs.length o pr se i).getD j 0 ≤ 2
    omega
theorem tol_stp (ho : Ord xs o) {i : Nat} (hi : i < cs.length) : prtK xs.length pr i ∈ stpL (showsOf (tolL xs.length o pr se cs) i) o.1 o.2 := by
  rw [tol_shows hi]
  exact told_fits ho (prtK_le _ _ _) (tolC_len _ _) fun j hj => tolC_get ho hj
theorem tol_agr (ho : Ord xs o) : o ∈ agrL xs (tolL xs.length o pr se cs) := by
  refine mem_agr.2 ⟨ho, fun c hc => ?_⟩
  obtain ⟨i, hi, rfl⟩ := List.mem_iff_getElem.1 hc
  rw [tolL_len] at hi
  have h := tol_stp (pr := pr) (se := se) ho hi
  rw [showsOf_eq (by rw [tolL_len]; exact hi)] at h
  unfold fitsO
  generalize stpL _ o.1 o.2 = L at h ⊢
  cases L with
  | nil => cases h
  | cons a l => rfl
theorem tol_lens (hN : LensN xs cs) : LensN xs (tolL xs.length o pr se cs) := by
  have hm : ∀ c ∈ tolL xs.length o pr se cs, c.2.length = xs.length ∧ ∃ d ∈ cs, c.1 = d.1 := fun c hc => by
    obtain ⟨i, hi, rfl⟩ := List.mem_map.1 hc
    have hi := List.mem_range.1 hi
    exact ⟨tolC_len _ _, cs[i], List.getElem_mem hi, by simp only [tolF, getD_e hi]⟩
  refine ⟨⟨hN.x, by rw [tolL_len]; exact hN.c, fun c hc => ?_⟩, hN.nx, fun c hc => ?_⟩
  · rw [(hm c hc).1]; exact hN.x
  · obtain ⟨_, d, hd, h⟩ := hm c hc; rw [h]; exact hN.nc d hd
theorem agr_wrong (hc : (chk xs ds).2.2 = 0) (ho : o ∈ agrL xs ds) : wrongS xs ds = ([], 0) := by
  obtain ⟨p, hp, e, hm⟩ := wrong_cases hc
  have h := hm o (agr_ord ho)
  rw [amid_none ho] at h
  rw [e, List.eq_nil_of_length_eq_zero (l := amidL ds p) (by simpa using h)]; rfl
theorem agr_off (hc : (chk xs ds).2.2 = 0) (ho : o ∈ agrL xs ds) : offS xs.length ds o = [] := by
  have hv := chk_valid hc
  have hO := ord_okO hv.l5 (agr_ord ho)
  unfold offS
  rw [List.flatMap_eq_nil_iff]
  intro i hi
  have hi := List.mem_range.1 hi
  have hf := (mem_agr.1 ho).2 _ (List.getElem_mem hi)
  rw [← showsOf_eq hi, fits_best (by rw [showsOf_eq hi]; exact hv.len _ (List.getElem_mem hi)) hO.l hO.m] at hf
  rw [List.isEmpty_iff.1 hf]; rfl
theorem agr_mist (hc : (chk xs ds).2.2 = 0) (ho : o ∈ agrL xs ds) : mistS xs ds = ([], 0) := by
  obtain ⟨p, hp, e, hm⟩ := mist_cases hc
  have h := hm o (agr_ord ho)
  rw [agr_off hc ho] at h
  rw [e, List.eq_nil_of_length_eq_zero (l := offS xs.length ds p) (by simpa using h)]; rfl
theorem true_read (hc : (chk xs ds).2.2 = 0) (ho : o ∈ agrL xs ds) {a : Nat} (h : a < xs.length) : (readS xs ds a).1 = 0 ∨ (readS xs ds a).1 = o.1.getD a 0 := by
  have ha := List.ne_nil_of_mem ho
  rw [read_ok hc ha h]
  rcases sameL_val (z := 0) (g := fun o : List Int × List Int => o.1.getD a 0) ha with e | e
  · exact .inr (e o ho).symm
  · exact .inl e.1
theorem true_bef (hc : (chk xs ds).2.2 = 0) (ho : o ∈ agrL xs ds) {a b : Nat} (h : a < xs.length) (h' : b < xs.length) (hne : a ≠ b) : saysB (befS xs ds a b).1 (decide (plc o.2 a < plc o.2 b)) (decide (plc o.2 b < plc o.2 a)) = true := by
  have ha := List.ne_nil_of_mem ho
  have h1 := bef_one hc ha h h' hne
  have h2 := bef_two hc ha h h' hne
  rcases bef_vals hc ha h h' hne with e | e | e
  · rw [e]; rfl
  · rw [e, decide_eq_true (h1.1 e o ho)]; rfl
  · rw [e, decide_eq_true (h2.1 e o ho)]; simp [saysB]
theorem tol_ends (ho : Ord xs o) {i : Nat} (hi : i < cs.length) : (endsS (tolL xs.length o pr se cs) i o).1 ≤ prtK xs.length pr i ∧ prtK xs.length pr i ≤ (endsS (tolL xs.length o pr se cs) i o).2 := by
  have h := tol_stp (pr := pr) (se := se) ho hi
  have hf : fitsO (showsOf (tolL xs.length o pr se cs) i) o = true := by
    unfold fitsO
    cases hs : stpL (showsOf (tolL xs.length o pr se cs) i) o.1 o.2 with
    | nil => rw [hs] at h; cases h
    | cons a l => rfl
  exact (ends_mem hf).2 _ h
theorem true_ear (hc : (chk xs cs).2.2 = 0) (ho : Ord xs o) {a b : Nat} (h : a < cs.length) (h' : b < cs.length) : saysB (earS xs (tolL xs.length o pr se cs) a b).1 (decide (prtK xs.length pr a < prtK xs.length pr b)) (decide (prtK xs.length pr b < prtK xs.length pr a)) = true := by
  have hd := tol_chk (pr := pr) (se := se) hc ho
  have hm := tol_agr (cs := cs) (pr := pr) (se := se) ho
  have ha := List.ne_nil_of_mem hm
  have hl := tolL_len xs.length o pr se cs
  have h1 := ear_one hd ha (by rw [hl]; exact h) (by rw [hl]; exact h')
  have h2 := ear_two hd ha (by rw [hl]; exact h) (by rw [hl]; exact h')
  have ea := tol_ends (pr := pr) (se := se) ho h
  have eb := tol_ends (pr := pr) (se := se) ho h'
  rcases ear_vals hd ha (by rw [hl]; exact h) (by rw [hl]; exact h') with e | e | e
  · rw [e]; rfl
  · have := h1.1 e o hm
    rw [e, decide_eq_true (show prtK xs.length pr a < prtK xs.length pr b by omega)]; rfl
  · have := h2.1 e o hm
    rw [e, decide_eq_true (show prtK xs.length pr b < prtK xs.length pr a by omega)]; simp [saysB]
theorem true_aft (hc : (chk xs cs).2.2 = 0) (ho : Ord xs o) {a : Nat} (h : a < cs.length) : inB (prtK xs.length pr a : Nat) (aftS xs (tolL xs.length o pr se cs) a).1.1 (aftS xs (tolL xs.length o pr se cs) a).1.2 = true := by
  have hd := tol_chk (pr := pr) (se := se) hc ho
  have hm := tol_agr (cs := cs) (pr := pr) (se := se) ho
  have ha := List.ne_nil_of_mem hm
  have hl := tolL_len xs.length o pr se cs
  have ea := tol_ends (pr := pr) (se := se) ho h
  obtain ⟨lo, hi, e, hb, _, _⟩ := aft_ok hd ha (a := a) (by rw [hl]; exact h)
  have := hb o hm
  rw [e]
  unfold inB
  rw [decide_eq_true (show (lo : Int) ≤ (prtK xs.length pr a : Nat) by omega), decide_eq_true (show ((prtK xs.length pr a : Nat) : Int) ≤ (hi : Int) by omega)]; rfl
theorem true_last (hc : (chk xs ds).2.2 = 0) (ho : o ∈ agrL xs ds) : ∃ L, lastS xs ds = (L, 0) ∧ L.length = xs.length ∧ ∀ a, a < xs.length → L.getD a 0 ≠ o.1.getD a 0 := by
  have ha := List.ne_nil_of_mem ho
  have hO := agr_ord ho
  refine ⟨_, last_ok hc ha, by simp, fun a h => ?_⟩
  rw [getD_e (by simpa using h)]
  simp only [List.getElem_map, List.getElem_range]
  have hpl : plc o.2 a < xs.length := by
    obtain ⟨p, hp, e⟩ := hO.p
    rw [e, plc_nats, ← hp.len]; exact List.idxOf_lt_length_iff.2 (hp.mem h)
  have hat : atV o.1 o.2 xs.length a = 3 - o.1.getD a 0 := by unfold atV; rw [if_pos hpl]
  have hv := hO.v a h
  rcases sameL_val (z := 0) (g := fun o : List Int × List Int => atV o.1 o.2 xs.length a) ha with e | e
  · rw [← e o ho, hat]; omega
  · rw [e.1]; omega
end

end Go.Ab.StF
