/-
  THE STATE FAMILY, OUTRIGHT LAWS, PLAIN PART C: Proof, Wrong and Mistaken are the fewest.
-/
import Derived.Test.YtmhbchljhnfahaaDoorPlainC
import Derived.Test.YtmhbchljhnfahaaDoorPlainH
namespace Go.Ab.StF
open Go Go.Ab

section
variable {xs : List (ByteArray × Int)} {cs : List (ByteArray × List Int)}

/-- Some copies of a forme. -/
def onlyL (cs : List (ByteArray × List Int)) (l : List Nat) : List (ByteArray × List Int) := l.map fun i => cs.getD i (ByteArray.empty, [])
/-- Does some order agree with some copies? -/
def agrsB (xs : List (ByteArray × Int)) (cs : List (ByteArray × List Int)) (l : List Nat) : Bool := !(allL xs).all (hitsB cs l)

theorem allL_ne' (hc : (chk xs cs).2.2 = 0) : allL xs ≠ [] := allL_ne (chk_valid hc).fst

theorem hits_iff {l : List Nat} {o : List Int × List Int} (hl : ∀ i ∈ l, i < cs.length) : hitsB cs l o = false ↔ ∀ i ∈ l, fitsO (showsOf cs i) o = true := by
  unfold hitsB
  rw [List.any_eq_false]
  constructor
  · intro h i hi
    have := h i hi
    rw [List.contains_iff_mem, amid_fits] at this
    cases hf : fitsO (showsOf cs i) o with
    | true => rfl
    | false => exact absurd ⟨hl i hi, hf⟩ this
  · intro h i hi
    rw [List.contains_iff_mem, amid_fits, h i hi]
    simp
theorem agrs_iff {l : List Nat} (hl : ∀ i ∈ l, i < cs.length) : agrsB xs cs l = true ↔ ∃ o, Ord xs o ∧ ∀ i ∈ l, fitsO (showsOf cs i) o = true := by
  unfold agrsB
  rw [Bool.not_eq_true', ← Bool.not_eq_true, List.all_eq_true]
  constructor
  · intro h
    obtain ⟨o, ho⟩ := Classical.not_forall.1 h
    obtain ⟨h1, h2⟩ := Classical.not_imp.1 ho
    exact ⟨o, mem_allL.1 h1, (hits_iff hl).1 (Bool.eq_false_iff.2 h2)⟩
  · rintro ⟨o, h1, h2⟩ h
    have := h o (mem_allL.2 h1)
    rw [(hits_iff hl).2 h2] at this
    cases this
theorem agrs_nil (hc : (chk xs cs).2.2 = 0) : agrsB xs cs [] = true := by
  obtain ⟨o, ho⟩ := List.exists_mem_of_ne_nil _ (allL_ne' hc)
  exact (agrs_iff (fun _ h => by cases h)).2 ⟨o, mem_allL.1 ho, fun _ h => by cases h⟩
theorem only_sub {l : List Nat} (hl : Asc 0 cs.length l) : (onlyL cs l).Sublist cs := by
  have h1 : (onlyL cs l).Sublist ((List.range cs.length).map fun i => cs.getD i (ByteArray.empty, [])) := by
    unfold onlyL
    rw [asc_filter hl]
    exact List.filter_sublist.map _
  have h2 : ((List.range cs.length).map fun i => cs.getD i (ByteArray.empty, [])) = cs := by
    apply List.ext_getElem
    · simp
    · intro i h1 h2
      rw [List.getElem_map, List.getElem_range, getD_e h2]
  rwa [h2] at h1
theorem only_chk (hc : (chk xs cs).2.2 = 0) {l : List Nat} (hl : Asc 0 cs.length l) (hne : l ≠ []) : (chk xs (onlyL cs l)).2.2 = 0 :=
  chk_cops hc ((chk_iff.1 hc).2.sub (only_sub hl) (by rw [onlyL, List.length_map]; exact List.length_pos_iff.2 hne))
theorem only_agr {l : List Nat} (hl : ∀ i ∈ l, i < cs.length) : agrL xs (onlyL cs l) ≠ [] ↔ agrsB xs cs l = true := by
  rw [agrs_iff hl]
  constructor
  · intro h
    obtain ⟨o, ho⟩ := List.exists_mem_of_ne_nil _ h
    obtain ⟨h1, h2⟩ := mem_agr.1 ho
    exact ⟨o, h1, fun i hi => h2 _ (List.mem_map_of_mem hi)⟩
  · rintro ⟨o, h1, h2⟩ h
    have : o ∈ agrL xs (onlyL cs l) := mem_agr.2 ⟨h1, fun c hc => by obtain ⟨i, hi, rfl⟩ := List.mem_map.1 hc; exact h2 i hi⟩
    rw [h] at this; cases this
theorem only_first (hc : (chk xs cs).2.2 = 0) {l : List Nat} (hl : Asc 0 cs.length l) (hne : l ≠ []) : ((firstS xs (onlyL cs l)).2.2 == 0) = agrsB xs cs l := by
  by_cases h : agrL xs (onlyL cs l) = []
  · rw [first_no (only_chk hc hl hne) h]
    symm
    rw [Bool.eq_false_iff.2 fun h' => (only_agr fun i hi => (hl.2 i hi).2).2 h' h]
    rfl
  · rw [first_ok (only_chk hc hl hne) h, (only_agr fun i hi => (hl.2 i hi).2).1 h]
    rfl

/-! ### Proof -/
/-! ### Wrong -/
theorem best_of {α : Type} [Inhabited α] {A : List α} (d : α) (h : A ≠ []) (g : α → List Int) : ∃ a ∈ A, bestF (g (A.headD d)) (A.tail.map g) = g a ∧ ∀ b ∈ A, ltK (g b) (g a) = false := by
  cases A with
  | nil => exact absurd rfl h
  | cons x A =>
    simp only [List.headD_cons, List.tail_cons]
    obtain ⟨h1, h2⟩ := bestF_spec (A.map g) (g x)
    rw [← List.map_cons] at h1 h2
    obtain ⟨a, ha, he⟩ := List.mem_map.1 h1
    exact ⟨a, ha, he.symm, fun b hb => by rw [he]; exact h2 _ (List.mem_map_of_mem hb)⟩
theorem ltK_len {a b : List Int} (h : ltK b a = false) : a.length ≤ b.length := by
  rw [Bool.eq_false_iff, Ne, ltK_iff] at h
  omega
theorem amid_asc (cs : List (ByteArray × List Int)) (o : List Int × List Int) : Asc 0 cs.length (amidL cs o) := filter_asc _

theorem wrong_cases (hc : (chk xs cs).2.2 = 0) : ∃ o, Ord xs o ∧ wrongS xs cs = (natsV (amidL cs o), 0) ∧ ∀ o', Ord xs o' → (amidL cs o).length ≤ (amidL cs o').length := by
  obtain ⟨o, h1, h2, h3⟩ := best_of (([], []) : List Int × List Int) (allL_ne' hc) fun o => natsV (amidL cs o)
  refine ⟨o, mem_allL.1 h1, by unfold wrongS; rw [if_neg (fun h => h hc), h2], fun o' ho' => ?_⟩
  have := ltK_len (h3 o' (mem_allL.2 ho'))
  simpa [natsV] using this
theorem rest_agrs {o : List Int × List Int} (ho : Ord xs o) : agrsB xs cs ((List.range cs.length).filter fun i => !(amidL cs o).contains i) = true := by
  refine (agrs_iff fun i hi => List.mem_range.1 (List.mem_filter.1 hi).1).2 ⟨o, ho, fun i hi => ?_⟩
  obtain ⟨h1, h2⟩ := List.mem_filter.1 hi
  cases hf : fitsO (showsOf cs i) o with
  | true => rfl
  | false =>
    have : i ∈ amidL cs o := amid_fits.2 ⟨List.mem_range.1 h1, hf⟩
    rw [List.contains_iff_mem.2 this] at h2; cases h2
theorem kept_agrs {m : Nat} (hm : ∀ o', Ord xs o' → m ≤ (amidL cs o').length) (p : Nat → Bool) (hp : ((List.range cs.length).filter p).length < m) : agrsB xs cs ((List.range cs.length).filter fun i => !p i) = false := by
  rw [Bool.eq_false_iff, Ne, agrs_iff fun i hi => List.mem_range.1 (List.mem_filter.1 hi).1]
  rintro ⟨o, h1, h2⟩
  have h3 : (amidL cs o).length ≤ ((List.range cs.length).filter p).length := by
    refine List.Nodup.length_le_of_subset ((amid_asc cs o).1.imp fun h => Nat.ne_of_lt h) fun i hi => ?_
    obtain ⟨h4, h5⟩ := amid_fits.1 hi
    refine List.mem_filter.2 ⟨List.mem_range.2 h4, ?_⟩
    cases hpi : p i with
    | true => rfl
    | false =>
      have := h2 i (List.mem_filter.2 ⟨List.mem_range.2 h4, by rw [hpi]; rfl⟩)
      rw [h5] at this; cases this
  have := hm o h1
  omega

/-! ### Mistaken -/
theorem mist_cases (hc : (chk xs cs).2.2 = 0) : ∃ o, Ord xs o ∧ mistS xs cs = ((offS xs.length cs o).map (rdI xs.length), 0) ∧ ∀ o', Ord xs o' → (offS xs.length cs o).length ≤ (offS xs.length cs o').length := by
  obtain ⟨o, h1, h2, h3⟩ := best_of (([], []) : List Int × List Int) (allL_ne' hc) (offS xs.length cs)
  refine ⟨o, mem_allL.1 h1, by unfold mistS; rw [if_neg (fun h => h hc), h2]; rfl, fun o' ho' => ?_⟩
  exact ltK_len (h3 o' (mem_allL.2 ho'))
theorem bestK_mem (ss : List Int) (o : List Int × List Int) (n : Nat) : ∃ k, k ≤ n ∧ bestK ss o n = natsV (amiL ss (stateS k o)) := by
  have h := (bestF_spec ((List.range n).map fun k => natsV (amiL ss (stateS (k + 1) o))) (natsV (amiL ss (stateS 0 o)))).1
  unfold bestK
  rcases List.mem_cons.1 h with h | h
  · exact ⟨0, Nat.zero_le _, h⟩
  · obtain ⟨k, hk, he⟩ := List.mem_map.1 h
    exact ⟨k + 1, by have := List.mem_range.1 hk; omega, he.symm⟩
theorem bestK_le (ss : List Int) (o : List Int × List Int) {n k : Nat} (hk : k ≤ n) : (bestK ss o n).length ≤ (amiL ss (stateS k o)).length := by
  have h := (bestF_spec ((List.range n).map fun k => natsV (amiL ss (stateS (k + 1) o))) (natsV (amiL ss (stateS 0 o)))).2
  have h2 : natsV (amiL ss (stateS k o)) ∈ natsV (amiL ss (stateS 0 o)) :: (List.range n).map fun k => natsV (amiL ss (stateS (k + 1) o)) := by
    cases k with
    | zero => simp
    | succ k => exact List.mem_cons_of_mem _ (List.mem_map.2 ⟨k, List.mem_range.2 (by omega), rfl⟩)
  have := ltK_len (h _ h2)
  rw [show (natsV (amiL ss (stateS k o))).length = (amiL ss (stateS k o)).length by simp [natsV]] at this
  exact this
theorem bestK_asc (ss : List Int) (o : List Int × List Int) (n : Nat) : (bestK ss o n).Pairwise (· < ·) := by
  obtain ⟨k, _, h⟩ := bestK_mem ss o n
  rw [h, natsV, List.pairwise_map]
  have : (amiL ss (stateS k o)).Pairwise (· < ·) := List.Pairwise.sublist List.filter_sublist List.pairwise_lt_range
  exact this.imp fun h => by omega
theorem offS_asc {n : Nat} (cs : List (ByteArray × List Int)) {o : List Int × List Int} (ho : o.1.length = n) : (offS n cs o).Pairwise (· < ·) := by
  unfold offS
  rw [List.pairwise_flatMap]
  refine ⟨fun i _ => ?_, List.Pairwise.imp ?_ (List.pairwise_lt_range)⟩
  · rw [List.pairwise_map]
    exact (bestK_asc _ _ _).imp fun h => by omega
  · intro i j hij x hx y hy
    obtain ⟨k, hk, rfl⟩ := List.mem_map.1 hx
    obtain ⟨q, hq, rfl⟩ := List.mem_map.1 hy
    have h1 := bestK_vals ho k hk
    have h2 := bestK_vals ho q hq
    have h3 : ((i : Int) + 1) * n ≤ (j : Int) * n := Int.mul_le_mul_of_nonneg_right (by omega) (by omega)
    rw [Int.add_mul] at h3
    omega
theorem rdI_of {n i : Nat} {k : Int} (h0 : 0 ≤ k) (h1 : k < n) : rdI n ((i : Int) * n + k) = ((i : Int), k) := by
  have hp : 0 ≤ (i : Int) * n := Int.mul_nonneg (by omega) (by omega)
  have hn : (n : Int) ≠ 0 := by omega
  unfold rdI
  rw [Int.tdiv_eq_ediv_of_nonneg (by omega), Int.tmod_eq_emod_of_nonneg (by omega), Int.add_comm, Int.add_mul_ediv_right _ _ hn, Int.add_mul_emod_self_right, Int.ediv_eq_zero_of_lt h0 h1, Int.emod_eq_of_lt h0 h1, Int.zero_add]
theorem offS_mem {n : Nat} {o : List Int × List Int} (ho : o.1.length = n) {x : Int} (hx : x ∈ offS n cs o) : ∃ i k : Nat, i < cs.length ∧ k < n ∧ rdI n x = ((i : Int), (k : Int)) ∧ (k : Int) ∈ bestK (showsOf cs i) o n := by
  obtain ⟨i, hi, hx⟩ := List.mem_flatMap.1 hx
  obtain ⟨k, hk, rfl⟩ := List.mem_map.1 hx
  obtain ⟨h1, h2⟩ := bestK_vals ho k hk
  refine ⟨i, k.toNat, List.mem_range.1 hi, by omega, ?_, ?_⟩
  · rw [rdI_of h1 h2]; congr 1; omega
  · rwa [show ((k.toNat : Nat) : Int) = k by omega]
theorem rdI_mem {n : Nat} {o : List Int × List Int} (ho : o.1.length = n) {i : Nat} (hi : i < cs.length) {k : Int} (hk : k ∈ bestK (showsOf cs i) o n) : ((i : Int), k) ∈ (offS n cs o).map (rdI n) := by
  obtain ⟨h1, h2⟩ := bestK_vals ho k hk
  refine List.mem_map.2 ⟨(i : Int) * n + k, List.mem_flatMap.2 ⟨i, List.mem_range.2 hi, List.mem_map.2 ⟨k, hk, rfl⟩⟩, rdI_of h1 h2⟩
theorem rdI_lt {n : Nat} (hn : 0 < n) {x y : Int} (hx : 0 ≤ x) (h : x < y) : (rdI n x).1 < (rdI n y).1 ∨ ((rdI n x).1 = (rdI n y).1 ∧ (rdI n x).2 < (rdI n y).2) := by
  unfold rdI
  simp only
  rw [Int.tdiv_eq_ediv_of_nonneg hx, Int.tmod_eq_emod_of_nonneg hx, Int.tdiv_eq_ediv_of_nonneg (by omega), Int.tmod_eq_emod_of_nonneg (by omega)]
  have h1 := Int.mul_ediv_add_emod x n
  have h2 := Int.mul_ediv_add_emod y n
  have h3 := Int.emod_nonneg x (show (n : Int) ≠ 0 by omega)
  have h4 := Int.emod_lt_of_pos y (show (0 : Int) < n by omega)
  have h5 : x / (n : Int) ≤ y / (n : Int) := Int.ediv_le_ediv (by omega) (Int.le_of_lt h)
  rcases Int.lt_or_eq_of_le h5 with h6 | h6
  · exact .inl h6
  · right
    refine ⟨h6, ?_⟩
    rw [h6] at h1
    omega
theorem fits_best {ss : List Int} {n : Nat} {o : List Int × List Int} (hs : ss.length = n) (ho : o.1.length = n) (hl : o.2.length = n) : fitsO ss o = (bestK ss o n).isEmpty := by
  rw [Bool.eq_iff_iff, fits_any hs ho hl, List.any_eq_true]
  constructor
  · rintro ⟨k, h1, h2⟩
    have := bestK_le ss o (n := n) (k := k) (by have := List.mem_range.1 h1; omega)
    rw [List.isEmpty_iff] at h2 ⊢
    rw [h2] at this
    exact List.eq_nil_of_length_eq_zero (by simpa using this)
  · intro h
    obtain ⟨k, h1, h2⟩ := bestK_mem ss o n
    refine ⟨k, List.mem_range.2 (by omega), ?_⟩
    rw [h2] at h
    cases he : amiL ss (stateS k o) with
    | nil => rfl
    | cons a l => rw [he] at h; cases h
theorem amid_off (hc : (chk xs cs).2.2 = 0) {o : List Int × List Int} (ho : Ord xs o) : (amidL cs o).length ≤ (offS xs.length cs o).length := by
  have hv := chk_valid hc
  have hO := ord_okO hv.l5 ho
  have h : ∀ i, i ≤ cs.length → ((List.range i).filter (odB cs o)).length ≤ (offU xs.length cs o i).length := fun i => by
    induction i with
    | zero => intro _; simp
    | succ i ih =>
      intro hi
      have := ih (by omega)
      rw [List.range_succ, List.filter_append, offU_succ, List.length_append, List.length_append, List.length_map]
      cases hb : odB cs o i with
      | false => simp [hb]; omega
      | true =>
        have hf : fitsO (showsOf cs i) o = false := by unfold fitsO; unfold odB at hb; rw [hb]; rfl
        rw [fits_best (by rw [showsOf_eq (by omega)]; exact hv.len _ (List.getElem_mem _)) hO.l hO.m] at hf
        have : 0 < (bestK (showsOf cs i) o xs.length).length := List.length_pos_iff.2 (by simpa using hf)
        simp [hb]; omega
  have := h cs.length (Nat.le_refl _)
  rwa [← amid_od, ← offS_U] at this

/-! ### Readings left out -/
/-- A copy without some readings. -/
def blankC (l : List (Int × Int)) (i : Nat) (ss : List Int) : List Int := (List.range ss.length).map fun j : Nat => if l.contains ((i : Int), (j : Int)) then 0 else ss.getD j 0
def blankL (cs : List (ByteArray × List Int)) (l : List (Int × Int)) : List (ByteArray × List Int) := (List.range cs.length).map fun i => ((cs.getD i (ByteArray.empty, [])).1, blankC l i (showsOf cs i))
theorem blankC_get (l : List (Int × Int)) (i : Nat) (ss : List Int) (j : Nat) : (blankC l i ss).getD j 0 = if l.contains ((i : Int), (j : Int)) then 0 else ss.getD j 0 := by
  unfold blankC
  by_cases h : j < ss.length
  · rw [getD_e (by simpa using h)]; simp
  · rw [List.getD_eq_getElem?_getD, List.getElem?_eq_none (by simp; omega)]
    have : ss.getD j 0 = 0 := by rw [List.getD_eq_getElem?_getD, List.getElem?_eq_none (by omega)]; rfl
    rw [this]; simp
theorem blankC_less (l : List (Int × Int)) (i : Nat) (ss : List Int) : LessS (blankC l i ss) ss := by
  refine ⟨by simp [blankC], fun j => ?_⟩
  rw [blankC_get]; split
  · exact .inl rfl
  · exact .inr rfl
theorem blank_len (cs : List (ByteArray × List Int)) (l : List (Int × Int)) : (blankL cs l).length = cs.length := by simp [blankL]
theorem blank_shows {l : List (Int × Int)} {i : Nat} (hi : i < cs.length) : showsOf (blankL cs l) i = blankC l i (showsOf cs i) := by
  rw [showsOf_eq (by rw [blank_len]; exact hi)]; simp [blankL]
theorem blank_chk (hc : (chk xs cs).2.2 = 0) (l : List (Int × Int)) : (chk xs (blankL cs l)).2.2 = 0 := by
  have hv := chk_valid hc
  refine chk_cops hc ((chk_iff.1 hc).2.same ?_ fun c hcm => ?_)
  · apply List.ext_getElem
    · simp [blankL]
    · intro i h1 h2
      have : i < cs.length := by simpa using h2
      simp [blankL, this]
  · obtain ⟨i, hi, rfl⟩ := List.mem_map.1 hcm
    have hi := List.mem_range.1 hi
    have h1 := hv.len _ (List.getElem_mem hi)
    have h2 := hv.shows _ (List.getElem_mem hi)
    rw [showsOf_eq hi]
    refine ⟨by simp [blankC, h1], fun v hv => ?_⟩
    obtain ⟨j, hj, rfl⟩ := List.mem_map.1 hv
    have hj := List.mem_range.1 hj
    split
    · omega
    · rw [getD_e hj]; exact h2 _ (List.getElem_mem hj)
theorem blank_mem {l : List (Int × Int)} {o : List Int × List Int} : o ∈ agrL xs (blankL cs l) ↔ Ord xs o ∧ ∀ i, i < cs.length → fitsO (blankC l i (showsOf cs i)) o = true := by
  rw [mem_agr]
  refine and_congr Iff.rfl ⟨fun h i hi => ?_, fun h c hc => ?_⟩
  · have := h _ (List.getElem_mem (l := blankL cs l) (n := i) (by rw [blank_len]; exact hi))
    rwa [← showsOf_eq (by rw [blank_len]; exact hi), blank_shows hi] at this
  · obtain ⟨i, hi, rfl⟩ := List.mem_map.1 hc
    exact h i (List.mem_range.1 hi)
/-- Without all that is amiss in an order it agrees. -/
theorem blank_agr (hc : (chk xs cs).2.2 = 0) {o : List Int × List Int} (ho : Ord xs o) : o ∈ agrL xs (blankL cs ((offS xs.length cs o).map (rdI xs.length))) := by
  have hv := chk_valid hc
  have hO := ord_okO hv.l5 ho
  refine blank_mem.2 ⟨ho, fun i hi => fitsO_iff.2 ?_⟩
  obtain ⟨k, h1, h2⟩ := bestK_mem (showsOf cs i) o xs.length
  refine ⟨k, by rw [hO.m]; exact h1, ?_⟩
  have hsl : (showsOf cs i).length = xs.length := by rw [showsOf_eq hi]; exact hv.len _ (List.getElem_mem _)
  unfold fitB
  rw [List.all_eq_true]
  intro j hj
  have hj : j < xs.length := by have := List.mem_range.1 hj; rw [(blankC_less _ _ _).1, hsl] at this; exact this
  rw [blankC_get]
  split
  · rfl
  · rename_i hn
    cases hb : amiB (showsOf cs i) (stateS k o) j with
    | true =>
      exfalso
      refine hn (List.contains_iff_mem.2 (rdI_mem hO.l hi ?_))
      rw [h2]
      exact List.mem_map.2 ⟨j, List.mem_filter.2 ⟨List.mem_range.2 (by rw [stateS_len, hO.l]; exact hj), hb⟩, rfl⟩
    | false =>
      unfold amiB at hb
      rw [stateS_get (by rw [hO.l]; exact hj)] at hb
      simp only [Bool.and_eq_false_iff, bne_eq_false_iff_eq] at hb
      simp only [Bool.or_eq_true, beq_iff_eq]
      exact hb
/-- Without fewer readings none agrees. -/
theorem blank_few (hc : (chk xs cs).2.2 = 0) {m : Nat} (hm : ∀ o', Ord xs o' → m ≤ (offS xs.length cs o').length) {l : List (Int × Int)} (hl : l.length < m) : agrL xs (blankL cs l) = [] := by
  have hv := chk_valid hc
  refine List.eq_nil_iff_forall_not_mem.2 fun o hoo => ?_
  obtain ⟨ho, h⟩ := blank_mem.1 hoo
  have hO := ord_okO hv.l5 ho
  have hk : ∀ i, i < cs.length → ∃ k, k ≤ xs.length ∧ ∀ j ∈ amiL (showsOf cs i) (stateS k o), ((i : Int), (j : Int)) ∈ l := fun i hi => by
    obtain ⟨k, h1, h2⟩ := fitsO_iff.1 (h i hi)
    refine ⟨k, by rw [hO.m] at h1; exact h1, fun j hj => ?_⟩
    obtain ⟨h3, h4⟩ := List.mem_filter.1 hj
    have h3 : j < xs.length := by have := List.mem_range.1 h3; rwa [stateS_len, hO.l] at this
    have hsl : (showsOf cs i).length = xs.length := by rw [showsOf_eq hi]; exact hv.len _ (List.getElem_mem _)
    have h5 := List.all_eq_true.1 h2 j (List.mem_range.2 (by rw [(blankC_less _ _ _).1, hsl]; exact h3))
    rw [blankC_get] at h5
    split at h5
    · rename_i hin; exact List.contains_iff_mem.1 hin
    · exfalso
      unfold amiB at h4
      rw [stateS_get (by rw [hO.l]; exact h3)] at h4
      simp only [Bool.and_eq_true, bne_iff_ne] at h4
      simp only [Bool.or_eq_true, beq_iff_eq] at h5
      rcases h5 with h5 | h5
      · exact h4.1 h5
      · exact h4.2 h5
  -- for each copy a list of its readings, each one of those left out
  have hS : ∀ i, i ≤ cs.length → ∃ S : List (Int × Int), S.Nodup ∧ (∀ p ∈ S, p ∈ l ∧ p.1 < (i : Int)) ∧ (offU xs.length cs o i).length ≤ S.length := fun i => by
    induction i with
    | zero => intro _; exact ⟨[], List.nodup_nil, fun _ h => (by cases h), Nat.le_refl _⟩
    | succ i ih =>
      intro hi
      obtain ⟨S, h1, h2, h3⟩ := ih (by omega)
      obtain ⟨k, h4, h5⟩ := hk i (by omega)
      refine ⟨S ++ (amiL (showsOf cs i) (stateS k o)).map fun j : Nat => ((i : Int), (j : Int)), ?_, ?_, ?_⟩
      · refine List.nodup_append.2 ⟨h1, ?_, ?_⟩
        · have : (amiL (showsOf cs i) (stateS k o)).Pairwise (· < ·) := List.Pairwise.sublist List.filter_sublist List.pairwise_lt_range
          rw [List.nodup_iff_pairwise_ne, List.pairwise_map]
          exact this.imp fun {a b} (h : a < b) he => by
            have := (Prod.mk.inj he).2
            omega
        · intro p hp q hq he
          subst he
          obtain ⟨j, _, rfl⟩ := List.mem_map.1 hq
          have := (h2 _ hp).2
          simp at this
      · intro p hp
        rcases List.mem_append.1 hp with hp | hp
        · exact ⟨(h2 p hp).1, by have := (h2 p hp).2; omega⟩
        · obtain ⟨j, hj, rfl⟩ := List.mem_map.1 hp
          exact ⟨h5 j hj, by simp only; omega⟩
      · rw [offU_succ, List.length_append, List.length_append, List.length_map, List.length_map]
        have := bestK_le (showsOf cs i) o h4
        omega
  obtain ⟨S, h1, h2, h3⟩ := hS cs.length (Nat.le_refl _)
  rw [← offS_U] at h3
  have := List.Nodup.length_le_of_subset h1 fun p hp => (h2 p hp).1
  have := hm o ho
  omega
end
end Go.Ab.StF
