/-
  THE STATE FAMILY, OUTRIGHT LAWS, PLAIN PART C: Proof, Wrong and Mistaken are the fewest.
  THE STATE FAMILY, OUTRIGHT LAWS, PLAIN PART D: both readings of a locus exchanged; the order that goes back; copies in another order, or twice; copies that show what was there.
-/
import Derived.Test.YtmhbchljhnfahaaDoorPlainC
import Derived.Test.YtmhbchljhnfahaaDoorPlainH
namespace Go.Ab.StF
open Go Go.Ab

section
variable {xs : List (ByteArray × Int)} {cs : List (ByteArray × List Int)}

/-- Some copies of a forme. -/
def onlyL (cs : List (ByteArray × List Int)) (l : List Nat) : List (ByteArray × List Int) := l.map fun i => cs.getD i (ByteArray.empty, [])
/-- Does some order agree with some copies? -/
def agrsB (xs : List (ByteArray × Int)) (cs : List (ByteArray × List Int)) (l : List Nat) : Bool := !(allL xs).all (hitsB cs l)

theorem allL_ne' (hc : (chk xs cs).2.2 = 0) : allL xs ≠ [] := allL_ne (chk_valid hc).fst

/-! ### Proof -/
/-! ### Wrong -/
theorem best_of {α : Type} [Inhabited α] {A : List α} (d : α) (h : A ≠ []) (g : α → List Int) : ∃ a ∈ A, bestF (g (A.headD d)) (A.tail.map g) = g a ∧ ∀ b ∈ A, ltK (g b) (g a) = false := by
  cases A with
  | nil => exact absurd rfl h
  | cons x A =>
    simp only [List.headD_cons, List.tail_cons]
    obtain ⟨h1, h2⟩ := bestF_spec (A.map g) (g x)
    rw [← List.map_cons] at h1 h2
    obtain ⟨a, ha, he⟩ := List.mem_map.1 h1
    exact ⟨a, ha, he.symm, fun b hb => by rw [he]; exact h2 _ (List.mem_map_of_mem hb)⟩
theorem ltK_len {a b : List Int} (h : ltK b a = false) : a.length ≤ b.length := by
  rw [Bool.eq_false_iff, Ne, ltK_iff] at h
  omega
theorem wrong_cases (hc : (chk xs cs).2.2 = 0) : ∃ o, Ord xs o ∧ wrongS xs cs = (natsV (amidL cs o), 0) ∧ ∀ o', Ord xs o' → (amidL cs o).length ≤ (amidL cs o').length := by
  obtain ⟨o, h1, h2, h3⟩ := best_of (([], []) : List Int × List Int) (allL_ne' hc) fun o => natsV (amidL cs o)
  refine ⟨o, mem_allL.1 h1, by unfold wrongS; rw [if_neg (fun h => h hc), h2], fun o' ho' => ?_⟩
  have := ltK_len (h3 o' (mem_allL.2 ho'))
  simpa [natsV] using this
/-! ### Mistaken -/
theorem mist_cases (hc : (chk xs cs).2.2 = 0) : ∃ o, Ord xs o ∧ mistS xs cs = ((offS xs.length cs o).map (rdI xs.length), 0) ∧ ∀ o', Ord xs o' → (offS xs.length cs o).length ≤ (offS xs.length cs o').length := by
  obtain ⟨o, h1, h2, h3⟩ := best_of (([], []) : List Int × List Int) (allL_ne' hc) (offS xs.length cs)
  refine ⟨o, mem_allL.1 h1, by unfold mistS; rw [if_neg (fun h => h hc), h2]; rfl, fun o' ho' => ?_⟩
  exact ltK_len (h3 o' (mem_allL.2 ho'))
/-! ### Readings left out -/
/-- A copy without some readings. -/
def blankC (l : List (Int × Int)) (i : Nat) (ss : List Int) : List Int := (List.range ss.length).map fun j : Nat => if l.contains ((i : Int), (j : Int)) then 0 else ss.getD j 0
def blankL (cs : List (ByteArray × List Int)) (l : List (Int × Int)) : List (ByteArray × List Int) := (List.range cs.length).map fun i => ((cs.getD i (ByteArray.empty, [])).1, blankC l i (showsOf cs i))
end
end Go.Ab.StF

namespace Go.Ab.StF
open Go Go.Ab

/-! ### Both readings of a locus exchanged -/
/-- The other reading, if one is known. -/
def oth (v : Int) : Int := if v = 0 then 0 else 3 - v
def flipS (n : Nat) (ss : List Int) : List Int := ss.set n (oth (ss.getD n 0))
def flipX (n : Nat) (xs : List (ByteArray × Int)) : List (ByteArray × Int) := xs.set n ((xs.getD n (ByteArray.empty, 0)).1, oth (xs.getD n (ByteArray.empty, 0)).2)
def flipC (n : Nat) (cs : List (ByteArray × List Int)) : List (ByteArray × List Int) := cs.map fun c => (c.1, flipS n c.2)
def flipO (n : Nat) (o : List Int × List Int) : List Int × List Int := (o.1.set n (3 - o.1.getD n 0), o.2)

theorem getD_set {α : Type} (l : List α) (n j : Nat) (v d : α) : (l.set n v).getD j d = if j = n ∧ n < l.length then v else l.getD j d := by
  simp only [List.getD_eq_getElem?_getD, List.getElem?_set]
  by_cases h : n = j
  · subst h
    by_cases h2 : n < l.length
    · simp [h2]
    · simp [h2]
  · rw [if_neg h, if_neg (fun h' => h h'.1.symm)]

theorem flipS_get {n : Nat} {ss : List Int} (h : n < ss.length) (j : Nat) : (flipS n ss).getD j 0 = if j = n then oth (ss.getD n 0) else ss.getD j 0 := by
  unfold flipS; rw [getD_set]; simp [h]
theorem flipO_get {n : Nat} {o : List Int × List Int} (h : n < o.1.length) (j : Nat) : (flipO n o).1.getD j 0 = if j = n then 3 - o.1.getD n 0 else o.1.getD j 0 := by
  unfold flipO; rw [getD_set]; simp [h]
theorem flipX_get {n : Nat} {xs : List (ByteArray × Int)} (h : n < xs.length) (j : Nat) : ((flipX n xs).getD j (ByteArray.empty, 0)).2 = if j = n then oth (xs.getD n (ByteArray.empty, 0)).2 else (xs.getD j (ByteArray.empty, 0)).2 := by
  unfold flipX; rw [getD_set]
  by_cases hj : j = n
  · simp [h, hj]
  · simp [hj]
theorem flipX_len (n : Nat) (xs : List (ByteArray × Int)) : (flipX n xs).length = xs.length := by simp [flipX]
theorem flipO_twice {n : Nat} {o : List Int × List Int} (h : n < o.1.length) : flipO n (flipO n o) = o := by
  have : (flipO n (flipO n o)).1 = o.1 := by
    apply List.ext_getElem
    · simp [flipO]
    · intro i h1 h2
      have e : (flipO n (flipO n o)).1.getD i 0 = o.1.getD i 0 := by
        rw [flipO_get (by simpa [flipO] using h), flipO_get h, flipO_get h]
        by_cases hi : i = n
        · subst hi; simp; omega
        · simp [hi]
      rw [getD_e h1, getD_e h2] at e
      exact e
  exact Prod.ext this rfl
theorem flip_at {n k j : Nat} {o : List Int × List Int} (h : n < o.1.length) : atV (flipO n o).1 (flipO n o).2 k j = if j = n then 3 - atV o.1 o.2 k j else atV o.1 o.2 k j := by
  unfold atV
  rw [flipO_get h]
  show (if plc o.2 (j : Int) < k then _ else _) = _
  by_cases hj : j = n
  · subst hj; simp only [if_true]; split <;> omega
  · simp only [if_neg hj]
theorem flip_fit {n m k : Nat} {ss : List Int} {o : List Int × List Int} (hv : ∀ v ∈ ss, 0 ≤ v ∧ v ≤ 2) (hs : ss.length = m) (ho : o.1.length = m) (hn : n < m) : fitB (flipS n ss) (flipO n o).1 (flipO n o).2 k = fitB ss o.1 o.2 k := by
  unfold fitB
  rw [show (flipS n ss).length = ss.length by simp [flipS], Bool.eq_iff_iff, List.all_eq_true, List.all_eq_true]
  refine forall_congr' fun j => imp_congr_right fun _ => ?_
  rw [flipS_get (by omega), flip_at (by omega)]
  by_cases hj : j = n
  · subst hj
    simp only [if_true, Bool.or_eq_true, beq_iff_eq, oth]
    by_cases h0 : ss.getD j 0 = 0
    · rw [if_pos h0]; exact ⟨fun _ => .inl h0, fun _ => .inl rfl⟩
    · rw [if_neg h0]
      have hr := hv _ (List.getElem_mem (l := ss) (n := j) (by omega))
      rw [← getD_e (d := 0)] at hr
      constructor
      · intro h; right; rcases h with h | h <;> omega
      · intro h; right; rcases h with h | h
        · exact absurd h h0
        · omega
  · simp only [if_neg hj]
theorem flip_stp {n m : Nat} {ss : List Int} {o : List Int × List Int} (hv : ∀ v ∈ ss, 0 ≤ v ∧ v ≤ 2) (hs : ss.length = m) (ho : o.1.length = m) (hn : n < m) : stpL (flipS n ss) (flipO n o).1 (flipO n o).2 = stpL ss o.1 o.2 := by
  unfold stpL
  show List.filter _ (List.range (o.2.length + 1)) = _
  congr 1
  funext k
  exact flip_fit hv hs ho hn
theorem flip_ami {n m k : Nat} {ss : List Int} {o : List Int × List Int} (hv : ∀ v ∈ ss, 0 ≤ v ∧ v ≤ 2) (hs : ss.length = m) (ho : o.1.length = m) (hn : n < m) : amiL (flipS n ss) (stateS k (flipO n o)) = amiL ss (stateS k o) := by
  unfold amiL
  have hl : (flipO n o).1.length = o.1.length := by simp [flipO]
  rw [stateS_len, stateS_len, hl]
  refine List.filter_congr fun j hj => ?_
  have hj := List.mem_range.1 hj
  unfold amiB
  rw [stateS_get (by rw [hl]; exact hj), stateS_get hj, flipS_get (by omega), flip_at (by omega)]
  by_cases h : j = n
  · subst h
    simp only [if_true, oth]
    by_cases h0 : ss.getD j 0 = 0
    · rw [if_pos h0, h0]; rfl
    · rw [if_neg h0, Bool.eq_iff_iff]
      simp only [Bool.and_eq_true, bne_iff_ne]
      constructor
      · rintro ⟨h1, h2⟩; exact ⟨h0, fun h => h2 (by omega)⟩
      · rintro ⟨h1, h2⟩
        by_cases h3 : 3 - ss.getD j 0 = 0
        · have := hv _ (List.getElem_mem (l := ss) (n := j) (by omega)); rw [getD_e (by omega)] at h3; omega
        · exact ⟨h3, fun h => h2 (by omega)⟩
  · simp only [if_neg h]

theorem flip_bestK {n m : Nat} {ss : List Int} {o : List Int × List Int} (hv : ∀ v ∈ ss, 0 ≤ v ∧ v ≤ 2) (hs : ss.length = m) (ho : o.1.length = m) (hn : n < m) (k : Nat) : bestK (flipS n ss) (flipO n o) k = bestK ss o k := by
  unfold bestK
  rw [flip_ami hv hs ho hn]
  congr 1
  apply List.map_congr_left
  intro q _
  rw [flip_ami hv hs ho hn]

section
variable {xs : List (ByteArray × Int)} {cs : List (ByteArray × List Int)} {n : Nat}

theorem flip_ord (hn : n < xs.length) {o : List Int × List Int} (h : Ord xs o) (_hx : ∀ x ∈ xs, 0 ≤ x.2 ∧ x.2 ≤ 2) : Ord (flipX n xs) (flipO n o) := by
  refine ⟨by simp [flipO, flipX, h.l], fun i hi => ?_, fun i hi => ?_, ?_⟩
  · rw [flipX_len] at hi
    rw [flipO_get (by rw [h.l]; exact hn)]
    split
    · have := h.v n hn; omega
    · exact h.v i hi
  · rw [flipX_len] at hi
    rw [flipX_get hn, flipO_get (by rw [h.l]; exact hn)]
    split
    · have h1 := h.f n hn
      have h2 := h.v n hn
      unfold oth
      split
      · exact .inl rfl
      · rcases h1 with h1 | h1 <;> omega
    · exact h.f i hi
  · rw [flipX_len]; exact h.p
theorem oth_range {v : Int} (h : 0 ≤ v ∧ v ≤ 2) : 0 ≤ oth v ∧ oth v ≤ 2 := by unfold oth; split <;> omega
theorem flipX_fst (hn : n < xs.length) (hx : ∀ x ∈ xs, 0 ≤ x.2 ∧ x.2 ≤ 2) : ∀ x ∈ flipX n xs, 0 ≤ x.2 ∧ x.2 ≤ 2 := fun x h => by
  rcases List.mem_or_eq_of_mem_set h with h | h
  · exact hx x h
  · rw [h, getD_e hn]; exact oth_range (hx _ (List.getElem_mem hn))
theorem flipX_names (hn : n < xs.length) : (flipX n xs).map Prod.fst = xs.map Prod.fst := by
  apply List.ext_getElem
  · simp [flipX]
  · intro i h1 h2
    simp only [List.getElem_map, flipX, List.getElem_set]
    split
    · rename_i h; subst h; rw [getD_e hn]
    · rfl
theorem flip_chk (hc : (chk xs cs).2.2 = 0) (hn : n < xs.length) : (chk (flipX n xs) (flipC n cs)).2.2 = 0 := by
  obtain ⟨h1, h2⟩ := chk_iff.1 hc
  refine chk_iff.2 ⟨⟨by rw [flipX_len]; exact h1.l1, by rw [flipX_len]; exact h1.l5, flipX_names hn ▸ h1.nms, flipX_fst hn h1.fst⟩, ?_⟩
  rw [flipX_len]
  refine h2.same (by simp [flipC, Function.comp_def]) fun c hcm => ?_
  obtain ⟨d, hd, rfl⟩ := List.mem_map.1 hcm
  obtain ⟨h3, h4⟩ := h2.ok d hd
  refine ⟨by simp [flipS, h3], fun v hv => ?_⟩
  rcases List.mem_or_eq_of_mem_set hv with h | h
  · exact h4 v h
  · rw [h, getD_e (by omega)]; exact oth_range (h4 _ (List.getElem_mem _))
theorem flip_shows {i : Nat} (hi : i < cs.length) : showsOf (flipC n cs) i = flipS n (showsOf cs i) := by
  rw [showsOf_eq (by simpa [flipC] using hi), showsOf_eq hi]; simp [flipC]
theorem flip_amid (hv : Valid xs cs) (hn : n < xs.length) {o : List Int × List Int} (ho : o.1.length = xs.length) : amidL (flipC n cs) (flipO n o) = amidL cs o := by
  unfold amidL
  rw [show (flipC n cs).length = cs.length by simp [flipC]]
  refine List.filter_congr fun i hi => ?_
  have hi := List.mem_range.1 hi
  rw [flip_shows hi, flip_stp (by rw [showsOf_eq hi]; exact hv.shows _ (List.getElem_mem _)) (by rw [showsOf_eq hi]; exact hv.len _ (List.getElem_mem _)) ho hn]
theorem flip_ends (hv : Valid xs cs) (hn : n < xs.length) {o : List Int × List Int} (ho : o.1.length = xs.length) {i : Nat} (hi : i < cs.length) : endsS (flipC n cs) i (flipO n o) = endsS cs i o := by
  unfold endsS
  rw [flip_shows hi, flip_stp (by rw [showsOf_eq hi]; exact hv.shows _ (List.getElem_mem _)) (by rw [showsOf_eq hi]; exact hv.len _ (List.getElem_mem _)) ho hn]
theorem flip_off (hv : Valid xs cs) (hn : n < xs.length) {o : List Int × List Int} (ho : o.1.length = xs.length) : offS xs.length (flipC n cs) (flipO n o) = offS xs.length cs o := by
  unfold offS
  rw [show (flipC n cs).length = cs.length by simp [flipC], List.flatMap_def, List.flatMap_def]
  congr 1
  apply List.map_congr_left
  intro i hi
  have hi := List.mem_range.1 hi
  rw [flip_shows hi, flip_bestK (by rw [showsOf_eq hi]; exact hv.shows _ (List.getElem_mem _)) (by rw [showsOf_eq hi]; exact hv.len _ (List.getElem_mem _)) ho hn]
theorem flipX_twice (hn : n < xs.length) (hx : ∀ x ∈ xs, 0 ≤ x.2 ∧ x.2 ≤ 2) : flipX n (flipX n xs) = xs := by
  apply List.ext_getElem
  · simp [flipX]
  · intro i h1 h2
    simp only [flipX, List.getElem_set]
    split
    · rename_i h; subst h
      simp [hn]
      unfold oth
      have := hx _ (List.getElem_mem hn)
      apply Prod.ext
      · rfl
      · simp only; split <;> split <;> omega
    · rfl
/-- The orders of a forme in which both readings of a locus are exchanged. -/
theorem flip_all (hn : n < xs.length) (hx : ∀ x ∈ xs, 0 ≤ x.2 ∧ x.2 ≤ 2) (o : List Int × List Int) : Ord (flipX n xs) o ↔ ∃ p, Ord xs p ∧ o = flipO n p := by
  constructor
  · intro h
    have h1 := flip_ord (n := n) (by rw [flipX_len]; exact hn) h (flipX_fst hn hx)
    rw [flipX_twice hn hx] at h1
    exact ⟨flipO n o, h1, (flipO_twice (by rw [h.l, flipX_len]; exact hn)).symm⟩
  · rintro ⟨p, hp, rfl⟩
    exact flip_ord hn hp hx
theorem flip_agr (hc : (chk xs cs).2.2 = 0) (hn : n < xs.length) (o : List Int × List Int) : o ∈ agrL (flipX n xs) (flipC n cs) ↔ ∃ p ∈ agrL xs cs, o = flipO n p := by
  have hv := chk_valid hc
  constructor
  · intro ho
    obtain ⟨p, hp, rfl⟩ := (flip_all hn hv.fst o).1 (agr_ord ho)
    exact ⟨p, (agr_iff hp).2 (by rw [← flip_amid hv hn hp.l]; exact amid_none ho), rfl⟩
  · rintro ⟨p, hp, rfl⟩
    exact (agr_iff (flip_ord hn (agr_ord hp) hv.fst)).2 (by rw [flip_amid hv hn (agr_ord hp).l]; exact amid_none hp)
theorem flip_len (hc : (chk xs cs).2.2 = 0) (hn : n < xs.length) : (agrL (flipX n xs) (flipC n cs)).length = (agrL xs cs).length := by
  have hv := chk_valid hc
  have hle : (agrL xs cs).length ≤ (agrL (flipX n xs) (flipC n cs)).length := by
    have h1 : ((agrL xs cs).map (flipO n)).Nodup := by
      rw [List.nodup_iff_pairwise_ne, List.pairwise_map]
      refine List.Pairwise.imp_of_mem ?_ (agr_nodup xs cs)
      intro a b ha hb hne he
      have := congrArg (flipO n) he
      rw [flipO_twice (by rw [(agr_ord ha).l]; exact hn), flipO_twice (by rw [(agr_ord hb).l]; exact hn)] at this
      exact hne this
    have := List.Nodup.length_le_of_subset h1 fun o ho => by
      obtain ⟨p, hp, rfl⟩ := List.mem_map.1 ho
      exact (flip_agr hc hn _).2 ⟨p, hp, rfl⟩
    simpa using this
  refine Nat.le_antisymm ?_ hle
  have := List.Nodup.length_le_of_subset (l₁ := agrL (flipX n xs) (flipC n cs)) (l₂ := (agrL xs cs).map (flipO n)) (agr_nodup _ _) fun o ho => by
    obtain ⟨p, hp, rfl⟩ := (flip_agr hc hn o).1 ho
    exact List.mem_map_of_mem hp
  simpa using this
theorem flip_ne (hc : (chk xs cs).2.2 = 0) (hn : n < xs.length) : agrL (flipX n xs) (flipC n cs) = [] ↔ agrL xs cs = [] := by
  rw [← List.length_eq_zero_iff, ← List.length_eq_zero_iff, flip_len hc hn]

theorem bestF_set {l0 l0' : List Int} {ls ls' : List (List Int)} (h : ∀ l, l ∈ l0 :: ls ↔ l ∈ l0' :: ls') : bestF l0 ls = bestF l0' ls' := by
  obtain ⟨h1, h2⟩ := bestF_spec ls' l0'
  exact bestF_is ((h _).2 h1) fun l hl => h2 l ((h l).1 hl)
theorem best_map {α : Type} {A B : List α} (d : α) {g f : α → List Int} (hA : A ≠ []) (hB : B ≠ []) (h : ∀ l, (∃ a ∈ A, g a = l) ↔ ∃ b ∈ B, f b = l) : bestF (g (A.headD d)) (A.tail.map g) = bestF (f (B.headD d)) (B.tail.map f) := by
  cases A with
  | nil => exact absurd rfl hA
  | cons a A =>
    cases B with
    | nil => exact absurd rfl hB
    | cons b B =>
      simp only [List.headD_cons, List.tail_cons]
      apply bestF_set
      intro l
      rw [← List.map_cons (f := g), ← List.map_cons (f := f), List.mem_map, List.mem_map]
      exact h l
theorem flip_wrong (hc : (chk xs cs).2.2 = 0) (hn : n < xs.length) : wrongS (flipX n xs) (flipC n cs) = wrongS xs cs := by
  have hv := chk_valid hc
  unfold wrongS
  rw [if_neg (fun h => h (flip_chk hc hn)), if_neg (fun h => h hc)]
  congr 1
  refine best_map (([], []) : List Int × List Int) (g := fun o => natsV (amidL (flipC n cs) o)) (f := fun o => natsV (amidL cs o)) (allL_ne' (flip_chk hc hn)) (allL_ne' hc) fun l => ?_
  constructor
  · rintro ⟨o, ho, rfl⟩
    obtain ⟨p, hp, rfl⟩ := (flip_all hn hv.fst o).1 (mem_allL.1 ho)
    exact ⟨p, mem_allL.2 hp, by rw [flip_amid hv hn hp.l]⟩
  · rintro ⟨p, hp, rfl⟩
    exact ⟨flipO n p, mem_allL.2 (flip_ord hn (mem_allL.1 hp) hv.fst), by rw [flip_amid hv hn (mem_allL.1 hp).l]⟩
theorem flip_mist (hc : (chk xs cs).2.2 = 0) (hn : n < xs.length) : mistS (flipX n xs) (flipC n cs) = mistS xs cs := by
  have hv := chk_valid hc
  unfold mistS
  rw [if_neg (fun h => h (flip_chk hc hn)), if_neg (fun h => h hc), flipX_len]
  congr 2
  refine best_map (([], []) : List Int × List Int) (g := offS xs.length (flipC n cs)) (f := offS xs.length cs) (allL_ne' (flip_chk hc hn)) (allL_ne' hc) fun l => ?_
  constructor
  · rintro ⟨o, ho, rfl⟩
    obtain ⟨p, hp, rfl⟩ := (flip_all hn hv.fst o).1 (mem_allL.1 ho)
    exact ⟨p, mem_allL.2 hp, by rw [flip_off hv hn hp.l]⟩
  · rintro ⟨p, hp, rfl⟩
    exact ⟨flipO n p, mem_allL.2 (flip_ord hn (mem_allL.1 hp) hv.fst), by rw [flip_off hv hn (mem_allL.1 hp).l]⟩
theorem flip_read (hc : (chk xs cs).2.2 = 0) (ha : agrL xs cs ≠ []) (hn : n < xs.length) : (readS (flipX n xs) (flipC n cs) n).1 = oth (readS xs cs n).1 ∧ (readS (flipX n xs) (flipC n cs) n).2 = 0 := by
  have ha' : agrL (flipX n xs) (flipC n cs) ≠ [] := fun h => ha ((flip_ne hc hn).1 h)
  rw [read_ok hc ha hn, read_ok (flip_chk hc hn) ha' (by rw [flipX_len]; exact hn)]
  refine ⟨?_, rfl⟩
  simp only
  have hg : ∀ p ∈ agrL xs cs, (flipO n p).1.getD n 0 = 3 - p.1.getD n 0 := fun p hp => by rw [flipO_get (by rw [(agr_ord hp).l]; exact hn)]; simp
  rcases sameL_val (L := agrL xs cs) (g := fun o => o.1.getD n 0) (z := 0) ha with g | ⟨g, o, ho, o', ho', hne⟩
  · generalize sameL 0 ((agrL xs cs).map fun o => o.1.getD n 0) = v at g ⊢
    obtain ⟨p, hp⟩ := List.exists_mem_of_ne_nil _ ha
    have h1 := (agr_ord hp).v n hn
    have h2 : p.1.getD n 0 = v := g p hp
    have h3 : oth v = 3 - v := by unfold oth; rw [if_neg (by omega)]
    rw [h3]
    refine sameL_all ha' fun o ho => ?_
    obtain ⟨p, hp, rfl⟩ := (flip_agr hc hn o).1 ho
    rw [hg p hp]
    have : p.1.getD n 0 = v := g p hp
    omega
  · rw [g]
    show _ = 0
    rcases sameL_val (L := agrL (flipX n xs) (flipC n cs)) (g := fun o => o.1.getD n 0) (z := 0) ha' with k | k
    · exfalso
      have h1 := k _ ((flip_agr hc hn _).2 ⟨o, ho, rfl⟩)
      have h2 := k _ ((flip_agr hc hn _).2 ⟨o', ho', rfl⟩)
      rw [hg o ho] at h1
      rw [hg o' ho'] at h2
      omega
    · exact k.1
theorem flip_ear (hc : (chk xs cs).2.2 = 0) (ha : agrL xs cs ≠ []) (hn : n < xs.length) {a b : Nat} (h : a < cs.length) (h' : b < cs.length) : earS (flipX n xs) (flipC n cs) a b = earS xs cs a b := by
  have hv := chk_valid hc
  have ha' : agrL (flipX n xs) (flipC n cs) ≠ [] := fun h => ha ((flip_ne hc hn).1 h)
  have hl : (flipC n cs).length = cs.length := by simp [flipC]
  rw [ear_ok hc ha h h', ear_ok (flip_chk hc hn) ha' (by rw [hl]; exact h) (by rw [hl]; exact h')]
  have hg : ∀ {a b : Nat}, a < cs.length → b < cs.length → ((agrL (flipX n xs) (flipC n cs)).all fun o => decide ((endsS (flipC n cs) a o).2 < (endsS (flipC n cs) b o).1)) = (agrL xs cs).all fun o => decide ((endsS cs a o).2 < (endsS cs b o).1) := fun {a b} h h' => by
    rw [Bool.eq_iff_iff, List.all_eq_true, List.all_eq_true]
    constructor
    · intro k p hp
      have := k _ ((flip_agr hc hn _).2 ⟨p, hp, rfl⟩)
      rwa [flip_ends hv hn (agr_ord hp).l h, flip_ends hv hn (agr_ord hp).l h'] at this
    · intro k o ho
      obtain ⟨p, hp, rfl⟩ := (flip_agr hc hn o).1 ho
      rw [flip_ends hv hn (agr_ord hp).l h, flip_ends hv hn (agr_ord hp).l h']
      exact k p hp
  rw [hg h h', hg h' h]

/-! ### The order that goes back -/
def backO (o : List Int × List Int) : List Int × List Int := (o.1.map oth, o.2.reverse)
theorem back_plc {p : List Nat} (hp : Perm n p) {j : Nat} (hj : j < n) : plc (natsV p).reverse (j : Int) = n - 1 - plc (natsV p) j := by
  have hr : Perm n p.reverse := ⟨by rw [List.nodup_iff_pairwise_ne, List.pairwise_reverse]; exact (List.nodup_iff_pairwise_ne.1 hp.nodup).imp Ne.symm, fun x hx => hp.lt x (by simpa using hx), by simpa using hp.len⟩
  have e : (natsV p).reverse = natsV p.reverse := by simp [natsV, List.map_reverse]
  rw [e, plc_nats, plc_nats]
  have h1 := hp.get' hj
  have hlt : p.idxOf j < p.length := List.idxOf_lt_length_iff.2 (hp.mem hj)
  have hlen := hp.len
  refine hr.get (t := n - 1 - p.idxOf j) ?_
  rw [List.getElem?_reverse (by omega), show p.length - 1 - (n - 1 - p.idxOf j) = p.idxOf j by omega]
  exact h1
theorem back_get {o : List Int × List Int} (j : Nat) : (backO o).1.getD j 0 = oth (o.1.getD j 0) := by
  unfold backO
  simp only [List.getD_eq_getElem?_getD, List.getElem?_map]
  cases o.1[j]? <;> rfl
theorem back_ord {o : List Int × List Int} (ho : Ord xs o) (h0 : ∀ i, i < xs.length → (xs.getD i (ByteArray.empty, 0)).2 = 0) : Ord xs (backO o) := by
  refine ⟨by simp [backO, ho.l], fun i hi => ?_, fun i hi => .inl (h0 i hi), ?_⟩
  · rw [back_get]
    have := ho.v i hi
    unfold oth; split <;> omega
  · obtain ⟨p, hp, he⟩ := ho.p
    refine ⟨p.reverse, ⟨by rw [List.nodup_iff_pairwise_ne, List.pairwise_reverse]; exact (List.nodup_iff_pairwise_ne.1 hp.nodup).imp Ne.symm, fun x hx => hp.lt x (by simpa using hx), by simpa using hp.len⟩, ?_⟩
    show o.2.reverse = _
    rw [he]; simp [natsV, List.map_reverse]
theorem back_at {o : List Int × List Int} (ho : Ord xs o) {k j : Nat} (hk : k ≤ xs.length) (hj : j < xs.length) : atV (backO o).1 (backO o).2 (xs.length - k) j = atV o.1 o.2 k j := by
  obtain ⟨p, hp, he⟩ := ho.p
  have hv := ho.v j hj
  unfold atV
  rw [back_get]
  show (if plc o.2.reverse (j : Int) < _ then _ else _) = _
  rw [he, back_plc hp hj]
  have hlt : plc (natsV p) (j : Int) < xs.length := by
    rw [plc_nats, ← hp.len]; exact List.idxOf_lt_length_iff.2 (hp.mem hj)
  have h3 : oth (o.1.getD j 0) = 3 - o.1.getD j 0 := by unfold oth; rw [if_neg (by omega)]
  rw [h3]
  split <;> split <;> omega
theorem back_fits {o : List Int × List Int} (ho : Ord xs o) {ss : List Int} (hs : ss.length = xs.length) (hf : fitsO ss o = true) : fitsO ss (backO o) = true := by
  obtain ⟨k, h1, h2⟩ := fitsO_iff.1 hf
  have hol : o.2.length = xs.length := by obtain ⟨p, hp, he⟩ := ho.p; rw [he]; simp [natsV, hp.len]
  refine fitsO_iff.2 ⟨xs.length - k, by show _ ≤ o.2.reverse.length; rw [List.length_reverse]; omega, ?_⟩
  unfold fitB at h2 ⊢
  rw [List.all_eq_true] at h2 ⊢
  intro j hj
  rw [back_at ho (by omega) (by rw [← hs]; exact List.mem_range.1 hj)]
  exact h2 j hj
theorem back_agr (hc : (chk xs cs).2.2 = 0) (h0 : ∀ i, i < xs.length → (xs.getD i (ByteArray.empty, 0)).2 = 0) {o : List Int × List Int} (ho : o ∈ agrL xs cs) : backO o ∈ agrL xs cs := by
  obtain ⟨h1, h2⟩ := mem_agr.1 ho
  exact mem_agr.2 ⟨back_ord h1 h0, fun c hcm => back_fits h1 ((chk_valid hc).len c hcm) (h2 c hcm)⟩
theorem back_read (hc : (chk xs cs).2.2 = 0) (ha : agrL xs cs ≠ []) (h0 : ∀ i, i < xs.length → (xs.getD i (ByteArray.empty, 0)).2 = 0) {a : Nat} (h : a < xs.length) : (readS xs cs a).1 = 0 := by
  rw [read_ok hc ha h]
  rcases sameL_val (L := agrL xs cs) (g := fun o => o.1.getD a 0) (z := 0) ha with g | g
  · exfalso
    obtain ⟨o, ho⟩ := List.exists_mem_of_ne_nil _ ha
    have h1 := g o ho
    have h2 := g _ (back_agr hc h0 ho)
    have hv := (agr_ord ho).v a h
    rw [back_get] at h2
    unfold oth at h2
    split at h2 <;> omega
  · exact g.1
theorem back_bef (hc : (chk xs cs).2.2 = 0) (ha : agrL xs cs ≠ []) (h0 : ∀ i, i < xs.length → (xs.getD i (ByteArray.empty, 0)).2 = 0) {a b : Nat} (h : a < xs.length) (h' : b < xs.length) (hne : a ≠ b) : (befS xs cs a b).1 = 0 := by
  obtain ⟨o, ho⟩ := List.exists_mem_of_ne_nil _ ha
  have hb := back_agr hc h0 ho
  obtain ⟨p, hp, he⟩ := (agr_ord ho).p
  have hpl : ∀ {j : Nat}, j < xs.length → plc (backO o).2 (j : Int) = xs.length - 1 - plc o.2 (j : Int) := fun {j} hj => by
    show plc o.2.reverse (j : Int) = _
    rw [he]; exact back_plc hp hj
  have hlt : ∀ {j : Nat}, j < xs.length → plc o.2 (j : Int) < xs.length := fun {j} hj => by
    rw [he, plc_nats, ← hp.len]; exact List.idxOf_lt_length_iff.2 (hp.mem hj)
  have l1 := hlt h
  have l2 := hlt h'
  rcases bef_vals hc ha h h' hne with g | g | g
  · exact g
  · exfalso
    have k := (bef_one hc ha h h' hne).1 g
    have k1 := k o ho
    have k2 := k _ hb
    rw [hpl h, hpl h'] at k2
    omega
  · exfalso
    have k := (bef_two hc ha h h' hne).1 g
    have k1 := k o ho
    have k2 := k _ hb
    rw [hpl h, hpl h'] at k2
    omega

/-! ### Copies in another order, or twice -/
/-! ### Copies that show what was there -/
end
end Go.Ab.StF
