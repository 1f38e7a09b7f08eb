/-
  THE SKELETON FAMILY, PART PO: numbers of the reference: plain.
  THE SKELETON FAMILY, PART RD: numbers: of the reference.
-/
import Derived.Test.YtfhippofplmpdaaDoorRefB
namespace Go.Ab.SkF
open Go Go.Ab Go.Ab.Pln

abbrev gR (g : List Nat) : Rel := fun a k => g.getD k 0 == g.getD a 0
abbrev mR (t : List (List Bool)) : Rel := fun a k => (t.getD a []).getD k false
def rowR (R : Rel) (n a : Nat) : List Bool := (List.range n).map (R a)
def tabR (R : Rel) (n : Nat) : List (List Bool) := (List.range n).map (rowR R n)
theorem rowR_len (R : Rel) (n a : Nat) : (rowR R n a).length = n := by simp [rowR]
theorem tabR_len (R : Rel) (n : Nat) : (tabR R n).length = n := by simp [tabR]
theorem mR_tab {R : Rel} {n a k : Nat} (ha : a < n) (hk : k < n) : mR (tabR R n) a k = R a k := by
  unfold mR tabR
  rw [getD_at (show a < ((List.range n).map (rowR R n)).length by simpa using ha), List.getElem_map, List.getElem_range]
  unfold rowR
  rw [getD_at (show k < ((List.range n).map (R a)).length by simpa using hk), List.getElem_map, List.getElem_range]
theorem gR_lab {n : Nat} {ss : Sgs} (hn : n ≤ 8) (h : SsOk n 6 ss) {a k : Nat} (ha : a < n) (hk : k < n) : gR (labL n ss) a k = grpB n ss a k := by
  unfold gR
  rw [labL_get hk, labL_get ha, lab_grp hn h hk ha, grp_symm hn h hk ha]

theorem rall_succ {p : Nat → Bool} {i : Nat} (hn : (List.range i).all p = true) (hp : p i = true) : (List.range (i + 1)).all p = true := by
  rw [List.range_succ, List.all_append, hn]; simp [hp]
theorem rall_miss {p : Nat → Bool} {n i : Nat} (h : i < n) (hp : p i = false) : (List.range n).all p = false := by
  rw [Bool.eq_false_iff]; intro ha
  have := List.all_eq_true.1 ha i (List.mem_range.2 h)
  rw [hp] at this; cases this
/-- What is asked of one of those ahead. -/
def okK (G M : Rel) (l : List Nat) (n k : Nat) : Bool := !(G l.length k && l.getD k 0 != n || M l.length k && l.getD k 0 == n)
theorem okN_all (G M : Rel) (l : List Nat) (n : Nat) : okN G M l n = (List.range l.length).all (okK G M l n) := rfl

def numU (G M : Rel) (lim m : Nat) (l : List Nat) (k : Nat) : List (List Nat) := (List.range k).flatMap fun n => if okN G M l n then numR G M lim m (l ++ [n]) else []
theorem numU_T {G M : Rel} {lim m : Nat} {l : List Nat} {k : Nat} (h : okN G M l k = true) : numU G M lim m l (k + 1) = numU G M lim m l k ++ numR G M lim m (l ++ [k]) := by
  unfold numU; rw [List.range_succ, List.flatMap_append]; simp [h]
theorem numU_F {G M : Rel} {lim m : Nat} {l : List Nat} {k : Nat} (h : okN G M l k = false) : numU G M lim m l (k + 1) = numU G M lim m l k := by
  unfold numU; rw [List.range_succ, List.flatMap_append]; simp [h]
theorem numU_all (G M : Rel) (lim m : Nat) (l : List Nat) : numU G M lim m l (min lim (manyL l + 1)) = numR G M lim (m + 1) l := rfl
theorem manyL_le (l : List Nat) : manyL l ≤ l.length := cnt_le _ _
theorem flatm_len {α : Type} {f : Nat → List α} {B : Nat} (h : ∀ k, (f k).length ≤ B) : ∀ n, ((List.range n).flatMap f).length ≤ n * B
  | 0 => by simp
  | n + 1 => by rw [List.range_succ, List.flatMap_append, List.length_append, Nat.succ_mul]; have := flatm_len h n; have := h n; rw [List.flatMap_singleton]; omega
theorem numR_len (G M : Rel) {lim : Nat} (hl : lim ≤ 8) : ∀ (m : Nat) (l : List Nat), (numR G M lim m l).length ≤ 8 ^ m
  | 0, l => by simp [numR]
  | m + 1, l => by
    have := flatm_len (B := 8 ^ m) (f := fun n => if okN G M l n then numR G M lim m (l ++ [n]) else []) (fun k => by
      split
      · exact numR_len G M hl m _
      · simp) (min lim (manyL l + 1))
    have h8 : min lim (manyL l + 1) * 8 ^ m ≤ 8 * 8 ^ m := Nat.mul_le_mul_right _ (by omega)
    rw [Nat.pow_succ, Nat.mul_comm]
    unfold numR
    omega
theorem numU_len (G M : Rel) {lim : Nat} (hl : lim ≤ 8) (m : Nat) (l : List Nat) {k : Nat} (hk : k ≤ 8) : (numU G M lim m l k).length ≤ 8 * 8 ^ m := by
  have := flatm_len (B := 8 ^ m) (f := fun n => if okN G M l n then numR G M lim m (l ++ [n]) else []) (fun k => by
    split
    · exact numR_len G M hl m _
    · simp) k
  have h8 : k * 8 ^ m ≤ 8 * 8 ^ m := Nat.mul_le_mul_right _ hk
  unfold numU
  omega
theorem pow8 {m : Nat} (h : m ≤ 8) : 8 ^ m ≤ 16777216 := Nat.le_trans (Nat.pow_le_pow_right (by omega) h) (by decide)

/-- How many are new, up to one. -/
theorem manyU_T {l : List Nat} {i : Nat} (h : (l.take i).contains (l.getD i 0) = false) : manyU l (i + 1) = manyU l i + 1 := by
  unfold manyU; rw [cnt_succ, h]; simp
theorem manyU_F {l : List Nat} {i : Nat} (h : (l.take i).contains (l.getD i 0) = true) : manyU l (i + 1) = manyU l i := by
  unfold manyU; rw [cnt_succ, h]; simp
theorem manyU_le (l : List Nat) (i : Nat) : manyU l i ≤ i := cnt_le _ _
theorem natsV_take (l : List Nat) (i : Nat) : (natsV l).take i = natsV (l.take i) := by simp [natsV, List.map_take]

theorem Few.congr {G M G' M' : Rel} {n : Nat} {x : List Nat} {u : Nat} (h : ∀ i k, i < n → k < i → G i k = G' i k ∧ M i k = M' i k) (hf : Few G M n x u) : Few G' M' n x u := by
  refine ⟨by rw [← fewS_congr h]; exact hf.eq, ?_, hf.top, hf.pos, hf.le, fun c hc K hK => hf.least c (hc.congr fun i k hi hk => ⟨(h i k hi hk).1.symm, (h i k hi hk).2.symm⟩) K hK, by rw [← waysA_congr h]; exact hf.head, fun lim hl => by rw [← waysA_congr h]; exact hf.none lim hl⟩
  have : (x, u) ∈ waysA G' M' u n := by rw [← waysA_congr h]; exact List.mem_of_mem_head? hf.head
  exact (mem_ways.1 this).1
theorem ref_congr {fs : Fms} {ss : Sgs} (h8 : fs.length ≤ 8) (hs : SsOk fs.length 6 ss) : ∀ i k, i < fs.length → k < i → grpB fs.length ss i k = gR (labL fs.length ss) i k ∧ stN fs i k = mR (tabR (stN fs) fs.length) i k :=
  fun _ _ hi hk => ⟨(gR_lab h8 hs hi (by omega)).symm, (mR_tab hi (by omega)).symm⟩
theorem all_ref {fs : Fms} {ss : Sgs} (h8 : fs.length ≤ 8) (hs : SsOk fs.length 6 ss) : (waysA (gR (labL fs.length ss)) (mR (tabR (stN fs) fs.length)) (manyJ fs ss) fs.length).map Prod.fst = allJ fs ss := by
  unfold allJ; rw [waysA_congr (ref_congr h8 hs)]
theorem all_head {fs : Fms} {ss : Sgs} {x : List Nat} {u : Nat} (h : Skel fs ss x u) : ∃ r, allJ fs ss = x :: r := by
  have hh := h.few.head
  have hm : manyJ fs ss = u := by unfold manyJ; rw [h.eq]
  unfold allJ
  rw [hm]
  cases hw : waysA (grpB fs.length ss) (stN fs) u fs.length with
  | nil => rw [hw] at hh; cases hh
  | cons p r => rw [hw] at hh; cases hh; exact ⟨_, rfl⟩
theorem way_many {G M : Rel} {lim n : Nat} {x : List Nat} (h : Way G M lim n x) : manyL x = top x := many_top x.length rfl fun i hi => h.rg i (by rw [← h.len]; exact hi)
theorem skel_many {fs : Fms} {ss : Sgs} {x : List Nat} {u : Nat} (h : Skel fs ss x u) : manyL x = u := by rw [way_many h.few.way, h.few.top]
theorem ask_no {ts : List ByteArray} {fs : Fms} {ss : Sgs} (h : chE ts fs ss ≠ 0) : askE ts fs ss = chE ts fs ss := by unfold askE; rw [if_pos h]
theorem ask_cl {ts : List ByteArray} {fs : Fms} {ss : Sgs} (h : chE ts fs ss = 0) {p : Nat × Nat} (hJ : clashJ fs ss = some p) : askE ts fs ss = 9 := by unfold askE; rw [if_neg (fun h' => h' h), hJ]; rfl
theorem ask_ok {ts : List ByteArray} {fs : Fms} {ss : Sgs} (h : chE ts fs ss = 0) (hJ : clashJ fs ss = none) : askE ts fs ss = 0 := by unfold askE; rw [if_neg (fun h' => h' h), hJ]; rfl
end Go.Ab.SkF

namespace Go.Ab.SkF
open Go Go.Ab Go.Ab.Pln Go.Proofs
set_option maxHeartbeats 1000000
set_option maxRecDepth 100000

abbrev boolsV (t : List (List Bool)) : AV S := .sl (S := S) U.bools t none
theorem getI_bools {t : List (List Bool)} {i : Nat} (h : i < t.length) : getI t (i : Int) = some (t.getD i []) := by rw [getI_nat h, getD_at h]
theorem getI_bool {t : List Bool} {i : Nat} (h : i < t.length) : getI t (i : Int) = some (t.getD i false) := by rw [getI_nat h, getD_at h]

theorem c44 (gl : Gl) (l : List Nat) (hl : l.length ≤ 9223372036854775807) : PCalls PR gl 44 [vL (natsV l)] fun r => r = vI (manyL l) := by
  have hll := natsV_length l
  refine fnW_sound (par_ok gl) Tryd.func44 ?_
  conv => whnf
  refine ⟨⟨25, [], []⟩, ?_⟩
  refine LoopW_ind _ (fun i : Nat => (({ tmps := [vL (natsV l), .undef, .undef, vI (manyU l i), vI i, .undef, .undef, .undef, .undef, .undef, .undef, .undef, .undef, .undef, .undef, .undef, .undef, .undef, .undef, .undef, .undef, .undef, .undef], seg := [], up := [] } : St S))) (fun i : Nat => (i ≤ l.length)) (fun i : Nat => (l.length - i)) () ?_ 0 (Nat.zero_le _)
  intro i hi Z1 hZ1
  conv => whnf
  refine bcase_iff.2 ⟨fun h3 => ?_, fun h3 => ?_⟩
  · skip
    have hlt : i < l.length := by have := of_decide_eq_true h3; rw [hll] at this; omega
    have hw : IntKind.i64.wrap ((i : Int) + 1) = ((i + 1 : Nat) : Int) := wrap_nat (by omega)
    have hmu := manyU_le l i
    have hw2 : IntKind.i64.wrap ((manyU l i : Int) + 1) = ((manyU l i + 1 : Nat) : Int) := wrap_nat (by omega)
    have h99 : PCalls PR gl 99 [vL ((natsV l).take i), vI ((l.getD i 0 : Nat) : Int)] fun r => r = vB ((l.take i).contains (l.getD i 0)) := by
      have h := c99 gl ((natsV l).take i) (by rw [List.length_take]; omega) ((l.getD i 0 : Nat) : Int)
      rw [natsV_take, has_nats] at h; rw [natsV_take]; exact h
    conv => whnf
    refine ⟨[0, 1, 2, 3, 4, 5, 6, 7, 8], [], [], [], ⟨8388607, [], []⟩, by decide +kernel, ?_⟩
    conv => whnf
    refine ⟨by omega, ?_⟩
    conv => whnf
    refine ⟨by omega, by simp <;> omega, ?_⟩
    conv => whnf
    refine ⟨_, getI_natsD hlt, ?_⟩
    conv => whnf
    refine byC h99 op99 ?_
    conv => whnf
    refine bcase_iff.2 ⟨fun h5 => ?_, fun h5 => ?_⟩
    · skip
      have q : (l.take i).contains (l.getD i 0) = false := by have g : (!(l.take i).contains (l.getD i 0)) = true := h5; simpa using g
      -- Z3:TT
      conv => whnf
      refine ⟨⟨25, [], []⟩, ?_⟩
      conv => whnf
      rw [hw, hw2, ← manyU_T q]
      exact hZ1 (i + 1) hlt (by omega)
    · skip
      have q : (l.take i).contains (l.getD i 0) = true := by have g : (!(l.take i).contains (l.getD i 0)) = false := h5; simpa using g
      -- Z3:TF
      conv => whnf
      refine ⟨⟨25, [], []⟩, ?_⟩
      conv => whnf
      rw [hw, ← manyU_F q]
      exact hZ1 (i + 1) hlt (by omega)
  · skip
    have hge : i = l.length := by have := of_decide_eq_false h3; rw [hll] at this; omega
    -- R:F
    conv => whnf
    rw [hge]; rfl

theorem op44 : Opens PR 44 := ⟨_, Tryd.func44, rfl, rfl⟩

theorem c93 (gl : Gl) (ts : List ByteArray) (fs : Fms) (ss : Sgs) (h8 : fs.length ≤ 8) : PCalls PR gl 93 [.agg [strsV ts, fmsV fs, sgsV ss]] fun r => r = boolsV (tabR (stN fs) fs.length) := by
  refine fnW_sound (par_ok gl) Tryd.func93 ?_
  conv => whnf
  refine loop_q fun Q1 hQ1 => ?_
  refine ⟨⟨26, [2], [2, 3]⟩, ?_⟩
  refine LoopW_ind _ (fun a : Nat => (({ tmps := [.undef, .own 1 [], .undef, .sl (S := S) U.bools ((List.range a).map (rowR (stN fs) fs.length)) (some 3), vI a, .undef, .undef, .undef, .undef, .undef, .undef, .undef, .undef, .undef, .undef, .undef, .undef, .undef, .undef, .undef, .undef, .undef, .undef, .undef, .undef, .undef, .undef, .undef, .undef, .undef, .undef, .undef, .undef, .undef, .undef, .undef, .undef, .undef, .undef, .undef, .undef, .undef, .undef, .undef, .undef], seg := [(1, .cells [strsV ts, fmsV fs, sgsV ss]), (3, .row U.bools false)], up := [] } : St S))) (fun a : Nat => (a ≤ fs.length)) (fun a : Nat => (fs.length - a)) () ?_ 0 (Nat.zero_le _)
  intro a ha Z1 hZ1
  conv => whnf
  refine bcase_iff.2 ⟨fun h3 => ?_, fun h3 => ?_⟩
  · skip
    have hlta : a < fs.length := by have := of_decide_eq_true h3; omega
    have hwa : IntKind.i64.wrap ((a : Int) + 1) = ((a + 1 : Nat) : Int) := wrap_nat (by omega)
    conv => whnf
    refine loop_q fun Q2 hQ2 => ?_
    refine ⟨⟨122, [], [5]⟩, ?_⟩
    refine LoopW_ind _ (fun k : Nat => (({ tmps := [.undef, .own 1 [], .undef, .sl (S := S) U.bools ((List.range a).map (rowR (stN fs) fs.length)) (some 3), vI a, .sl (S := S) U.bool ((List.range k).map ((stN fs) a)) (some 5), vI k, .undef, .undef, .undef, .undef, .undef, .undef, .undef, .undef, .undef, .undef, .undef, .undef, .undef, .undef, .undef, .undef, .undef, .undef, .undef, .undef, .undef, .undef, .undef, .undef, .undef, .undef, .undef, .undef, .undef, .undef, .undef, .undef, .undef, .undef, .undef, .undef, .undef, .undef], seg := [(1, .cells [strsV ts, fmsV fs, sgsV ss]), (3, .row U.bools false), (5, .row U.bool false)], up := [] } : St S))) (fun k : Nat => (k ≤ fs.length)) (fun k : Nat => (fs.length - k)) () ?_ 0 (Nat.zero_le _)
    intro k hk Z2 hZ2
    conv => whnf
    refine bcase_iff.2 ⟨fun h7 => ?_, fun h7 => ?_⟩
    · skip
      have hltk : k < fs.length := by have := of_decide_eq_true h7; omega
      have hwk : IntKind.i64.wrap ((k : Int) + 1) = ((k + 1 : Nat) : Int) := wrap_nat (by omega)
      conv => whnf
      refine ⟨[0, 1, 2, 3, 4, 5, 6, 7, 8, 9, 10, 11, 12, 13, 14, 15, 16, 17, 18, 19], [17], [], [], ⟨35184372088831, [], []⟩, by decide +kernel, ?_⟩
      conv => whnf
      refine bcase_iff.2 ⟨fun g9_4 => ?_, fun g9_4 => ?_⟩
      · skip
        have q1 : (a != k) = true := by have g : ((a : Int) != (k : Int)) = true := g9_4; rw [neN] at g; exact g
        conv => whnf
        refine ⟨_, getI_nat hlta, ?_⟩
        conv => whnf
        refine ⟨_, getI_nat hltk, ?_⟩
        conv => whnf
        refine byC (c47 gl fs[a] fs[k]) op47 ?_
        conv => whnf
        have q : stN fs a k = stB fs[a] fs[k] := by unfold stN; rw [q1, Bool.true_and, getD_at hlta, getD_at hltk]
        conv => whnf
        refine ⟨_, rfl, ?_⟩
        conv => whnf
        refine ⟨lim (by simp; omega), ?_⟩
        -- Z7:TT
        conv => whnf
        refine ⟨⟨122, [38, 39], []⟩, ?_⟩
        conv => whnf
        rw [hwk]
        have hz := hZ2 (k + 1) hltk (by omega)
        rw [List.range_succ, List.map_append, show [k].map (stN fs a) = [stB fs[a] fs[k]] by rw [List.map_singleton, q]] at hz
        exact hz
      · skip
        have q1 : (a != k) = false := by have g : ((a : Int) != (k : Int)) = false := g9_4; rw [neN] at g; exact g
        have q : stN fs a k = false := by unfold stN; rw [q1, Bool.false_and]
        conv => whnf
        refine ⟨_, rfl, ?_⟩
        conv => whnf
        refine ⟨lim (by simp; omega), ?_⟩
        -- Z7:TF
        conv => whnf
        refine ⟨⟨122, [38, 39], []⟩, ?_⟩
        conv => whnf
        rw [hwk]
        have hz := hZ2 (k + 1) hltk (by omega)
        rw [List.range_succ, List.map_append, show [k].map (stN fs a) = [false] by rw [List.map_singleton, q]] at hz
        exact hz
    · skip
      have hgek : k = fs.length := by have := of_decide_eq_false h7; omega
      subst hgek
      conv => whnf
      refine (hQ2 _ _ _).mpr ?_
      conv => whnf
      refine ⟨_, rfl, ?_⟩
      conv => whnf
      refine ⟨lim (by simp; omega), ?_⟩
      -- Z3:TF
      conv => whnf
      refine ⟨⟨26, [5, 38, 39, 42, 43, 900005], []⟩, ?_⟩
      conv => whnf
      rw [hwa]
      have hz := hZ1 (a + 1) hlta (by omega)
      rw [List.range_succ, List.map_append] at hz
      exact hz
  · skip
    have hgea : a = fs.length := by have := of_decide_eq_false h3; omega
    conv => whnf
    refine (hQ1 _ _ _).mpr ?_
    -- R:F
    conv => whnf
    rw [hgea]; rfl

theorem op93 : Opens PR 93 := ⟨_, Tryd.func93, rfl, rfl⟩


theorem c116 (gl : Gl) (l : List Nat) (n : Nat) (g : List Nat) (t : List (List Bool)) (hl : l.length < g.length) (hg : g.length ≤ 100) (ht : l.length < t.length) (htr : ∀ a, a < t.length → (t.getD a []).length = g.length) : PCalls PR gl 116 [vL (natsV l), vI n, vL (natsV g), boolsV t] fun r => r = vB (okN (gR g) (mR t) l n) := by
  have hll := natsV_length l
  have htl := htr _ ht
  refine fnW_sound (par_ok gl) Tryd.func116 ?_
  conv => whnf
  rw [hll]
  refine ⟨⟨1551, [], []⟩, ?_⟩
  refine LoopW_ind _ (fun k : Nat => (({ tmps := [vL (natsV l), vI n, vL (natsV g), boolsV t, .undef, .undef, .undef, .undef, .undef, vI l.length, vI k, .undef, .undef, .undef, .undef, .undef, .undef, .undef, .undef, .undef, .undef, .undef, .undef, .undef, .undef, .undef, .undef, .undef, .undef, .undef, .undef, .undef, .undef, .undef, .undef, .undef, .undef, .undef, .undef, .undef, .undef, .undef, .undef, .undef, .undef, .undef, .undef, .undef, .undef, .undef, .undef, .undef], seg := [], up := [] } : St S))) (fun k : Nat => (k ≤ l.length ∧ (List.range k).all (okK (gR g) (mR t) l n) = true)) (fun k : Nat => (l.length - k)) () ?_ 0 ⟨Nat.zero_le _, rfl⟩
  intro k hinv Z1 hZ1
  obtain ⟨hk, hn⟩ := hinv
  conv => whnf
  refine bcase_iff.2 ⟨fun h3 => ?_, fun h3 => ?_⟩
  · skip
    have hlt : k < l.length := by have := of_decide_eq_true h3; omega
    have hw : IntKind.i64.wrap ((k : Int) + 1) = ((k + 1 : Nat) : Int) := wrap_nat (by omega)
    conv => whnf
    refine ⟨[0, 1, 2, 3, 4, 5, 6, 7, 8, 9, 10, 11, 12, 13, 14, 15, 16, 17, 18, 19, 20, 21, 22, 23, 24, 25, 26, 27, 28, 29, 30, 31, 32, 33], [], [], [], ⟨4503599627370495, [], []⟩, by decide +kernel, ?_⟩
    conv => whnf
    refine ⟨_, getI_natsD hlt, ?_⟩
    conv => whnf
    refine bcase_iff.2 ⟨fun g5_6 => ?_, fun g5_6 => ?_⟩
    · skip
      have q1 : (l.getD k 0 == n) = true := by have g1 : (((l.getD k 0 : Nat) : Int) == (n : Int)) = true := g5_6; rw [eqN] at g1; exact g1
      have q1b : (l.getD k 0 != n) = false := by unfold bne; rw [q1]; rfl
      conv => whnf
      refine ⟨_, getI_bools ht, ?_⟩
      conv => whnf
      refine ⟨_, getI_bool (show k < (t.getD l.length []).length by omega), ?_⟩
      conv => whnf
      refine bcase_iff.2 ⟨fun g5_15 => ?_, fun g5_15 => ?_⟩
      · skip
        have q2 : mR t l.length k = true := g5_15
        have q : okK (gR g) (mR t) l n k = false := by unfold okK; rw [q1, q1b, q2]; simp
        -- R:TTT
        conv => whnf
        rw [okN_all, rall_miss hlt q]
      · skip
        have q2 : mR t l.length k = false := g5_15
        conv => whnf
        refine ⟨_, getI_natsD hlt, ?_⟩
        conv => whnf
        refine bcase_iff.2 ⟨fun g5_22 => ?_, fun g5_22 => ?_⟩
        · skip
          exfalso
          have g3 : (((l.getD k 0 : Nat) : Int) != (n : Int)) = true := g5_22
          rw [neN, q1b] at g3; cases g3 --done
        · skip
          have q : okK (gR g) (mR t) l n k = true := by unfold okK; rw [q1b, q2]; simp
          -- Z3:TTFF
          conv => whnf
          refine ⟨⟨1551, [], []⟩, ?_⟩
          conv => whnf
          rw [hw]
          exact hZ1 (k + 1) ⟨hlt, rall_succ hn q⟩ (by omega)
    · skip
      have q1 : (l.getD k 0 == n) = false := by have g1 : (((l.getD k 0 : Nat) : Int) == (n : Int)) = false := g5_6; rw [eqN] at g1; exact g1
      have q1b : (l.getD k 0 != n) = true := by unfold bne; rw [q1]; rfl
      conv => whnf
      refine ⟨_, getI_natsD hlt, ?_⟩
      conv => whnf
      refine bcase_iff.2 ⟨fun g5_22 => ?_, fun g5_22 => ?_⟩
      · skip
        conv => whnf
        refine ⟨_, getI_natsD (by omega), ?_⟩
        conv => whnf
        refine ⟨_, getI_natsD (by omega), ?_⟩
        conv => whnf
        refine bcase_iff.2 ⟨fun h5 => ?_, fun h5 => ?_⟩
        · skip
          have q2 : gR g l.length k = true := by have g3 : (((g.getD k 0 : Nat) : Int) == ((g.getD l.length 0 : Nat) : Int)) = true := h5; rw [eqN] at g3; exact g3
          have q : okK (gR g) (mR t) l n k = false := by unfold okK; rw [q1b, q2]; simp
          -- R:TFTT
          conv => whnf
          rw [okN_all, rall_miss hlt q]
        · skip
          have q2 : gR g l.length k = false := by have g3 : (((g.getD k 0 : Nat) : Int) == ((g.getD l.length 0 : Nat) : Int)) = false := h5; rw [eqN] at g3; exact g3
          have q : okK (gR g) (mR t) l n k = true := by unfold okK; rw [q1, q2]; simp
          -- Z3:TFTF
          conv => whnf
          refine ⟨⟨1551, [], []⟩, ?_⟩
          conv => whnf
          rw [hw]
          exact hZ1 (k + 1) ⟨hlt, rall_succ hn q⟩ (by omega)
      · skip
        exfalso
        have g3 : (((l.getD k 0 : Nat) : Int) != (n : Int)) = false := g5_22
        rw [neN, q1b] at g3; cases g3 --done
  · skip
    have hge : k = l.length := by have := of_decide_eq_false h3; omega
    -- R:F
    conv => whnf
    rw [hge] at hn
    rw [okN_all, hn]

theorem op116 : Opens PR 116 := ⟨_, Tryd.func116, rfl, rfl⟩

theorem c92z (gl : Gl) (g : List Nat) (t : List (List Bool)) (lim : Nat) (_hlim : lim ≤ 8) (_hg : g.length ≤ 8) (_ht : t.length = g.length) (_htr : ∀ a, a < t.length → (t.getD a []).length = g.length) (l : List Nat) (hl : l.length = g.length) : PCalls PR gl 92 [vL (natsV l), vI lim, vL (natsV g), boolsV t] fun r => r = .sl (S := S) U.ints ((numR (gR g) (mR t) lim 0 l).map natsV) none := by
  refine fnW_sound (par_ok gl) Tryd.func92 ?_
  conv => whnf
  refine bcase_iff.2 ⟨fun h1 => ?_, fun h1 => ?_⟩
  · skip
    conv => whnf
    refine ⟨_, rfl, ?_⟩
    -- R:T
    conv => whnf
    rfl
  · skip
    exfalso
    have g1 : (((natsV l).length : Int) == ((natsV g).length : Int)) = false := h1
    rw [natsV_length, natsV_length, hl] at g1; simp at g1 --done

theorem op92 : Opens PR 92 := ⟨_, Tryd.func92, rfl, rfl⟩

theorem c92s (gl : Gl) (g : List Nat) (t : List (List Bool)) (lim : Nat) (hlim : lim ≤ 8) (hg : g.length ≤ 8) (ht : t.length = g.length) (htr : ∀ a, a < t.length → (t.getD a []).length = g.length) (m : Nat) (l : List Nat) (hl : l.length + (m + 1) = g.length) (ih : ∀ n, PCalls PR gl 92 [vL (natsV (l ++ [n])), vI lim, vL (natsV g), boolsV t] fun r => r = .sl (S := S) U.ints ((numR (gR g) (mR t) lim m (l ++ [n])).map natsV) none) : PCalls PR gl 92 [vL (natsV l), vI lim, vL (natsV g), boolsV t] fun r => r = .sl (S := S) U.ints ((numR (gR g) (mR t) lim (m + 1) l).map natsV) none := by
  have hll := natsV_length l
  have hgl := natsV_length g
  have hml := manyL_le l
  have hp8 := pow8 (m := m) (by omega)
  have hwm : IntKind.i64.wrap ((manyL l : Int) + 1) = ((manyL l + 1 : Nat) : Int) := wrap_nat (by omega)
  refine fnW_sound (par_ok gl) Tryd.func92 ?_
  conv => whnf
  refine bcase_iff.2 ⟨fun h1 => ?_, fun h1 => ?_⟩
  · skip
    exfalso
    have g1 : (((natsV l).length : Int) == ((natsV g).length : Int)) = true := h1
    rw [hll, hgl] at g1; simp at g1; omega --done
  · skip
    conv => whnf
    refine loop_q fun Q1 hQ1 => ?_
    refine ⟨⟨1551, [8], [8, 9]⟩, ?_⟩
    refine LoopW_ind _ (fun k : Nat => (({ tmps := [vL (natsV l), vI lim, vL (natsV g), boolsV t, .undef, .undef, .undef, .undef, .undef, .sl (S := S) U.ints ((numU (gR g) (mR t) lim m l k).map natsV) (some 9), vI k, .undef, .undef, .undef, .undef, .undef, .undef, .undef, .undef, .undef, .undef, .undef, .undef, .undef, .undef, .undef, .undef, .undef, .undef, .undef, .undef, .undef, .undef, .undef, .undef, .undef, .undef, .undef, .undef, .undef, .undef, .undef, .undef, .undef, .undef], seg := [(9, .row U.ints false)], up := [] } : St S))) (fun k : Nat => (k ≤ min lim (manyL l + 1))) (fun k : Nat => (min lim (manyL l + 1) - k)) () ?_ 0 (Nat.zero_le _)
    intro k hk Z1 hZ1
    conv => whnf
    refine byC (c44 gl l (by omega)) op44 ?_
    conv => whnf
    refine bcase_iff.2 ⟨fun h5 => ?_, fun h5 => ?_⟩
    · skip
      have hlt : k < min lim (manyL l + 1) := by have g1 := of_decide_eq_true h5; rw [hwm, min_int] at g1; omega
      have hw : IntKind.i64.wrap ((k : Int) + 1) = ((k + 1 : Nat) : Int) := wrap_nat (by omega)
      conv => whnf
      refine byC (c116 gl l k g t (by omega) (by omega) (by omega) htr) op116 ?_
      conv => whnf
      refine bcase_iff.2 ⟨fun h7 => ?_, fun h7 => ?_⟩
      · skip
        have q : okN (gR g) (mR t) l k = true := h7
        have hul := numU_len (gR g) (mR t) hlim m l (k := k) (by omega)
        have hrl := numR_len (gR g) (mR t) hlim m (l ++ [k])
        conv => whnf
        refine ⟨Pln.lim (by rw [hll]; omega), false, ?_⟩
        conv => whnf
        refine ⟨_, rfl, ?_⟩
        conv => whnf
        refine ⟨Pln.lim (by rw [hll]; show l.length + 1 ≤ _; omega), ?_⟩
        conv => whnf
        have ihk := ih k
        conv => whnf
        rw [show natsV (l ++ [k]) = natsV l ++ [((k : Nat) : Int)] by simp [natsV]] at ihk
        conv => whnf
        refine byC ihk op92 ?_
        conv => whnf
        refine ⟨Pln.lim (by rw [List.length_map, List.length_map]; omega), ?_⟩
        -- Z5:TT
        conv => whnf
        refine ⟨⟨1551, [35, 37, 38, 43], []⟩, ?_⟩
        conv => whnf
        rw [hw]
        have hz := hZ1 (k + 1) hlt (by omega)
        rw [numU_T q, List.map_append] at hz
        exact hz
      · skip
        have q : okN (gR g) (mR t) l k = false := h7
        -- Z5:TF
        conv => whnf
        refine ⟨⟨1551, [35, 37, 38, 43], []⟩, ?_⟩
        conv => whnf
        rw [hw]
        have hz := hZ1 (k + 1) hlt (by omega)
        rw [numU_F q] at hz
        exact hz
    · skip
      have hge : k = min lim (manyL l + 1) := by have g1 := of_decide_eq_false h5; rw [hwm, min_int] at g1; omega
      conv => whnf
      refine (hQ1 _ _ _).mpr ?_
      -- R:FF
      conv => whnf
      rw [hge, numU_all]

theorem c92 (gl : Gl) (g : List Nat) (t : List (List Bool)) (lim : Nat) (hlim : lim ≤ 8) (hg : g.length ≤ 8) (ht : t.length = g.length) (htr : ∀ a, a < t.length → (t.getD a []).length = g.length) : ∀ (m : Nat) (l : List Nat), l.length + m = g.length → PCalls PR gl 92 [vL (natsV l), vI lim, vL (natsV g), boolsV t] fun r => r = .sl (S := S) U.ints ((numR (gR g) (mR t) lim m l).map natsV) none
  | 0, l, hl => c92z gl g t lim hlim hg ht htr l hl
  | m + 1, l, hl => c92s gl g t lim hlim hg ht htr m l hl fun n => c92 gl g t lim hlim hg ht htr m (l ++ [n]) (by simp; omega)

theorem c97 (gl : Gl) (g : List Nat) (t : List (List Bool)) (hg : g.length ≤ 8) (ht : t.length = g.length) (htr : ∀ a, a < t.length → (t.getD a []).length = g.length) (x : List Nat) (u : Nat) (hF : Few (gR g) (mR t) g.length x u) : PCalls PR gl 97 [vL (natsV g), boolsV t] fun r => r = .sl (S := S) U.ints (((waysA (gR g) (mR t) u g.length).map Prod.fst).map natsV) none := by
  have hgl := natsV_length g
  have hul := hF.le
  have hup := hF.pos
  refine fnW_sound (par_ok gl) Tryd.func97 ?_
  conv => whnf
  refine ⟨⟨35, [4], [4]⟩, ?_⟩
  refine LoopW_ind _ (fun k : Nat => (({ tmps := [vL (natsV g), boolsV t, .undef, .undef, .undef, vI k, .undef, .undef, .undef, .undef, .undef, .undef, .undef, .undef, .undef, .undef, .undef, .undef, .undef, .undef, .undef], seg := [], up := [] } : St S))) (fun k : Nat => (1 ≤ k ∧ k ≤ u)) (fun k : Nat => (u - k)) () ?_ 1 ⟨Nat.le_refl _, hup⟩
  intro k hinv Z1 hZ1
  obtain ⟨hk1, hku⟩ := hinv
  conv => whnf
  refine bcase_iff.2 ⟨fun h2 => ?_, fun h2 => ?_⟩
  · skip
    have hw : IntKind.i64.wrap ((k : Int) + 1) = ((k + 1 : Nat) : Int) := wrap_nat (by omega)
    have hc92 := c92 gl g t k (by omega) hg ht htr g.length [] (by simp)
    rw [num_nil] at hc92
    conv => whnf
    refine byC hc92 op92 ?_
    conv => whnf
    refine bcase_iff.2 ⟨fun h5 => ?_, fun h5 => ?_⟩
    · skip
      have hku2 : k = u := by
        rcases Nat.lt_or_ge k u with h | h
        · exfalso
          have g1 := of_decide_eq_true h5
          rw [hF.none k h] at g1; simp at g1
        · omega
      subst hku2
      -- R:TT
      conv => whnf
    · skip
      have hlt : k < u := by
        rcases Nat.lt_or_ge k u with h | h
        · exact h
        · exfalso
          obtain rfl : k = u := by omega
          have g1 := of_decide_eq_false h5
          cases hw0 : waysA (gR g) (mR t) k g.length with
          | nil => have := hF.head; rw [hw0] at this; cases this
          | cons p r => rw [hw0] at g1; simp at g1
      -- Z2:TF
      conv => whnf
      refine ⟨⟨35, [], []⟩, ?_⟩
      conv => whnf
      rw [hw]
      exact hZ1 (k + 1) ⟨by omega, hlt⟩ (by omega)
  · skip
    exfalso
    have g1 := of_decide_eq_false h2; rw [hgl] at g1; omega --done

theorem op97 : Opens PR 97 := ⟨_, Tryd.func97, rfl, rfl⟩

theorem few_ref {fs : Fms} {ss : Sgs} (h8 : fs.length ≤ 8) (hs : SsOk fs.length 6 ss) {x : List Nat} {u : Nat} (h : Skel fs ss x u) : Few (gR (labL fs.length ss)) (mR (tabR (stN fs) fs.length)) (labL fs.length ss).length x u := by
  rw [labL_len]; exact h.few.congr (ref_congr h8 hs)
theorem tab_rows (R : Rel) (n : Nat) : ∀ a, a < (tabR R n).length → ((tabR R n).getD a []).length = n := fun a ha => by
  have h : a < n := by rw [tabR_len] at ha; exact ha
  unfold tabR
  rw [getD_at (by simpa using h), List.getElem_map, rowR_len]
theorem c97s (gl : Gl) (fs : Fms) (ss : Sgs) (h8 : fs.length ≤ 8) (hs : SsOk fs.length 6 ss) (x : List Nat) (u : Nat) (h : Skel fs ss x u) : PCalls PR gl 97 [vL (natsV (labL fs.length ss)), boolsV (tabR (stN fs) fs.length)] fun r => r = .sl (S := S) U.ints ((allJ fs ss).map natsV) none := by
  have hm : manyJ fs ss = u := by unfold manyJ; rw [h.eq]
  have hc := c97 gl (labL fs.length ss) (tabR (stN fs) fs.length) (by rw [labL_len]; exact h8) (by rw [labL_len, tabR_len]) (by rw [labL_len]; exact tab_rows _ _) x u (few_ref h8 hs h)
  rw [labL_len, ← hm, all_ref h8 hs] at hc
  exact hc

theorem c87 (gl : Gl) (ts : List ByteArray) (fs : Fms) (ss : Sgs) (h8 : fs.length ≤ 8) (hs : SsOk fs.length ts.length ss) (ht6 : ts.length ≤ 6) (hsl : ss.length ≤ 9223372036854775807) (x : List Nat) (u : Nat) (h : Skel fs ss x u) : PCalls PR gl 87 [.agg [strsV ts, fmsV fs, sgsV ss]] fun r => r = .sl (S := S) U.ints ((allJ fs ss).map natsV) none := by
  have hs6 : SsOk fs.length 6 ss := ⟨hs.f, fun s h => by have := hs.t s h; omega⟩
  refine fnW_sound (par_ok gl) Tryd.func87 ?_
  conv => whnf
  refine ⟨[0, 2, 1, 3, 4, 5], [], [], [], ⟨255, [], []⟩, by decide +kernel, ?_⟩
  conv => whnf
  refine byC (c73 gl ts fs ss h8 hs ht6 hsl) op73 ?_
  conv => whnf
  refine byC (c93 gl ts fs ss h8) op93 ?_
  conv => whnf
  refine byC (c97s gl fs ss h8 hs6 x u h) op97 ?_
  -- R:
  conv => whnf

theorem op87 : Opens PR 87 := ⟨_, Tryd.func87, rfl, rfl⟩

theorem c86 (gl : Gl) (ts : List ByteArray) (fs : Fms) (ss : Sgs) (hL : LensJ ts fs ss) : PCalls PR gl 86 [.agg [strsV ts, fmsV fs, sgsV ss]] fun r => r = vI (askE ts fs ss) := by
  refine fnW_sound (par_ok gl) Tryd.func86 ?_
  conv => whnf
  refine byC (c17 gl ts fs ss hL) op17 ?_
  rcases Classical.em (chE ts fs ss = 0) with hk | hk
  · skip
    have hv := (chk_valid.1 hk).job
    have h8 := hv.n8
    have hs6 := hv.s6
    have hsl := (chk_valid.1 hk).s12
    conv => whnf
    refine bcase_iff.2 ⟨fun h2 => ?_, fun h2 => ?_⟩
    · skip
      conv => whnf
      refine byC (c75 gl ts fs ss h8 hv.s hv.t6 (by omega)) op75 ?_
      unfold firV
      rcases hJ : clashJ fs ss with _ | ⟨a, b⟩
      · skip
        have hR := ask_ok hk hJ
        -- R:aTa
        conv => whnf
        rw [hR]; exact congrArg vI hk
      · skip
        have hR := ask_cl hk hJ
        -- R:aTb
        conv => whnf
        rw [hR]
    · skip
      exfalso
      have g : (chE ts fs ss == 0) = false := h2
      rw [hk] at g; cases g --done
  · skip
    have hR := ask_no hk
    conv => whnf
    refine bcase_iff.2 ⟨fun h2 => ?_, fun h2 => ?_⟩
    · skip
      exfalso
      have g : (chE ts fs ss == 0) = true := h2
      exact hk (by simpa using g) --done
    · skip
      -- R:bF
      conv => whnf
      rw [hR]

theorem op86 : Opens PR 86 := ⟨_, Tryd.func86, rfl, rfl⟩

end Go.Ab.SkF
