/-
  THE SKELETON FAMILY, PART QA: numbers of formes that any past could have had, and sightings that tell of it: plain.
  THE SKELETON FAMILY, PART LL: numbers and sightings of a past, and the law SkelTrue.
  THE SKELETON FAMILY, PART LM: the law SkelTrue.
-/
import Derived.Test.YtfhippofplmpdaaDoorLawH
namespace Go.Ab.SkF
open Go Go.Ab Go.Ab.Pln

/-! ### Numbers -/

/-- May a forme have a number, as far as the first k formes go? -/
def freeK (fs : Fms) (l : List Nat) (i n k : Nat) : Bool := (List.range k).all fun k => l.getD k 0 != n || !stN fs i k
def freeU (fs : Fms) (l : List Nat) (i m : Nat) : List Nat := (List.range m).filter fun n => freeK fs l i n i
/-- The number of the next forme. -/
def nextN (fs : Fms) (x : List Int) (l : List Nat) (i : Nat) : Nat := (freeU fs l i (i + 1)).getD (tnN x i % (freeU fs l i (i + 1)).length) 0
def numF (fs : Fms) (x : List Int) : Nat → List Nat
  | 0 => []
  | i + 1 => numF fs x i ++ [nextN fs x (numF fs x i) i]

theorem numF_succ (fs : Fms) (x : List Int) (i : Nat) : numF fs x (i + 1) = numF fs x i ++ [nextN fs x (numF fs x i) i] := rfl
theorem freeK_succ (fs : Fms) (l : List Nat) (i n k : Nat) : freeK fs l i n (k + 1) = (freeK fs l i n k && (l.getD k 0 != n || !stN fs i k)) := by
  unfold freeK; rw [List.range_succ, List.all_append]; simp
theorem freeU_succ (fs : Fms) (l : List Nat) (i m : Nat) : freeU fs l i (m + 1) = freeU fs l i m ++ if freeK fs l i m i then [m] else [] := by
  unfold freeU; rw [List.range_succ, List.filter_append]; simp only [List.filter_cons, List.filter_nil]
theorem freeU_len (fs : Fms) (l : List Nat) (i m : Nat) : (freeU fs l i m).length ≤ m := by
  have := List.length_filter_le (fun n => freeK fs l i n i) (List.range m); simpa [freeU] using this
theorem numF_len (fs : Fms) (x : List Int) : ∀ n, (numF fs x n).length = n
  | 0 => rfl
  | n + 1 => by unfold numF; rw [List.length_append, numF_len fs x n]; rfl
theorem numF_take (fs : Fms) (x : List Int) {i : Nat} : ∀ {n : Nat}, i ≤ n → (numF fs x n).take i = numF fs x i
  | 0, h => by obtain rfl : i = 0 := by omega
               rfl
  | n + 1, h => by
    rcases Nat.lt_or_ge i (n + 1) with hlt | hge
    · conv => lhs; unfold numF
      rw [List.take_append_of_le_length (by rw [numF_len]; omega), numF_take fs x (by omega)]
    · obtain rfl : i = n + 1 := by omega
      exact List.take_of_length_le (by rw [numF_len]; exact Nat.le_refl _)
theorem numF_old (fs : Fms) (x : List Int) {i n k : Nat} (h : i ≤ n) (hk : k < i) : (numF fs x n).getD k 0 = (numF fs x i).getD k 0 := by
  rw [← numF_take fs x h, getD_take hk]
theorem numF_at (fs : Fms) (x : List Int) {i n : Nat} (h : i < n) : (numF fs x n).getD i 0 = nextN fs x (numF fs x i) i := by
  rw [numF_old fs x (show i + 1 ≤ n by omega) (Nat.lt_succ_self i), numF_succ]
  rw [List.getD_eq_getElem?_getD, List.getElem?_append_right (by rw [numF_len]; exact Nat.le_refl _), numF_len]
  simp
theorem freeK_iff {fs : Fms} {l : List Nat} {i n : Nat} : freeK fs l i n i = true ↔ ∀ k, k < i → stN fs i k = true → l.getD k 0 ≠ n := by
  unfold freeK
  rw [List.all_eq_true]
  constructor
  · intro h k hk hs e
    have := h k (List.mem_range.2 hk)
    rw [hs, e] at this; simp at this
  · intro h k hk
    have := h k (List.mem_range.1 hk)
    cases hs : stN fs i k with
    | false => simp
    | true => simpa using this hs
/-- The number itself is free: there is one. -/
theorem free_self {fs : Fms} {l : List Nat} {i : Nat} (h : ∀ k, k < i → l.getD k 0 ≤ k) : i ∈ freeU fs l i (i + 1) := by
  unfold freeU
  rw [List.mem_filter]
  exact ⟨List.mem_range.2 (Nat.lt_succ_self i), freeK_iff.2 fun k hk _ e => by have := h k hk; omega⟩
theorem next_spec {fs : Fms} {x : List Int} {l : List Nat} {i : Nat} (h : ∀ k, k < i → l.getD k 0 ≤ k) : nextN fs x l i ≤ i ∧ ∀ k, k < i → stN fs i k = true → l.getD k 0 ≠ nextN fs x l i := by
  have hm : nextN fs x l i ∈ freeU fs l i (i + 1) := by
    have hp := List.length_pos_of_mem (free_self (fs := fs) h)
    unfold nextN
    rw [getD_at (Nat.mod_lt _ hp)]
    exact List.getElem_mem _
  unfold freeU at hm
  rw [List.mem_filter, List.mem_range] at hm
  exact ⟨by omega, freeK_iff.1 hm.2⟩
theorem numF_le (fs : Fms) (x : List Int) : ∀ n k, k < n → (numF fs x n).getD k 0 ≤ k
  | 0, k, h => by omega
  | n + 1, k, h => by
    rcases Nat.lt_or_ge k n with hlt | hge
    · rw [numF_old fs x (Nat.le_succ n) hlt]; exact numF_le fs x n k hlt
    · obtain rfl : k = n := by omega
      rw [numF_at fs x h]
      exact (next_spec (numF_le fs x k)).1
theorem numF_diff (fs : Fms) (x : List Int) {n i k : Nat} (hi : i < n) (hk : k < i) (hs : stN fs i k = true) : (numF fs x n).getD i 0 ≠ (numF fs x n).getD k 0 := by
  rw [numF_at fs x hi, numF_old fs x (Nat.le_of_lt hi) hk]
  exact fun e => (next_spec (fs := fs) (x := x) (numF_le fs x i)).2 k hk hs e.symm

/-! ### What was seen -/

def crT (dy : List Int) (t : Nat) : Nat := tnN dy t % 62
/-- A sighting as it tells of what was: on the day of a sheet. -/
def dayT (fs : Fms) (sh : List Int) (i : Nat) (s : Sg) : Int := onOf fs s.1.toNat + ((tnN sh i : Nat) : Int) % (offOf fs s.1.toNat - onOf fs s.1.toNat + 1)
def lookT (fs : Fms) (dy sh : List Int) (i : Nat) (s : Sg) : Int := if s.2.2 = 0 then 0 else if dayT fs sh i s ≥ crT dy s.2.1.toNat then 2 else 1
def keepT (fs : Fms) (c : Nat → Nat) (ty : List Int) (s : Sg) : Bool := tnN ty s.2.1.toNat % fs.length == c s.1.toNat
def tellT (fs : Fms) (c : Nat → Nat) (ty dy sh : List Int) (i : Nat) (s : Sg) : Sgs := if keepT fs c ty s then [(s.1, s.2.1, lookT fs dy sh i s)] else []
def toldU (fs : Fms) (ss : Sgs) (c : Nat → Nat) (ty dy sh : List Int) (n : Nat) : Sgs := (List.range n).flatMap fun i => tellT fs c ty dy sh i (ss.getD i s0)
abbrev toldS (fs : Fms) (ss : Sgs) (c : Nat → Nat) (ty dy sh : List Int) : Sgs := toldU fs ss c ty dy sh ss.length

section
variable {fs : Fms} {ss : Sgs} {c : Nat → Nat} {ty dy sh : List Int}
theorem toldU_succ (n : Nat) : toldU fs ss c ty dy sh (n + 1) = toldU fs ss c ty dy sh n ++ tellT fs c ty dy sh n (ss.getD n s0) := by
  unfold toldU; rw [List.range_succ, List.flatMap_append]; simp
theorem tell_T {i : Nat} {s : Sg} (h : keepT fs c ty s = true) : tellT fs c ty dy sh i s = [(s.1, s.2.1, lookT fs dy sh i s)] := by unfold tellT; rw [if_pos h]
theorem tell_F {i : Nat} {s : Sg} (h : keepT fs c ty s = false) : tellT fs c ty dy sh i s = [] := by unfold tellT; rw [if_neg (by rw [h]; decide)]
theorem toldU_len : ∀ n, (toldU fs ss c ty dy sh n).length ≤ n
  | 0 => Nat.le_refl _
  | n + 1 => by
    have := toldU_len n
    rw [toldU_succ, List.length_append]
    unfold tellT
    split <;> simp <;> omega
theorem told_mem {n : Nat} {s : Sg} : s ∈ toldU fs ss c ty dy sh n ↔ ∃ i, i < n ∧ keepT fs c ty (ss.getD i s0) = true ∧ s = ((ss.getD i s0).1, (ss.getD i s0).2.1, lookT fs dy sh i (ss.getD i s0)) := by
  unfold toldU
  rw [List.mem_flatMap]
  constructor
  · rintro ⟨i, hi, hs⟩
    unfold tellT at hs
    split at hs
    · rename_i hk
      exact ⟨i, List.mem_range.1 hi, hk, by simpa using hs⟩
    · cases hs
  · rintro ⟨i, hi, hk, rfl⟩
    exact ⟨i, List.mem_range.2 hi, by rw [tell_T hk]; exact List.mem_cons_self⟩
theorem look_rg (i : Nat) (s : Sg) : 0 ≤ lookT fs dy sh i s ∧ lookT fs dy sh i s ≤ 2 := by
  unfold lookT; split
  · omega
  · split <;> omega
theorem told_two {n nt : Nat} (h : SiOk n nt ss) : ∀ m, m ≤ ss.length → (toldU fs ss c ty dy sh m).Pairwise fun a b => ¬ (a.1 = b.1 ∧ a.2.1 = b.2.1)
  | 0, _ => .nil
  | m + 1, hm => by
    rw [toldU_succ, List.pairwise_append]
    refine ⟨told_two h m (by omega), ?_, fun a ha b hb => ?_⟩
    · unfold tellT; split
      · exact List.pairwise_singleton _ _
      · exact .nil
    · obtain ⟨i, hi, _, rfl⟩ := told_mem.1 ha
      unfold tellT at hb
      split at hb
      · obtain rfl := List.mem_singleton.1 hb
        have hi' : i < ss.length := by omega
        rw [getD_at hi', getD_at (show m < ss.length by omega)]
        exact List.pairwise_iff_getElem.1 h.two i m hi' (by omega) hi
      · cases hb
theorem told_si {n nt : Nat} (h : SiOk n nt ss) : SiOk n nt (toldS fs ss c ty dy sh) := by
  refine ⟨fun s hs => ?_, told_two h _ (Nat.le_refl _)⟩
  obtain ⟨i, hi, _, rfl⟩ := told_mem.1 hs
  rw [getD_at hi]
  obtain ⟨h1, h2, h3, h4, _, _⟩ := h.each _ (List.getElem_mem hi)
  have hl := look_rg (fs := fs) (dy := dy) (sh := sh) i ss[i]
  exact ⟨h1, h2, h3, h4, hl.1, hl.2⟩
theorem told_valid {ts : List ByteArray} (v : Valid ts fs ss) : Valid ts fs (toldS fs ss c ty dy sh) :=
  v.with (told_si v.ok) (Nat.le_trans (toldU_len _) v.s12)
theorem told_fits (hd : ∀ i k, i < fs.length → k < i → stN fs i k = true → c i ≠ c k) : Fits fs (toldS fs ss c ty dy sh) c := by
  have hc : ∀ i t : Nat, seenP (toldS fs ss c ty dy sh) i t → tnN ty t % fs.length = c i := fun i t hs => by
    obtain ⟨s, hs, h1, h2⟩ := hs
    obtain ⟨j, hj, hk, rfl⟩ := told_mem.1 hs
    simp only at h1 h2
    unfold keepT at hk
    rw [h1, h2] at hk
    simpa using hk
  refine ⟨fun i k _ _ ⟨t, h1, h2⟩ => (hc i t h1).symm.trans (hc k t h2), fun i k hi hk hs => ?_⟩
  rcases Nat.lt_trichotomy i k with hlt | he | hlt
  · exact fun e => hd k i hk hlt (by rw [stN_symm]; exact hs) e.symm
  · exact absurd he (stN_self hs)
  · exact hd i k hi hlt hs
theorem told_crack {nt : Nat} (hj : Job nt fs ss) {t : Nat} : (crackS fs (toldS fs ss c ty dy sh) t).1 ≤ crT dy t ∧ (crT dy t : Int) ≤ (crackS fs (toldS fs ss c ty dy sh) t).2 := by
  have hl : ∀ s ∈ toldS fs ss c ty dy sh, 0 ≤ s.2.2 ∧ s.2.2 ≤ 2 := fun s hs => by
    obtain ⟨i, _, _, rfl⟩ := told_mem.1 hs
    exact look_rg _ _
  have hlt : crT dy t < 62 := Nat.mod_lt _ (by omega)
  refine (crack_iff hl (t : Int) (crT dy t)).2 ⟨by omega, by omega, fun s hs => ?_⟩
  obtain ⟨i, hi, _, rfl⟩ := told_mem.1 hs
  rw [getD_at hi]
  obtain ⟨h1, h2⟩ := hj.s.f _ (List.getElem_mem hi)
  have hf := job_days hj (show ss[i].1.toNat < fs.length by omega)
  unfold saidB
  by_cases ht : ss[i].2.1 = (t : Int)
  · have e0 : (ss[i].2.1 != (t : Int)) = false := by simpa using ht
    have ht' : ss[i].2.1.toNat = t := by omega
    rw [e0, Bool.false_or]
    unfold lookT
    split
    · simp
    · split
      · rename_i hd
        rw [ht'] at hd
        have hm : ((tnN sh i : Nat) : Int) % (offOf fs ss[i].1.toNat - onOf fs ss[i].1.toNat + 1) < offOf fs ss[i].1.toNat - onOf fs ss[i].1.toNat + 1 := Int.emod_lt_of_pos _ (by omega)
        unfold dayT at hd
        simp only [onOf, offOf, setOf] at hf hm hd
        have : (crT dy t : Int) ≤ (fs.getD ss[i].1.toNat f0).2.2.2 := by omega
        show (false || if ((2 : Int) == 1) = true then _ else decide _) = true
        rw [if_neg (by decide), decide_eq_true this]; rfl
      · rename_i hd
        rw [ht'] at hd
        have hm : 0 ≤ ((tnN sh i : Nat) : Int) % (offOf fs ss[i].1.toNat - onOf fs ss[i].1.toNat + 1) := Int.emod_nonneg _ (by omega)
        unfold dayT at hd
        simp only [onOf, offOf, setOf] at hf hm hd
        have : (fs.getD ss[i].1.toNat f0).2.2.1 < (crT dy t : Int) := by omega
        show (false || if ((1 : Int) == 1) = true then decide _ else _) = true
        rw [if_pos (by decide), decide_eq_true this]; rfl
  · have e0 : (ss[i].2.1 != (t : Int)) = true := by simpa using ht
    rw [e0]; rfl
end

/-! ### As many numbers -/

theorem many_norm (l : List Nat) : manyL l = manyL (norm (fun i => l.getD i 0) l.length) := by
  unfold manyL
  rw [norm_len]
  unfold manyU cnt
  congr 1
  refine List.filter_congr fun j hj => ?_
  have hj := List.mem_range.1 hj
  congr 1
  rw [Bool.eq_iff_iff, List.contains_iff_mem, List.contains_iff_mem]
  constructor
  · intro h
    obtain ⟨k, hk, he⟩ := List.mem_take_iff_getElem.1 h
    have hk' : k < j := by omega
    refine List.mem_take_iff_getElem.2 ⟨k, by rw [norm_len]; omega, ?_⟩
    have := (norm_same (fun i => l.getD i 0) l.length j hj k hk').2 (by rw [getD_at (show k < l.length by omega)]; exact he)
    rwa [getD_at (show k < _ by rw [norm_len]; omega)] at this
  · intro h
    obtain ⟨k, hk, he⟩ := List.mem_take_iff_getElem.1 h
    rw [norm_len] at hk
    have hk' : k < j := by omega
    refine List.mem_take_iff_getElem.2 ⟨k, by omega, ?_⟩
    have := (norm_same (fun i => l.getD i 0) l.length j hj k hk').1 (by rw [getD_at (show k < _ by rw [norm_len]; omega)]; exact he)
    rwa [getD_at (show k < l.length by omega)] at this
theorem many_ge {fs : Fms} {ss : Sgs} (h8 : fs.length ≤ 8) (hs : SsOk fs.length 6 ss) {x : List Nat} {u : Nat} (hk : Skel fs ss x u) {l : List Nat} (hl : l.length = fs.length) (hf : Fits fs ss fun i => l.getD i 0) : u ≤ manyL l := by
  have hF := (fits_iff h8 hs _).1 hf
  have hw := norm_way hF (Nat.le_refl _)
  have hm : manyL l = top (norm (fun i => l.getD i 0) fs.length) := by
    rw [many_norm, hl]
    exact many_top _ rfl fun i hi => norm_rg _ _ i (by rw [norm_len] at hi; exact hi)
  rw [hm]
  exact hk.least _ ((fits_iff h8 hs _).2 hw.fit) _ fun i hi => norm_lt _ hi

/-- What the law asks of the numbers and the sightings of a past. -/
structure TrueF (ts : List ByteArray) (fs : Fms) (ss : Sgs) (l : List Nat) (dy : List Int) : Prop where
  v : Valid ts fs ss
  free : clashJ fs ss = none
  doubt : doubtR ts fs ss = ([], 0)
  few : ∃ (x : List Nat) (u : Nat), fewR ts fs ss = (natsV x, (u : Int), 0) ∧ u ≤ manyL l
  grp : ∀ k, k < fs.length → lab fs.length ss k ≤ k ∧ l.getD (lab fs.length ss k) 0 = l.getD k 0
  crack : ∀ t : Nat, (crackS fs ss t).1 ≤ crT dy t ∧ (crT dy t : Int) ≤ (crackS fs ss t).2
theorem true_facts {ts : List ByteArray} {fs : Fms} {ss : Sgs} (v : Valid ts fs ss) (sk ty dy sh : List Int) :
    TrueF ts fs (toldS fs ss (fun i => (numF fs sk fs.length).getD i 0) ty dy sh) (numF fs sk fs.length) dy := by
  have hv := told_valid (c := fun i => (numF fs sk fs.length).getD i 0) (ty := ty) (dy := dy) (sh := sh) v
  have hf := told_fits (ss := ss) (c := fun i => (numF fs sk fs.length).getD i 0) (ty := ty) (dy := dy) (sh := sh) fun i k hi hk hs => numF_diff fs sk hi hk hs
  have hc : ∀ t : Nat, _ := fun t => told_crack (c := fun i => (numF fs sk fs.length).getD i 0) (ty := ty) (dy := dy) (sh := sh) v.job (t := t)
  generalize toldS fs ss (fun i => (numF fs sk fs.length).getD i 0) ty dy sh = S at hv hf hc
  have h8 := hv.job.n8
  have hs6 := hv.job.s6
  have hJ : clashJ fs S = none := (fits_free h8 hs6).2 ⟨_, hf⟩
  refine ⟨hv, hJ, ?_, ?_, fun k hk => ?_, hc⟩
  · have hA : agreeB ts.length fs S = true := by
      rw [agree_all hJ, List.all_eq_true]
      intro t _
      have := hc t
      unfold okC
      simp; omega
    obtain ⟨_, _, hL⟩ := doubt_find hv.job (by have := hv.s12; omega)
    have h0 := doubt_nil hL
    rw [hA] at h0
    have h0 : (doubtL ts.length fs S).length = 0 := by simpa using h0
    unfold doubtR
    rw [if_neg (fun h => h (chk_valid.2 hv)), List.eq_nil_of_length_eq_zero h0]; rfl
  · obtain ⟨x, u, hk⟩ := skel_of hv.job.n0 h8 hs6 hJ
    refine ⟨x, u, ?_, many_ge h8 hs6 hk (numF_len fs sk _) hf⟩
    unfold fewR; rw [if_neg (fun h => h (ask_ok (chk_valid.2 hv) hJ)), hk.eq]
  · have hl := lab_spec h8 hs6 hk
    exact ⟨lab_lt h8 hs6 hk, (fits_conn hs6 hf hl.1).symm⟩
end Go.Ab.SkF

namespace Go.Ab.SkF
open Go Go.Ab Go.Ab.Pln Go.Proofs
set_option maxHeartbeats 1000000
set_option maxRecDepth 100000

theorem stN_at {fs : Fms} {i k : Nat} (hi : i < fs.length) (hk : k < i) : stN fs i k = stB fs[i] (fs[k]'(by omega)) := by
  unfold stN; rw [getD_at hi, getD_at (show k < fs.length by omega), show (i != k) = true by simpa using (show i ≠ k by omega)]; rfl
theorem nats_snoc (l : List Nat) (n : Nat) : natsV (l ++ [n]) = natsV l ++ [(n : Int)] := by simp [natsV]
theorem tn_tmod {x : List Int} (hx : ∀ v ∈ x, 0 ≤ v ∧ v ≤ 255) (i n : Nat) : (tnI x i).tmod (n : Int) = ((tnN x i % n : Nat) : Int) := by
  rw [(tn_cast hx i).1, Int.tmod_eq_emod_of_nonneg (Int.natCast_nonneg _)]; rfl
theorem to_t {gl : Gl} {J : AV S} {k k' : Int} {Q : AV S → Prop} (e : k = k') (h : PCalls PR gl 48 [J, vI k'] Q) : PCalls PR gl 48 [J, vI k] Q := by rw [e]; exact h
theorem to_c {gl : Gl} {J : AV S} {k k' : Int} {Q : AV S → Prop} (e : k = k') (h : PCalls PR gl 46 [J, vI k'] Q) : PCalls PR gl 46 [J, vI k] Q := by rw [e]; exact h
abbrev bytesV (l : List Int) : AV S := .sl (S := S) U.u8 l none
abbrev pastV (sk ty dy sh : List Int) : AV S := .agg [bytesV sk, bytesV ty, bytesV dy, bytesV sh]
abbrev ByteL (l : List Int) : Prop := ∀ v ∈ l, 0 ≤ v ∧ v ≤ 255

theorem c46 (gl : Gl) (sk ty dy sh : List Int) (hl : dy.length ≤ 9223372036854775807) (hb : ByteL dy) (t : Nat) : PCalls PR gl 46 [.agg [bytesV sk, bytesV ty, bytesV dy, bytesV sh], vI t] fun r => r = vI (crT dy t) := by
  refine fnW_sound (par_ok gl) Tryd.func46 ?_
  conv => whnf
  refine byC (c48 gl dy hl hb t) op48 ?_
  conv => whnf
  refine ⟨by decide, ?_⟩
  -- R:
  conv => whnf
  rw [show (tnI dy t).tmod 62 = ((tnN dy t % 62 : Nat) : Int) from tn_tmod hb t 62]; rfl

theorem op46 : Opens PR 46 := ⟨_, Tryd.func46, rfl, rfl⟩

theorem c45 (gl : Gl) (n lo hi : Int) : PCalls PR gl 45 [vI n, .agg [vI lo, vI hi]] fun r => r = vB (inB n lo hi) := by
  refine fnW_sound (par_ok gl) Tryd.func45 ?_
  conv => whnf
  refine byC (c100 gl n lo hi) op100 ?_
  -- R:
  conv => whnf

theorem op45 : Opens PR 45 := ⟨_, Tryd.func45, rfl, rfl⟩

theorem c42 (gl : Gl) (ts : List ByteArray) (fs : Fms) (ss : Sgs) (hn : fs.length ≤ 8) (sk : List Int) (hl : sk.length ≤ 9223372036854775807) (hb : ByteL sk) : PCalls PR gl 42 [.agg [strsV ts, fmsV fs, sgsV ss], bytesV sk] fun r => r = vL (natsV (numF fs sk fs.length)) := by
  refine fnW_sound (parO_ok gl) Tryd.func42 ?_
  conv => whnf
  refine loop_q fun Q1 hQ1 => ?_
  refine ⟨⟨102, [4], [4]⟩, ?_⟩
  refine LoopW_ind _ (fun i : Nat => (({ tmps := [.undef, bytesV sk, .own 2 [], .undef, .undef, .sl (S := S) U.int (natsV (numF fs sk i)) (some 5), vI i, .undef, .undef, .undef, .undef, .undef, .undef, .undef, .undef, .undef, .undef, .undef, .undef, .undef, .undef, .undef, .undef, .undef, .undef, .undef, .undef, .undef, .undef, .undef, .undef, .undef, .undef, .undef, .undef, .undef, .undef, .undef, .undef, .undef, .undef, .undef, .undef, .undef, .undef, .undef, .undef, .undef, .undef, .undef, .undef, .undef, .undef, .undef, .undef, .undef, .undef, .undef, .undef, .undef, .undef, .undef, .undef, .undef, .undef, .undef, .undef, .undef, .undef], seg := [(2, .cells [strsV ts, fmsV fs, sgsV ss]), (5, .row U.int true)], up := [] } : St S))) (fun i : Nat => (i ≤ fs.length)) (fun i : Nat => (fs.length - i)) () ?_ 0 (Nat.zero_le _)
  intro i hi Z1 hZ1
  conv => whnf
  refine bcase_iff.2 ⟨fun h3 => ?_, fun h3 => ?_⟩
  · skip
    have hlt : i < fs.length := by have := of_decide_eq_true h3; have := numF_len fs sk i; omega
    have hw : IntKind.i64.wrap ((i : Int) + 1) = ((i + 1 : Nat) : Int) := wrap_nat (by omega)
    conv => whnf
    refine loop_q fun Q2 hQ2 => ?_
    refine ⟨⟨486, [], []⟩, ?_⟩
    refine LoopW_ind _ (fun m : Nat => (({ tmps := [.undef, bytesV sk, .own 2 [], .undef, .undef, .sl (S := S) U.int (natsV (numF fs sk i)) (some 5), vI i, .sl (S := S) U.int (natsV (freeU fs (numF fs sk i) i m)) (some 7), vI m, .undef, .undef, .undef, .undef, .undef, .undef, .undef, .undef, .undef, .undef, .undef, .undef, .undef, .undef, .undef, .undef, .undef, .undef, .undef, .undef, .undef, .undef, .undef, .undef, .undef, .undef, .undef, .undef, .undef, .undef, .undef, .undef, .undef, .undef, .undef, .undef, .undef, .undef, .undef, .undef, .undef, .undef, .undef, .undef, .undef, .undef, .undef, .undef, .undef, .undef, .undef, .undef, .undef, .undef, .undef, .undef, .undef, .undef, .undef, .undef], seg := [(2, .cells [strsV ts, fmsV fs, sgsV ss]), (5, .row U.int true), (7, .row U.int true)], up := [] } : St S))) (fun m : Nat => (m ≤ i + 1)) (fun m : Nat => (i + 1 - m)) () ?_ 0 (Nat.zero_le _)
    intro m hm Z2 hZ2
    conv => whnf
    refine bcase_iff.2 ⟨fun h7 => ?_, fun h7 => ?_⟩
    · skip
      have hltm : m ≤ i := by have := of_decide_eq_true h7; omega
      have hwm : IntKind.i64.wrap ((m : Int) + 1) = ((m + 1 : Nat) : Int) := wrap_nat (by omega)
      have hfl := freeU_len fs (numF fs sk i) i m
      have hnl := numF_len fs sk i
      conv => whnf
      refine loop_q fun Q3 hQ3 => ?_
      refine ⟨⟨2022, [], []⟩, ?_⟩
      refine LoopW_ind _ (fun k : Nat => (({ tmps := [.undef, bytesV sk, .own 2 [], .undef, .undef, .sl (S := S) U.int (natsV (numF fs sk i)) (some 5), vI i, .sl (S := S) U.int (natsV (freeU fs (numF fs sk i) i m)) (some 7), vI m, vB (freeK fs (numF fs sk i) i m k), vI k, .undef, .undef, .undef, .undef, .undef, .undef, .undef, .undef, .undef, .undef, .undef, .undef, .undef, .undef, .undef, .undef, .undef, .undef, .undef, .undef, .undef, .undef, .undef, .undef, .undef, .undef, .undef, .undef, .undef, .undef, .undef, .undef, .undef, .undef, .undef, .undef, .undef, .undef, .undef, .undef, .undef, .undef, .undef, .undef, .undef, .undef, .undef, .undef, .undef, .undef, .undef, .undef, .undef, .undef, .undef, .undef, .undef, .undef], seg := [(2, .cells [strsV ts, fmsV fs, sgsV ss]), (5, .row U.int true), (7, .row U.int true)], up := [] } : St S))) (fun k : Nat => (k ≤ i)) (fun k : Nat => (i - k)) () ?_ 0 (Nat.zero_le _)
      intro k hki Z3 hZ3
      conv => whnf
      refine bcase_iff.2 ⟨fun h11 => ?_, fun h11 => ?_⟩
      · skip
        have hltk : k < i := by have := of_decide_eq_true h11; omega
        have hwk : IntKind.i64.wrap ((k : Int) + 1) = ((k + 1 : Nat) : Int) := wrap_nat (by omega)
        have hkf : k < fs.length := by omega
        conv => whnf
        refine ⟨[0, 1, 2, 3, 4, 5, 6, 7, 8, 9, 10, 11, 12, 13, 14, 15, 16, 17, 18, 19, 20, 21, 22, 23], [4, 5, 600030], [4, 5], [], ⟨590295810358705651711, [], []⟩, by decide +kernel, ?_⟩
        conv => whnf
        refine bcase_iff.2 ⟨fun g13_1 => ?_, fun g13_1 => ?_⟩
        · skip
          have q0 : freeK fs (numF fs sk i) i m k = true := g13_1
          conv => whnf
          refine ⟨_, getI_natsD (by omega), ?_⟩
          conv => whnf
          refine ⟨_, getI_natsD (by omega), ?_⟩
          conv => whnf
          refine bcase_iff.2 ⟨fun g13_8 => ?_, fun g13_8 => ?_⟩
          · skip
            have q1 : ((numF fs sk i).getD k 0 != m) = true := nN g13_8
            -- Z11:TTT
            conv => whnf
            refine ⟨⟨2022, [], []⟩, ?_⟩
            conv => whnf
            rw [hwk]
            have hz := hZ3 (k + 1) hltk (by omega)
            rw [freeK_succ, q0, q1] at hz
            exact hz
          · skip
            have q1 : ((numF fs sk i).getD k 0 != m) = false := nN g13_8
            conv => whnf
            refine ⟨_, getI_nat hlt, ?_⟩
            conv => whnf
            refine ⟨_, getI_nat hkf, ?_⟩
            conv => whnf
            refine byC (c47 gl fs[i] fs[k]) op47 ?_
            -- Z11:TTF
            conv => whnf
            refine ⟨⟨2022, [], []⟩, ?_⟩
            conv => whnf
            rw [hwk]
            have hz := hZ3 (k + 1) hltk (by omega)
            rw [freeK_succ, q0, q1, stN_at hlt hltk] at hz
            exact hz
        · skip
          have q0 : freeK fs (numF fs sk i) i m k = false := g13_1
          -- Z11:TF
          conv => whnf
          refine ⟨⟨2022, [], []⟩, ?_⟩
          conv => whnf
          rw [hwk]
          have hz := hZ3 (k + 1) hltk (by omega)
          rw [freeK_succ, q0] at hz
          exact hz
      · skip
        have hgek : i = k := by have := of_decide_eq_false h11; omega
        subst hgek
        conv => whnf
        refine (hQ3 _ _ _).mpr ?_
        conv => whnf
        refine bcase_iff.2 ⟨fun h14 => ?_, fun h14 => ?_⟩
        · skip
          have q2 : freeK fs (numF fs sk i) i m i = true := h14
          have hfu : natsV (freeU fs (numF fs sk i) i (m + 1)) = natsV (freeU fs (numF fs sk i) i m) ++ [(m : Int)] := by rw [freeU_succ, if_pos q2, nats_snoc]
          conv => whnf
          refine ⟨_, rfl, ?_⟩
          conv => whnf
          refine ⟨lim (by simp [natsV] <;> omega), ?_⟩
          -- Z7:TFT
          conv => whnf
          refine ⟨⟨486, [54, 55], []⟩, ?_⟩
          conv => whnf
          rw [hwm]
          have hz := hZ2 (m + 1) (by omega) (by omega)
          rw [hfu] at hz
          exact hz
        · skip
          have q2 : freeK fs (numF fs sk i) i m i = false := h14
          have hfu : natsV (freeU fs (numF fs sk i) i (m + 1)) = natsV (freeU fs (numF fs sk i) i m) := by rw [freeU_succ, if_neg (by rw [q2]; decide), List.append_nil]
          -- Z7:TFF
          conv => whnf
          refine ⟨⟨486, [54, 55], []⟩, ?_⟩
          conv => whnf
          rw [hwm]
          have hz := hZ2 (m + 1) (by omega) (by omega)
          rw [hfu] at hz
          exact hz
    · skip
      have hgem : i + 1 = m := by have := of_decide_eq_false h7; omega
      subst hgem
      have hfl := freeU_len fs (numF fs sk i) i (i + 1)
      have hnl := numF_len fs sk i
      have hfp := List.length_pos_of_mem (free_self (fs := fs) (numF_le fs sk i))
      have hnz : ((natsV (freeU fs (numF fs sk i) i (i + 1))).length : Int) ≠ 0 := by rw [natsV_length]; omega
      have hgi : getI (natsV (freeU fs (numF fs sk i) i (i + 1))) ((tnI sk i).tmod ((natsV (freeU fs (numF fs sk i) i (i + 1))).length : Int)) = some ((nextN fs sk (numF fs sk i) i : Nat) : Int) := by rw [natsV_length, tn_tmod hb]; exact getI_natsD (Nat.mod_lt _ hfp)
      conv => whnf
      refine (hQ2 _ _ _).mpr ?_
      conv => whnf
      refine byC (c48 gl sk hl hb i) op48 ?_
      conv => whnf
      refine ⟨hnz, ?_⟩
      conv => whnf
      refine ⟨false, _, hgi, ?_⟩
      conv => whnf
      refine ⟨_, rfl, ?_⟩
      conv => whnf
      refine ⟨lim (by simp [natsV] <;> omega), ?_⟩
      -- Z3:TF
      conv => whnf
      refine ⟨⟨102, [7, 54, 55, 66, 67, 900007], []⟩, ?_⟩
      conv => whnf
      rw [hw]
      have hz := hZ1 (i + 1) hlt (by omega)
      rw [numF_succ, nats_snoc] at hz
      exact hz
  · skip
    have hge : i = fs.length := by have := of_decide_eq_false h3; have := numF_len fs sk i; omega
    conv => whnf
    refine (hQ1 _ _ _).mpr ?_
    -- R:F
    conv => whnf
    rw [hge]

theorem op42 : Opens PR 42 := ⟨_, Tryd.func42, rfl, rfl⟩

theorem c43 (gl : Gl) (ts : List ByteArray) (fs : Fms) (ss : Sgs) (hv : Job ts.length fs ss) (L : List Nat) (hLl : L.length = fs.length) (sk ty dy sh : List Int) (hl : ty.length ≤ 9223372036854775807 ∧ dy.length ≤ 9223372036854775807 ∧ sh.length ≤ 9223372036854775807) (hty : ByteL ty) (hdy : ByteL dy) (hsh : ByteL sh) : PCalls PR gl 43 [.agg [strsV ts, fmsV fs, sgsV ss], vL (natsV L), .agg [bytesV sk, bytesV ty, bytesV dy, bytesV sh]] fun r => r = jobV ts fs (toldS fs ss (fun i => L.getD i 0) ty dy sh) := by
  have h100 := hv.ss
  have hn8 := hv.n8
  have hn0 := hv.n0
  refine fnW_sound (par_ok gl) Tryd.func43 ?_
  conv => whnf
  refine ⟨⟨490, [1006, 2006, 3006], [7, 1006, 2006, 3006]⟩, ?_⟩
  refine LoopW_ind _ (fun i : Nat => (({ tmps := [.undef, vL (natsV L), .undef, .own 3 [], .undef, .own 5 [], .own 6 [], .sl (S := S) U.sight (toldU fs ss (fun i => L.getD i 0) ty dy sh i) (some 7), vI i, .undef, .undef, .undef, .undef, .undef, .undef, .undef, .undef, .undef, .undef, .undef, .undef, .undef, .undef, .undef, .undef, .undef, .undef, .undef, .undef, .undef, .undef, .undef, .undef, .undef, .undef, .undef, .undef, .undef, .undef, .undef, .undef, .undef, .undef, .undef, .undef, .undef, .undef, .undef, .undef, .undef, .undef, .undef, .undef, .undef, .undef, .undef, .undef, .undef, .undef, .undef, .undef, .undef, .undef, .undef, .undef, .undef, .undef, .undef, .undef, .undef, .undef, .undef, .undef, .undef, .undef, .undef, .undef], seg := [(3, .cells [strsV ts, fmsV fs, sgsV ss]), (5, .cells [bytesV sk, bytesV ty, bytesV dy, bytesV sh]), (6, .cells [strsV [], fmsV [], sgsV []]), (7, .row U.sight false)], up := [] } : St S))) (fun i : Nat => (i ≤ ss.length)) (fun i : Nat => (ss.length - i)) () ?_ 0 (Nat.zero_le _)
  intro i hi Z1 hZ1
  conv => whnf
  refine bcase_iff.2 ⟨fun h3 => ?_, fun h3 => ?_⟩
  · skip
    have hlt : i < ss.length := by have := of_decide_eq_true h3; omega
    have hw : IntKind.i64.wrap ((i : Int) + 1) = ((i + 1 : Nat) : Int) := wrap_nat (by omega)
    have hTl := toldU_len (fs := fs) (ss := ss) (c := (fun i => L.getD i 0)) (ty := ty) (dy := dy) (sh := sh) i
    have hzs := hZ1 (i + 1) hlt (by omega)
    rw [toldU_succ, getD_at hlt] at hzs
    obtain ⟨hs1, hs2⟩ := hv.s.f _ (List.getElem_mem hlt)
    obtain ⟨hs3, hs4⟩ := hv.s.t _ (List.getElem_mem hlt)
    have hft : ss[i].1.toNat < fs.length := by omega
    have hfe : ss[i].1 = ((ss[i].1.toNat : Nat) : Int) := by omega
    have hte : ss[i].2.1 = ((ss[i].2.1.toNat : Nat) : Int) := by omega
    have hLt : ss[i].1.toNat < L.length := by omega
    have hdj := job_days hv hft
    unfold setOf onOf offOf at hdj
    rw [getD_at hft] at hdj
    have hgL : getI (natsV L) ss[i].1 = some ((L.getD ss[i].1.toNat 0 : Nat) : Int) := by
      conv => lhs; rw [hfe]
      exact getI_natsD hLt
    have hty2 := tn_tmod hty ss[i].2.1.toNat fs.length
    have hnz : (fs.length : Int) ≠ 0 := by omega
    conv => whnf
    refine ⟨_, getI_nat hlt, ?_⟩
    conv => whnf
    refine ⟨_, getI_at hfe hft, ?_⟩
    conv => whnf
    refine ⟨[0, 1, 2, 3, 5, 6, 7, 9, 10, 11, 12, 13, 4, 8, 14], [], [], [], ⟨151115727451828646838271, [], []⟩, by decide +kernel, ?_⟩
    conv => whnf
    refine ⟨_, hgL, ?_⟩
    conv => whnf
    refine byC (to_t hte (c48 gl ty hl.1 hty _)) op48 ?_
    conv => whnf
    refine ⟨hnz, ?_⟩
    conv => whnf
    refine bcase_iff.2 ⟨fun h7 => ?_, fun h7 => ?_⟩
    · skip
      have q : keepT fs (fun i => L.getD i 0) ty ss[i] = false := by
        have g := h7
        rw [hty2] at g
        have g := nN g
        unfold keepT
        simpa using g
      rw [tell_F q, List.append_nil] at hzs
      -- Z3:TT
      conv => whnf
      refine ⟨⟨490, [9, 10, 72, 73, 1009, 1010, 2009, 2010, 3009, 3010, 4009, 4010], []⟩, ?_⟩
      conv => whnf
      rw [hw]
      exact hzs
    · skip
      have q : keepT fs (fun i => L.getD i 0) ty ss[i] = true := by
        have g := h7
        rw [hty2] at g
        have g := nN g
        unfold keepT
        simpa using g
      rw [tell_T q] at hzs
      have hw1 : IntKind.i64.wrap (IntKind.i64.wrap (fs[ss[i].1.toNat].2.2.2 - fs[ss[i].1.toNat].2.2.1) + 1) = fs[ss[i].1.toNat].2.2.2 - fs[ss[i].1.toNat].2.2.1 + 1 := by rw [wrap_int (n := fs[ss[i].1.toNat].2.2.2 - fs[ss[i].1.toNat].2.2.1) (by omega) (by omega), wrap_int (by omega) (by omega)]
      have hnz1 : IntKind.i64.wrap (IntKind.i64.wrap (fs[ss[i].1.toNat].2.2.2 - fs[ss[i].1.toNat].2.2.1) + 1) ≠ 0 := by rw [hw1]; omega
      have hday : IntKind.i64.wrap (fs[ss[i].1.toNat].2.2.1 + (tnI sh i).tmod (IntKind.i64.wrap (IntKind.i64.wrap (fs[ss[i].1.toNat].2.2.2 - fs[ss[i].1.toNat].2.2.1) + 1))) = dayT fs sh i ss[i] := by
        rw [hw1]
        unfold dayT onOf offOf
        rw [getD_at hft, (tn_cast hsh i).1, Int.tmod_eq_emod_of_nonneg (Int.natCast_nonneg _)]
        have h1 := Int.emod_nonneg ((tnN sh i : Nat) : Int) (show fs[ss[i].1.toNat].2.2.2 - fs[ss[i].1.toNat].2.2.1 + 1 ≠ 0 by omega)
        have h2 := Int.emod_lt_of_pos ((tnN sh i : Nat) : Int) (show 0 < fs[ss[i].1.toNat].2.2.2 - fs[ss[i].1.toNat].2.2.1 + 1 by omega)
        exact wrap_int (by omega) (by omega)
      conv => whnf
      refine ⟨[0, 1, 2, 3, 4, 6, 7, 8, 9, 10, 11, 5, 12, 13, 14], [], [], [], ⟨151115727451828646838271, [], []⟩, by decide +kernel, ?_⟩
      conv => whnf
      refine byC (c48 gl sh hl.2.2 hsh i) op48 ?_
      conv => whnf
      refine ⟨hnz1, ?_⟩
      conv => whnf
      refine bcase_iff.2 ⟨fun h9 => ?_, fun h9 => ?_⟩
      · skip
        have q3 : ¬ ss[i].2.2 = 0 := by have g : (ss[i].2.2 != 0) = true := h9; simpa using g
        conv => whnf
        refine byC (to_c hte (c46 gl sk ty dy sh hl.2.1 hdy _)) op46 ?_
        conv => whnf
        refine bcase_iff.2 ⟨fun h11 => ?_, fun h11 => ?_⟩
        · skip
          have q4 : dayT fs sh i ss[i] ≥ crT dy ss[i].2.1.toNat := by have g := of_decide_eq_true h11; rw [hday] at g; exact g
          have q5 : lookT fs dy sh i ss[i] = 2 := by unfold lookT; rw [if_neg q3, if_pos q4]
          conv => whnf
          refine ⟨_, rfl, ?_⟩
          conv => whnf
          refine ⟨Pln.lim (by show (toldU fs ss (fun i => L.getD i 0) ty dy sh i).length + 1 ≤ _; omega), ?_⟩
          -- Z3:TFTT
          conv => whnf
          refine ⟨⟨490, [9, 10, 72, 73, 1009, 1010, 2009, 2010, 3009, 3010, 4009, 4010], []⟩, ?_⟩
          conv => whnf
          rw [hw]
          rw [q5] at hzs
          exact hzs
        · skip
          have q4 : ¬ dayT fs sh i ss[i] ≥ crT dy ss[i].2.1.toNat := by have g := of_decide_eq_false h11; rw [hday] at g; exact g
          have q5 : lookT fs dy sh i ss[i] = 1 := by unfold lookT; rw [if_neg q3, if_neg q4]
          conv => whnf
          refine ⟨_, rfl, ?_⟩
          conv => whnf
          refine ⟨Pln.lim (by show (toldU fs ss (fun i => L.getD i 0) ty dy sh i).length + 1 ≤ _; omega), ?_⟩
          -- Z3:TFTF
          conv => whnf
          refine ⟨⟨490, [9, 10, 72, 73, 1009, 1010, 2009, 2010, 3009, 3010, 4009, 4010], []⟩, ?_⟩
          conv => whnf
          rw [hw]
          rw [q5] at hzs
          exact hzs
      · skip
        have q3 : ss[i].2.2 = 0 := by have g : (ss[i].2.2 != 0) = false := h9; simpa using g
        have q5 : lookT fs dy sh i ss[i] = ss[i].2.2 := by unfold lookT; rw [if_pos q3, q3]
        conv => whnf
        refine ⟨_, rfl, ?_⟩
        conv => whnf
        refine ⟨Pln.lim (by show (toldU fs ss (fun i => L.getD i 0) ty dy sh i).length + 1 ≤ _; omega), ?_⟩
        -- Z3:TFF
        conv => whnf
        refine ⟨⟨490, [9, 10, 72, 73, 1009, 1010, 2009, 2010, 3009, 3010, 4009, 4010], []⟩, ?_⟩
        conv => whnf
        rw [hw]
        rw [q5] at hzs
        exact hzs
  · skip
    have hge : i = ss.length := by have := of_decide_eq_false h3; omega
    subst hge
    -- R:F
    conv => whnf

theorem op43 : Opens PR 43 := ⟨_, Tryd.func43, rfl, rfl⟩

end Go.Ab.SkF

namespace Go.Ab.SkF
open Go Go.Ab Go.Ab.Pln Go.Proofs
set_option maxHeartbeats 1000000
set_option maxRecDepth 100000

theorem clashR_free {ts : List ByteArray} {fs : Fms} {ss : Sgs} (hk : chE ts fs ss = 0) (hJ : clashJ fs ss = none) : clashR ts fs ss = (0, 0, 4) := by unfold clashR; rw [if_neg (fun h => h hk), hJ]
theorem groupsS_bad {ts : List ByteArray} {fs : Fms} {ss : Sgs} {e : Int} (he : e ≠ 0) (hk : chE ts fs ss = e) : groupsS ts fs ss = ([], e) := by unfold groupsS; rw [hk, if_pos he]
theorem told_lens {ts : List ByteArray} {fs : Fms} {ss ss' : Sgs} (h : LensJ ts fs ss) (hs : ss'.length ≤ 100) : LensJ ts fs ss' := ⟨h.t, h.f, by omega, h.tn, h.fn⟩

theorem c7 (ts : List ByteArray) (fs : List Fm) (ss : List Sg) (hL : LensJ ts fs ss) (sk ty dy sh : List Int) (hl : sk.length ≤ 9223372036854775807 ∧ ty.length ≤ 9223372036854775807 ∧ dy.length ≤ 9223372036854775807 ∧ sh.length ≤ 9223372036854775807) (hsk : ByteL sk) (hty : ByteL ty) (hdy : ByteL dy) (hsh : ByteL sh) : PCalls PR glT 7 [.agg [strsV ts, fmsV fs, sgsV ss], .agg [bytesV sk, bytesV ty, bytesV dy, bytesV sh]] fun r => r = vB true := by
  refine fnW_sound (par_ok glT) Tryd.func7 ?_
  conv => whnf
  rcases Classical.em (chE ts fs ss = 0) with hk | hk
  · skip
    have hV := chk_valid.1 hk
    have hv := hV.job
    have h8 := hv.n8
    have hs6 := hv.s6
    have hf7 := hV.n7
    have h12 := hV.s12
    have h41 := c41t glT ts fs ss hL hk
    have hT := true_facts hV sk ty dy sh
    have hNl := numF_len fs sk fs.length
    have h42 := c42 glT ts fs ss h8 sk hl.1 hsk
    have h43 := c43 glT ts fs ss hv (numF fs sk fs.length) hNl sk ty dy sh ⟨hl.2.1, hl.2.2.1, hl.2.2.2⟩ hty hdy hsh
    generalize numF fs sk fs.length = L at hT hNl h42 h43
    generalize toldS fs ss (fun i => L.getD i 0) ty dy sh = Sx at hT h43
    obtain ⟨hVx, hJx, hDx, ⟨x, u, hFx, hux⟩, hGx, hCx⟩ := hT
    have hkx := chk_valid.2 hVx
    have h12x := hVx.s12
    have hLx := told_lens hL (show Sx.length ≤ 100 by omega)
    have h21 := c21 ts fs Sx hLx
    rw [clashR_free hkx hJx] at h21
    have h25 := c25 ts fs Sx hLx
    rw [hDx] at h25
    have h18 := c18 ts fs Sx hLx
    rw [groupsS_ok hkx] at h18
    have h28 := c28 ts fs Sx hLx
    rw [hFx] at h28
    have hGl := labL_len fs.length Sx
    have hGe : ∀ k, k < fs.length → (labL fs.length Sx).getD k 0 ≤ k ∧ L.getD ((labL fs.length Sx).getD k 0) 0 = L.getD k 0 := fun k hk => by rw [labL_get hk]; exact hGx k hk
    generalize labL fs.length Sx = G at h18 hGl hGe
    have h44 := c44 glT L (by omega)
    generalize manyL L = ML at hux h44
    have hnG := natsV_length G
    have hnL := natsV_length L
    generalize natsV x = X at h28
    dsimp only at h21 h25 h18 h28
    refine byC h41 op41 ?_
    conv => whnf
    refine byC h42 op42 ?_
    conv => whnf
    refine byC h43 op43 ?_
    conv => whnf
    refine byC h21 op21 ?_
    conv => whnf
    refine byC h25 op25 ?_
    conv => whnf
    refine byC h18 op18 ?_
    conv => whnf
    refine byC h28 op28 ?_
    conv => whnf
    refine bcase_iff.2 ⟨fun g10_26 => ?_, fun g10_26 => ?_⟩
    · skip
      exfalso
      have g : (((natsV G).length : Int) != ((natsV L).length : Int)) = true := g10_26
      rw [hnG, hnL, hGl, hNl] at g
      simp at g --done
    · skip
      conv => whnf
      refine byC h44 op44 ?_
      conv => whnf
      refine bcase_iff.2 ⟨fun h10 => ?_, fun h10 => ?_⟩
      · skip
        exfalso
        have g : decide ((u : Int) > (ML : Int)) = true := h10
        have g := of_decide_eq_true g
        omega --done
      · skip
        conv => whnf
        refine loop_q fun Q1 hQ1 => ?_
        refine ⟨⟨541068, [1008, 2008, 3008], [1008, 2008, 3008]⟩, ?_⟩
        refine LoopW_ind _ (fun k : Nat => (({ tmps := [.undef, .undef, .own 2 [], .own 3 [], .undef, .undef, .undef, vL (natsV L), .own 8 [], .undef, .undef, .undef, .undef, .undef, vL (natsV G), .undef, .undef, .undef, .undef, vI k, .undef, .undef, .undef, .undef, .undef, .undef, .undef, .undef, .undef, .undef, .undef, .undef, .undef, .undef, .undef, .undef, .undef, .undef, .undef, .undef, .undef, .undef, .undef, .undef, .undef, .undef, .undef, .undef, .undef, .undef, .undef, .undef, .undef, .undef, .undef, .undef, .undef, .undef, .undef, .undef, .undef, .undef, .undef, .undef, .undef, .undef, .undef, .undef, .undef, .undef, .undef, .undef, .undef, .undef, .undef, .undef, .undef, .undef, .undef, .undef, .undef, .undef, .undef, .undef, .undef, .undef, .undef, .undef, .undef, .undef, .undef, .undef, .undef, .undef, .undef, .undef, .undef, .undef, .undef, .undef, .undef, .undef, .undef, .undef, .undef, .undef, .undef, .undef, .undef, .undef, .undef, .undef, .undef, .undef, .undef, .undef, .undef, .undef, .undef, .undef, .undef, .undef, .undef, .undef, .undef, .undef, .undef, .undef, .undef, .undef, .undef, .undef, .undef, .undef, .undef, .undef, .undef, .undef, .undef, .undef, .undef, .undef, .undef, .undef, .undef, .undef, .undef, .undef, .undef, .undef, .undef, .undef, .undef, .undef, .undef], seg := [(2, .cells [strsV ts, fmsV fs, sgsV ss]), (3, .cells [bytesV sk, bytesV ty, bytesV dy, bytesV sh]), (8, .cells [strsV ts, fmsV fs, sgsV Sx])], up := [] } : St S))) (fun k : Nat => (k ≤ fs.length)) (fun k : Nat => (fs.length - k)) () ?_ 0 (Nat.zero_le _)
        intro k hki Z1 hZ1
        conv => whnf
        refine bcase_iff.2 ⟨fun h13 => ?_, fun h13 => ?_⟩
        · skip
          have hltk : k < fs.length := by have := of_decide_eq_true h13; rw [hnG] at this; omega
          have hwk : IntKind.i64.wrap ((k : Int) + 1) = ((k + 1 : Nat) : Int) := wrap_nat (by omega)
          obtain ⟨hge1, hge2⟩ := hGe k hltk
          conv => whnf
          refine ⟨[0, 1, 2, 3, 4, 5, 6, 7, 8, 9, 10, 11, 12, 13, 14, 15, 16, 17, 18, 19, 20, 21, 22, 23, 24, 25, 26], [], [], [], ⟨45671926166590716193865151022383844364247891967, [], []⟩, by decide +kernel, ?_⟩
          conv => whnf
          refine ⟨_, getI_natsD (l := G) (by omega), ?_⟩
          conv => whnf
          refine ⟨_, getI_natsD (l := G) (by omega), ?_⟩
          conv => whnf
          refine bcase_iff.2 ⟨fun g15_13 => ?_, fun g15_13 => ?_⟩
          · skip
            exfalso
            have g : decide (((G.getD k 0 : Nat) : Int) > (k : Int)) = true := g15_13
            have g := of_decide_eq_true g
            omega --done
          · skip
            conv => whnf
            refine ⟨_, getI_natsD (l := G) (by omega), ?_⟩
            conv => whnf
            refine ⟨_, getI_natsD (l := L) (by omega), ?_⟩
            conv => whnf
            refine ⟨_, getI_natsD (l := L) (by omega), ?_⟩
            conv => whnf
            refine bcase_iff.2 ⟨fun h15 => ?_, fun h15 => ?_⟩
            · skip
              exfalso
              have g : (((L.getD (G.getD k 0) 0 : Nat) : Int) != ((L.getD k 0 : Nat) : Int)) = true := h15
              rw [hge2] at g
              simp at g --done
            · skip
              -- Z13:TFF
              conv => whnf
              refine ⟨⟨541068, [], []⟩, ?_⟩
              conv => whnf
              rw [hwk]
              exact hZ1 (k + 1) hltk (by omega)
        · skip
          conv => whnf
          refine (hQ1 _ _ _).mpr ?_
          conv => whnf
          refine loop_q fun Q2 hQ2 => ?_
          refine ⟨⟨1048844, [], []⟩, ?_⟩
          refine LoopW_ind _ (fun t : Nat => (({ tmps := [.undef, .undef, .own 2 [], .own 3 [], .undef, .undef, .undef, .undef, .own 8 [], .undef, .undef, .undef, .undef, .undef, .undef, .undef, .undef, .undef, .undef, .undef, vI t, .undef, .undef, .undef, .undef, .undef, .undef, .undef, .undef, .undef, .undef, .undef, .undef, .undef, .undef, .undef, .undef, .undef, .undef, .undef, .undef, .undef, .undef, .undef, .undef, .undef, .undef, .undef, .undef, .undef, .undef, .undef, .undef, .undef, .undef, .undef, .undef, .undef, .undef, .undef, .undef, .undef, .undef, .undef, .undef, .undef, .undef, .undef, .undef, .undef, .undef, .undef, .undef, .undef, .undef, .undef, .undef, .undef, .undef, .undef, .undef, .undef, .undef, .undef, .undef, .undef, .undef, .undef, .undef, .undef, .undef, .undef, .undef, .undef, .undef, .undef, .undef, .undef, .undef, .undef, .undef, .undef, .undef, .undef, .undef, .undef, .undef, .undef, .undef, .undef, .undef, .undef, .undef, .undef, .undef, .undef, .undef, .undef, .undef, .undef, .undef, .undef, .undef, .undef, .undef, .undef, .undef, .undef, .undef, .undef, .undef, .undef, .undef, .undef, .undef, .undef, .undef, .undef, .undef, .undef, .undef, .undef, .undef, .undef, .undef, .undef, .undef, .undef, .undef, .undef, .undef, .undef, .undef, .undef, .undef], seg := [(2, .cells [strsV ts, fmsV fs, sgsV ss]), (3, .cells [bytesV sk, bytesV ty, bytesV dy, bytesV sh]), (8, .cells [strsV ts, fmsV fs, sgsV Sx])], up := [] } : St S))) (fun t : Nat => (t ≤ ts.length)) (fun t : Nat => (ts.length - t)) () ?_ 0 (Nat.zero_le _)
          intro t hti Z2 hZ2
          conv => whnf
          refine bcase_iff.2 ⟨fun h18x => ?_, fun h18x => ?_⟩
          · skip
            have hltt : t < ts.length := by have := of_decide_eq_true h18x; omega
            have hwt : IntKind.i64.wrap ((t : Int) + 1) = ((t + 1 : Nat) : Int) := wrap_nat (by have := hV.t6; omega)
            obtain ⟨hc1, hc2⟩ := hCx t
            have h23 := c23 glT ts fs Sx hLx t
            rw [crackR_ok hkx hltt, if_neg (by omega)] at h23
            generalize crackS fs Sx (t : Int) = p at hc1 hc2 h23
            obtain ⟨pl, ph⟩ := p
            dsimp only at hc1 hc2 h23
            have h45 := c45 glT (crT dy t) pl ph
            have hin : inB (crT dy t) pl ph = true := by unfold inB; simp; omega
            rw [hin] at h45
            conv => whnf
            refine byC h23 op23 ?_
            conv => whnf
            refine ⟨[0, 1, 2, 3, 4, 6, 5, 7, 8, 9], [], [], [], ⟨45671926166590716193865151022383844364247891967, [], []⟩, by decide +kernel, ?_⟩
            conv => whnf
            refine byC (c46 glT sk ty dy sh hl.2.2.1 hdy t) op46 ?_
            conv => whnf
            refine byC h45 op45 ?_
            -- Z18:T
            conv => whnf
            refine ⟨⟨1048844, [21, 1021, 2021, 3021, 4021], []⟩, ?_⟩
            conv => whnf
            rw [hwt]
            exact hZ2 (t + 1) hltt (by omega)
          · skip
            conv => whnf
            refine (hQ2 _ _ _).mpr ?_
            conv => whnf
            refine byC ((c27)) op27 ?_
            -- R:aFFFF
            conv => whnf
            try rfl
  · skip
    have h18 := c18 ts fs ss hL
    rw [groupsS_bad hk rfl] at h18
    have h41 := c41f glT ts fs ss hL hk
    generalize chE ts fs ss = e at hk h18
    refine byC h41 op41 ?_
    conv => whnf
    refine byC h18 op18 ?_
    conv => whnf
    refine bcase_iff.2 ⟨fun g3_2 => ?_, fun g3_2 => ?_⟩
    · skip
      conv => whnf
      refine byC ((c27)) op27 ?_
      -- R:bT
      conv => whnf
      try rfl
    · skip
      exfalso
      have g : (e != 0) = false := g3_2
      exact hk (by simpa using g) --done

end Go.Ab.SkF
