/-
  THE SKELETON FAMILY, PART PN: days on which types crack, and what is in doubt, of the reference: plain.
  THE SKELETON FAMILY, PART RC: days on which types crack, and what is in doubt: of the reference.
-/
import Derived.Test.YtfhippofplmpdaaDoorRefA
namespace Go.Ab.SkF
open Go Go.Ab Go.Ab.Pln

/-- What the reference looks for among the days of a forme. -/
def cndB (day look d : Int) : Bool := decide (d ≥ day) == (look == 2)
theorem said_skip {fs : Fms} {kind day : Int} {s : Sg} (h : (s.2.1 != kind) = true ∨ (s.2.2 == 0) = true) : saidB fs kind day s = true := by
  unfold saidB
  rcases h with h | h <;> rw [h] <;> simp
theorem said_is {fs : Fms} {kind day : Int} {s : Sg} {F : Fm} (hF : fs.getD s.1.toNat f0 = F) (h1 : (s.2.1 != kind) = false) (h2 : (s.2.2 == 0) = false) (hl : 0 ≤ s.2.2 ∧ s.2.2 ≤ 2) (ho : F.2.2.1 ≤ F.2.2.2) {b : Bool}
    (hb : b = true ↔ ∃ e, F.2.2.1 ≤ e ∧ e < F.2.2.2 + 1 ∧ cndB day s.2.2 e = true) : saidB fs kind day s = b := by
  unfold saidB
  rw [h1, h2, hF]
  have h0 : s.2.2 ≠ 0 := by simpa using h2
  rw [Bool.eq_iff_iff, hb]
  unfold cndB
  rcases (show s.2.2 = 1 ∨ s.2.2 = 2 by omega) with h | h
  · rw [h]
    simp only [Bool.false_or, show ((1 : Int) == 1) = true from rfl, if_true, decide_eq_true_eq, show ((1 : Int) == 2) = false from rfl]
    constructor
    · intro h3; exact ⟨_, Int.le_refl _, by omega, by simp; omega⟩
    · rintro ⟨e, h3, h4, h5⟩; simp at h5; omega
  · rw [h]
    simp only [Bool.false_or, show ((2 : Int) == 1) = false from rfl, decide_eq_true_eq, show ((2 : Int) == 2) = true from rfl, Bool.false_eq_true, if_false]
    constructor
    · intro h3; exact ⟨F.2.2.2, ho, by omega, by simp; omega⟩
    · rintro ⟨e, h3, h4, h5⟩; simp at h5; omega
theorem cnd_none (day look lo : Int) : false = true ↔ ∃ e, lo ≤ e ∧ e < lo ∧ cndB day look e = true :=
  ⟨fun h => (by cases h), fun ⟨e, h1, h2, _⟩ => by omega⟩
theorem cnd_next {day look lo d : Int} {b b' : Bool} (hd : lo ≤ d) (hb : b = true ↔ ∃ e, lo ≤ e ∧ e < d ∧ cndB day look e = true) (hb' : b' = (b || cndB day look d)) : b' = true ↔ ∃ e, lo ≤ e ∧ e < d + 1 ∧ cndB day look e = true := by
  rw [hb', Bool.or_eq_true, hb]
  constructor
  · rintro (⟨e, h1, h2, h3⟩ | h)
    · exact ⟨e, h1, by omega, h3⟩
    · exact ⟨d, hd, by omega, h⟩
  · rintro ⟨e, h1, h2, h3⟩
    rcases Int.lt_or_le e d with h | h
    · exact .inl ⟨e, h1, h, h3⟩
    · obtain rfl : e = d := by omega
      exact .inr h3
theorem all_upto {α : Type} {p : α → Bool} {xs : List α} {i : Nat} (h : i < xs.length) (hn : (xs.take i).all p = true) (hp : p xs[i] = true) : (xs.take (i + 1)).all p = true := by
  rw [take_snoc h, List.all_append, hn]; simp [hp]
theorem all_miss {α : Type} {p : α → Bool} {xs : List α} {i : Nat} (h : i < xs.length) (hp : p xs[i] = false) : xs.all p = false := by
  rw [Bool.eq_false_iff]
  intro ha
  have := List.all_eq_true.1 ha xs[i] (List.getElem_mem h)
  rw [hp] at this; cases this

/-- The days of Cracks. -/
def crkP (fs : Fms) (ss : Sgs) (t : Int) (d : Nat) : Bool := ss.all (saidB fs t d)
def crkL (fs : Fms) (ss : Sgs) (t : Int) : List Nat := (List.range 62).filter (crkP fs ss t)
theorem filter_span {lo hi n : Nat} (h1 : lo ≤ hi) (h2 : hi < n) : (List.range n).filter (fun d => decide (lo ≤ d) && decide (d ≤ hi)) = List.range' lo (hi + 1 - lo) := by
  have e : List.range n = List.range' 0 lo ++ (List.range' lo (hi + 1 - lo) ++ List.range' (hi + 1) (n - (hi + 1))) := by
    have a : List.range' lo (hi + 1 - lo) ++ List.range' (hi + 1) (n - (hi + 1)) = List.range' lo (n - lo) := by
      have := List.range'_append (s := lo) (m := hi + 1 - lo) (n := n - (hi + 1)) (step := 1)
      rw [show lo + 1 * (hi + 1 - lo) = hi + 1 by omega, show hi + 1 - lo + (n - (hi + 1)) = n - lo by omega] at this
      exact this
    have b := List.range'_append (s := 0) (m := lo) (n := n - lo) (step := 1)
    rw [show 0 + 1 * lo = lo by omega, show lo + (n - lo) = n by omega] at b
    rw [a, b, List.range_eq_range']
  rw [e, List.filter_append, List.filter_append, List.filter_eq_nil_iff.2 (fun a ha => by rw [List.mem_range'_1] at ha; simp; omega), List.filter_eq_self.2 (fun a ha => by rw [List.mem_range'_1] at ha; simp; omega),
    List.filter_eq_nil_iff.2 (fun a ha => by rw [List.mem_range'_1] at ha; simp; omega)]
  simp
theorem crk_bounds {nt : Nat} {fs : Fms} {ss : Sgs} (hj : Job nt fs ss) (t : Int) : 0 ≤ (crackS fs ss t).1 ∧ (crackS fs ss t).1 ≤ 61 ∧ 0 ≤ (crackS fs ss t).2 ∧ (crackS fs ss t).2 ≤ 61 :=
  crack_bounds fs (fun f hf => by have := hj.f f hf; omega) t ss _ (by decide) (by decide) (by decide) (by decide)
theorem crk_iff {nt : Nat} {fs : Fms} {ss : Sgs} (hj : Job nt fs ss) (t : Int) (d : Nat) : d ∈ crkL fs ss t ↔ (crackS fs ss t).1 ≤ d ∧ (d : Int) ≤ (crackS fs ss t).2 := by
  rw [crack_iff hj.look]
  unfold crkL crkP
  rw [List.mem_filter, List.mem_range, List.all_eq_true]
  constructor
  · rintro ⟨h1, h2⟩; exact ⟨by omega, by omega, h2⟩
  · rintro ⟨_, h1, h2⟩; exact ⟨by omega, h2⟩
theorem crk_nil {nt : Nat} {fs : Fms} {ss : Sgs} (hj : Job nt fs ss) (t : Int) : crkL fs ss t = [] ↔ (crackS fs ss t).1 > (crackS fs ss t).2 := by
  have hb := crk_bounds hj t
  constructor
  · intro h
    apply Classical.byContradiction
    intro hg
    have : (crackS fs ss t).1.toNat ∈ crkL fs ss t := (crk_iff hj t _).2 ⟨by omega, by omega⟩
    rw [h] at this; cases this
  · intro h
    apply List.eq_nil_iff_forall_not_mem.2
    intro d hd
    have := (crk_iff hj t d).1 hd
    omega
theorem crk_span {nt : Nat} {fs : Fms} {ss : Sgs} (hj : Job nt fs ss) (t : Int) (h : (crackS fs ss t).1 ≤ (crackS fs ss t).2) : crkL fs ss t = List.range' (crackS fs ss t).1.toNat ((crackS fs ss t).2.toNat + 1 - (crackS fs ss t).1.toNat) := by
  have hb := crk_bounds hj t
  rw [← filter_span (lo := (crackS fs ss t).1.toNat) (hi := (crackS fs ss t).2.toNat) (n := 62) (by omega) (by omega)]
  unfold crkL
  apply List.filter_congr
  intro d hd
  have hm := crk_iff hj t d
  unfold crkL at hm
  rw [List.mem_filter] at hm
  rw [Bool.eq_iff_iff]
  have hr := List.mem_range.1 hd
  constructor
  · intro h1; have := hm.1 ⟨hd, h1⟩; simp; omega
  · intro h1; simp at h1; exact (hm.2 ⟨by omega, by omega⟩).2
theorem crk_len (fs : Fms) (ss : Sgs) (t : Int) : (crkL fs ss t).length ≤ 62 := by
  unfold crkL; have := List.length_filter_le (crkP fs ss t) (List.range 62); simpa using this
theorem crk_fst {nt : Nat} {fs : Fms} {ss : Sgs} (hj : Job nt fs ss) (t : Int) (h : (crackS fs ss t).1 ≤ (crackS fs ss t).2) : 0 < (crkL fs ss t).length ∧ (((crkL fs ss t).getD 0 0 : Nat) : Int) = (crackS fs ss t).1 ∧ (((crkL fs ss t).getD ((crkL fs ss t).length - 1) 0 : Nat) : Int) = (crackS fs ss t).2 := by
  have hb := crk_bounds hj t
  rw [crk_span hj t h]
  have hl : (List.range' (crackS fs ss t).1.toNat ((crackS fs ss t).2.toNat + 1 - (crackS fs ss t).1.toNat)).length = (crackS fs ss t).2.toNat + 1 - (crackS fs ss t).1.toNat := by simp
  refine ⟨by rw [hl]; omega, ?_, ?_⟩
  · rw [getD_at (by rw [hl]; omega), List.getElem_range']; omega
  · rw [getD_at (by rw [hl]; omega), List.getElem_range']; simp; omega

/-! ### Lists that are gone through -/
theorem find_at {α : Type} {g : Nat → List α} {P : α → Bool} {a n m i : Nat} (h1 : a ≤ m) (h2 : m < a + n) (hi : i < (g m).length) (hp : P (g m)[i] = true) (hl : ∀ m', a ≤ m' → m' < m → ∀ l ∈ g m', P l = false) (hj : ∀ j, j < i → ∀ h : j < (g m).length, P (g m)[j] = false) :
    ((List.range' a n).flatMap g).find? P = some (g m)[i] := by
  have e : List.range' a n = List.range' a (m - a) ++ m :: List.range' (m + 1) (a + n - (m + 1)) := by
    have b := List.range'_append (s := a) (m := m - a) (n := a + n - m) (step := 1)
    rw [show a + 1 * (m - a) = m by omega, show m - a + (a + n - m) = n by omega] at b
    rw [← b]; congr 1
    rw [show a + n - m = (a + n - (m + 1)) + 1 by omega, List.range'_succ]
  rw [e, List.flatMap_append, List.flatMap_cons, List.find?_append, List.find?_append]
  have n1 : ((List.range' a (m - a)).flatMap g).find? P = none := List.find?_eq_none.2 fun l hlm => by
    obtain ⟨m', hm', hlm⟩ := List.mem_flatMap.1 hlm
    rw [List.mem_range'_1] at hm'
    rw [hl m' hm'.1 (by omega) l hlm]; simp
  have n2 : (g m).find? P = some (g m)[i] := by
    rw [List.find?_eq_some_iff_getElem]
    exact ⟨hp, i, hi, rfl, fun j hj' => by rw [hj j hj' (by omega)]; rfl⟩
  rw [n1, n2]; rfl
theorem find_no {α : Type} {g : Nat → List α} {P : α → Bool} {a n : Nat} (hl : ∀ m', a ≤ m' → m' < a + n → ∀ l ∈ g m', P l = false) : ((List.range' a n).flatMap g).find? P = none := List.find?_eq_none.2 fun l hlm => by
  obtain ⟨m', hm', hlm⟩ := List.mem_flatMap.1 hlm
  rw [List.mem_range'_1] at hm'
  rw [hl m' hm'.1 hm'.2 l hlm]; simp
theorem fsum_len {b : Nat} {α : Type} {h : Nat → List α} : ∀ (n f : Nat), f + n ≤ b → (∀ k, f ≤ k → k < b → (h k).length ≤ 2 ^ (b - (k + 1))) → ((List.range' f n).flatMap h).length + 1 ≤ 2 ^ (b - f)
  | 0, f, _, _ => by simpa using Nat.one_le_two_pow
  | n + 1, f, hb, hh => by
    have h1 := fsum_len n (f + 1) (by omega) fun k hk hk' => hh k (by omega) hk'
    have h2 := hh f (Nat.le_refl _) (by omega)
    have e : 2 ^ (b - f) = 2 ^ (b - (f + 1)) + 2 ^ (b - (f + 1)) := by rw [show b - f = b - (f + 1) + 1 by omega, Nat.pow_succ]; omega
    rw [List.range'_succ, List.flatMap_cons, List.length_append, e]; omega
theorem listsL_le : ∀ (m f b : Nat), f ≤ b → (listsL f b m).length ≤ 2 ^ (b - f)
  | 0, f, b, _ => Nat.one_le_two_pow
  | m + 1, f, b, hf => by
    have := fsum_len (b := b) (h := fun k => (listsL (k + 1) b m).map fun l => k :: l) (b - (f + m)) f (by omega) fun k hk hk' => by
      rw [List.length_map]; exact listsL_le m (k + 1) b hk'
    unfold listsL
    omega
theorem listsL_len {c : Nat} (hc : c ≤ 12) (m : Nat) : (listsL 0 c m).length ≤ 4096 :=
  Nat.le_trans (listsL_le m 0 c (Nat.zero_le _)) (Nat.pow_le_pow_right (n := 2) (by omega) (show c - 0 ≤ 12 by omega))
theorem has_nats (l : List Nat) (i : Nat) : ((natsV l).any fun x => x == (i : Int)) = l.contains i := by
  rw [Bool.eq_iff_iff, List.any_eq_true, List.contains_iff_mem]
  constructor
  · rintro ⟨x, hx, he⟩
    obtain ⟨k, hk, rfl⟩ := List.mem_map.1 hx
    have : (k : Int) = i := by simpa using he
    obtain rfl : k = i := by omega
    exact hk
  · intro h; exact ⟨(i : Int), List.mem_map.2 ⟨i, h, rfl⟩, by simp⟩
/-- The days on which a type can have cracked are none just if they are not in order. -/
theorem agree_no {nt : Nat} {fs : Fms} {ss : Sgs} (hj : Job nt fs ss) {t : Nat} (ht : t < nt) (h : crkL fs ss t = []) : agreeB nt fs ss = false := by
  have := (crk_nil hj t).1 h
  unfold agreeB
  rw [Bool.and_eq_false_iff]
  right
  rw [Bool.eq_false_iff]
  intro ha
  have := List.all_eq_true.1 ha t (List.mem_range.2 ht)
  rw [decide_eq_true_eq] at this
  omega
theorem agree_cl {nt : Nat} {fs : Fms} {ss : Sgs} {p : Nat × Nat} (h : clashJ fs ss = some p) : agreeB nt fs ss = false := by unfold agreeB; rw [h]; rfl
theorem agree_yes {nt : Nat} {fs : Fms} {ss : Sgs} (hj : Job nt fs ss) (hc : clashJ fs ss = none) (h : ∀ t : Nat, t < nt → crkL fs ss t ≠ []) : agreeB nt fs ss = true := by
  unfold agreeB
  rw [hc]
  simp only [Option.isNone_none, Bool.true_and, List.all_eq_true, List.mem_range, decide_eq_true_eq]
  intro t ht
  have := h t ht
  rw [ne_eq, crk_nil hj] at this
  omega
end Go.Ab.SkF

namespace Go.Ab.SkF
open Go Go.Ab Go.Ab.Pln Go.Proofs
set_option maxHeartbeats 1000000
set_option maxRecDepth 100000

theorem filt_T {p : Nat → Bool} {i : Nat} (h : p i = true) : natsV ((List.range i).filter p) ++ [((i : Nat) : Int)] = natsV ((List.range (i + 1)).filter p) := by
  rw [List.range_succ, List.filter_append]; simp [natsV, h]
theorem filt_F {p : Nat → Bool} {i : Nat} (h : p i = false) : (List.range i).filter p = (List.range (i + 1)).filter p := by
  rw [List.range_succ, List.filter_append]; simp [h]
theorem filt_len (p : Nat → Bool) (i : Nat) : (natsV ((List.range i).filter p)).length ≤ i := by
  rw [natsV_length]; have := List.length_filter_le p (List.range i); simpa using this

theorem c110 (gl : Gl) (ts : List ByteArray) (fs : Fms) (ss : Sgs) (hj : Job ts.length fs ss) (t day : Int) : PCalls PR gl 110 [.agg [strsV ts, fmsV fs, sgsV ss], vI t, vI day] fun r => r = vB (ss.all (saidB fs t day)) := by
  have h8 := hj.n8
  have hsl := hj.ss
  have ht6 := hj.t6
  refine fnW_sound (par_ok gl) Tryd.func110 ?_
  conv => whnf
  refine loop_q fun Q1 hQ1 => ?_
  refine ⟨⟨142, [], []⟩, ?_⟩
  refine LoopW_ind _ (fun i : Nat => (({ tmps := [.undef, vI t, vI day, .own 3 [], .undef, .undef, .undef, vI i, .undef, .undef, .undef, .undef, .undef, .undef, .undef, .undef, .undef, .undef, .undef, .undef, .undef, .undef, .undef, .undef, .undef, .undef, .undef, .undef, .undef, .undef, .undef, .undef, .undef, .undef, .undef, .undef, .undef, .undef, .undef, .undef, .undef, .undef, .undef, .undef, .undef, .undef, .undef, .undef, .undef, .undef, .undef, .undef, .undef, .undef, .undef, .undef, .undef, .undef, .undef], seg := [(3, .cells [strsV ts, fmsV fs, sgsV ss])], up := [] } : St S))) (fun i : Nat => (i ≤ ss.length ∧ (ss.take i).all (saidB fs t day) = true)) (fun i : Nat => (ss.length - i)) () ?_ 0 ⟨Nat.zero_le _, rfl⟩
  intro i hinv Z1 hZ1
  obtain ⟨hi, hn⟩ := hinv
  conv => whnf
  refine bcase_iff.2 ⟨fun h2 => ?_, fun h2 => ?_⟩
  · skip
    have hlt : i < ss.length := by have := of_decide_eq_true h2; omega
    have hw : IntKind.i64.wrap ((i : Int) + 1) = ((i + 1 : Nat) : Int) := wrap_nat (by omega)
    obtain ⟨hf0, hf1⟩ := hj.s.f _ (List.getElem_mem hlt)
    have hlk := hj.look _ (List.getElem_mem hlt)
    obtain ⟨k, hk⟩ : ∃ k : Nat, ss[i].1 = (k : Int) := ⟨ss[i].1.toNat, by omega⟩
    have hkf : k < fs.length := by omega
    have hgF : fs.getD ss[i].1.toNat f0 = fs[k] := by rw [hk]; exact getD_at hkf
    have hFo := hj.f _ (List.getElem_mem hkf)
    conv => whnf
    refine ⟨_, getI_nat hlt, ?_⟩
    conv => whnf
    refine bcase_iff.2 ⟨fun g5_4 => ?_, fun g5_4 => ?_⟩
    · skip
      have q1 : (ss[i].2.1 != t) = true := g5_4
      -- Z2:TT
      conv => whnf
      refine ⟨⟨142, [8, 9, 1008, 1009, 2008, 2009, 3008, 3009, 4008, 4009], []⟩, ?_⟩
      conv => whnf
      rw [hw]
      exact hZ1 (i + 1) ⟨hlt, all_upto hlt hn (said_skip (.inl q1))⟩ (by omega)
    · skip
      have q1 : (ss[i].2.1 != t) = false := g5_4
      conv => whnf
      refine bcase_iff.2 ⟨fun h5 => ?_, fun h5 => ?_⟩
      · skip
        have q2 : (ss[i].2.2 == 0) = true := h5
        -- Z2:TFT
        conv => whnf
        refine ⟨⟨142, [8, 9, 1008, 1009, 2008, 2009, 3008, 3009, 4008, 4009], []⟩, ?_⟩
        conv => whnf
        rw [hw]
        exact hZ1 (i + 1) ⟨hlt, all_upto hlt hn (said_skip (.inr q2))⟩ (by omega)
      · skip
        have q2 : (ss[i].2.2 == 0) = false := h5
        conv => whnf
        refine ⟨_, (by rw [hk]; exact getI_nat hkf), ?_⟩
        conv => whnf
        refine loop_q fun Q2 hQ2 => ?_
        refine ⟨⟨3982, [], []⟩, ?_⟩
        refine LoopW_ind _ (fun s9 : Int × Bool => match s9 with | (d, b) => (({ tmps := [.undef, vI t, vI day, .own 3 [], .undef, .undef, .undef, vI i, .own 8 [], .own 9 [], vB b, vI d, .undef, .undef, .undef, .undef, .undef, .undef, .undef, .undef, .undef, .undef, .undef, .undef, .undef, .undef, .undef, .undef, .undef, .undef, .undef, .undef, .undef, .undef, .undef, .undef, .undef, .undef, .undef, .undef, .undef, .undef, .undef, .undef, .undef, .undef, .undef, .undef, .undef, .undef, .undef, .undef, .undef, .undef, .undef, .undef, .undef, .undef, .undef], seg := [(3, .cells [strsV ts, fmsV fs, sgsV ss]), (8, .cells [vI ss[i].1, vI ss[i].2.1, vI ss[i].2.2]), (9, .cells [.str fs[k].1, vI fs[k].2.1, vI fs[k].2.2.1, vI fs[k].2.2.2])], up := [] } : St S))) (fun s9 : Int × Bool => match s9 with | (d, b) => (fs[k].2.2.1 ≤ d ∧ d ≤ fs[k].2.2.2 + 1 ∧ (b = true ↔ ∃ e, fs[k].2.2.1 ≤ e ∧ e < d ∧ cndB day ss[i].2.2 e = true))) (fun s9 : Int × Bool => match s9 with | (d, b) => ((fs[k].2.2.2 + 1 - d).toNat)) () ?_ (_, false) ⟨Int.le_refl _, by omega, cnd_none _ _ _⟩
        rintro ⟨d, b⟩ hinv Z2 hZ2
        dsimp only at hinv hZ2
        obtain ⟨hd1, hd2, hb⟩ := hinv
        conv => whnf
        refine bcase_iff.2 ⟨fun h9 => ?_, fun h9 => ?_⟩
        · skip
          have hdl : d ≤ fs[k].2.2.2 := of_decide_eq_true h9
          have hwd : IntKind.i64.wrap (d + 1) = d + 1 := wrap_int (by omega) (by omega)
          conv => whnf
          refine bcase_iff.2 ⟨fun g11_1 => ?_, fun g11_1 => ?_⟩
          · skip
            have hbt : b = true := g11_1
            -- Z9:TT
            conv => whnf
            refine ⟨⟨3982, [], []⟩, ?_⟩
            conv => whnf
            rw [hwd]
            exact hZ2 (d + 1, true) ⟨by omega, by omega, cnd_next hd1 hb (by rw [hbt]; rfl)⟩ (by dsimp only; omega)
          · skip
            have hbf : b = false := g11_1
            -- Z9:TF
            conv => whnf
            refine ⟨⟨3982, [], []⟩, ?_⟩
            conv => whnf
            rw [hwd]
            have hz := hZ2 (d + 1, cndB day ss[i].2.2 d) ⟨by omega, by omega, cnd_next hd1 hb (by rw [hbf]; rfl)⟩ (by dsimp only; omega)
            exact hz
        · skip
          have hde : d = fs[k].2.2.2 + 1 := by have := of_decide_eq_false h9; omega
          have hsd : saidB fs t day ss[i] = b := said_is hgF q1 q2 hlk hFo.2.2.1 (by rw [← hde]; exact hb)
          conv => whnf
          refine (hQ2 _ _ _).mpr ?_
          conv => whnf
          refine bcase_iff.2 ⟨fun h12 => ?_, fun h12 => ?_⟩
          · skip
            have hbf : saidB fs t day ss[i] = false := by rw [hsd]; have g : (!b) = true := h12; simpa using g
            conv => whnf
            refine (hQ1 _ _ _).mpr ?_
            -- R:TFFFT
            conv => whnf
            rw [all_miss hlt hbf]
          · skip
            have hbt : saidB fs t day ss[i] = true := by rw [hsd]; have g : (!b) = false := h12; simpa using g
            -- Z2:TFFFF
            conv => whnf
            refine ⟨⟨142, [8, 9, 1008, 1009, 2008, 2009, 3008, 3009, 4008, 4009], []⟩, ?_⟩
            conv => whnf
            rw [hw]
            exact hZ1 (i + 1) ⟨hlt, all_upto hlt hn (hbt)⟩ (by omega)
  · skip
    have hge : i = ss.length := by have := of_decide_eq_false h2; omega
    conv => whnf
    refine (hQ1 _ _ _).mpr ?_
    -- R:F
    conv => whnf
    rw [hge, List.take_length] at hn
    rw [hn]

theorem op110 : Opens PR 110 := ⟨_, Tryd.func110, rfl, rfl⟩

theorem c77 (gl : Gl) (ts : List ByteArray) (fs : Fms) (ss : Sgs) (hj : Job ts.length fs ss) (t : Int) : PCalls PR gl 77 [.agg [strsV ts, fmsV fs, sgsV ss], vI t] fun r => r = vL (natsV (crkL fs ss t)) := by
  have h8 := hj.n8
  have hsl := hj.ss
  have ht6 := hj.t6
  refine fnW_sound (par_ok gl) Tryd.func77 ?_
  conv => whnf
  refine ⟨⟨102, [4], [4, 5]⟩, ?_⟩
  refine LoopW_ind _ (fun i : Nat => (({ tmps := [.undef, vI t, .own 2 [], .undef, .undef, .sl (S := S) U.int (natsV ((List.range i).filter (crkP fs ss t))) (some 5), vI i, .undef, .undef, .undef, .undef, .undef, .undef, .undef, .undef, .undef, .undef, .undef, .undef, .undef], seg := [(2, .cells [strsV ts, fmsV fs, sgsV ss]), (5, .row U.int false)], up := [] } : St S))) (fun i : Nat => (i ≤ 62)) (fun i : Nat => (62 - i)) () ?_ 0 (Nat.zero_le _)
  intro i hi Z1 hZ1
  conv => whnf
  refine bcase_iff.2 ⟨fun h3 => ?_, fun h3 => ?_⟩
  · skip
    have hlt : i ≤ 61 := by have := of_decide_eq_true h3; omega
    have hw : IntKind.i64.wrap ((i : Int) + 1) = ((i + 1 : Nat) : Int) := wrap_nat (by omega)
    conv => whnf
    refine byC (c110 gl ts fs ss hj t i) op110 ?_
    conv => whnf
    refine bcase_iff.2 ⟨fun h5 => ?_, fun h5 => ?_⟩
    · skip
      have q : crkP fs ss t i = true := h5
      conv => whnf
      refine ⟨_, rfl, ?_⟩
      conv => whnf
      have hfl := filt_len (crkP fs ss t) i
      conv => whnf
      refine ⟨lim (by show (natsV ((List.range i).filter (crkP fs ss t))).length + 1 ≤ _; omega), ?_⟩
      -- Z3:TT
      conv => whnf
      refine ⟨⟨102, [17, 18], []⟩, ?_⟩
      conv => whnf
      rw [hw, filt_T q]
      exact hZ1 (i + 1) (by omega) (by omega)
    · skip
      have q : crkP fs ss t i = false := h5
      -- Z3:TF
      conv => whnf
      refine ⟨⟨102, [17, 18], []⟩, ?_⟩
      conv => whnf
      rw [hw, filt_F q]
      exact hZ1 (i + 1) (by omega) (by omega)
  · skip
    have hge : i = 62 := by have := of_decide_eq_false h3; omega
    subst hge
    -- R:F
    conv => whnf
    rfl

theorem op77 : Opens PR 77 := ⟨_, Tryd.func77, rfl, rfl⟩

theorem c24 (gl : Gl) (ts : List ByteArray) (fs : Fms) (ss : Sgs) (hL : LensJ ts fs ss) (t : Int) : PCalls PR gl 24 [.agg [strsV ts, fmsV fs, sgsV ss], vI t] fun r => r = .tup [.agg [vI (crackR ts fs ss t).1, vI (crackR ts fs ss t).2.1], vI (crackR ts fs ss t).2.2] := by
  have htl := hL.t
  have hwr : IntKind.i64.wrap ((ts.length : Int) - 1) = (ts.length : Int) - 1 := wrap_int (by omega) (by omega)
  refine fnW_sound (par_ok gl) Tryd.func24 ?_
  conv => whnf
  refine byC (c17 gl ts fs ss hL) op17 ?_
  rcases Classical.em (chE ts fs ss = 0) with hk | hk
  · skip
    have hv := (chk_valid.1 hk).job
    have h8 := hv.n8
    have hs6 := hv.s6
    have hcl := crk_len fs ss t
    conv => whnf
    refine bcase_iff.2 ⟨fun g2_2 => ?_, fun g2_2 => ?_⟩
    · skip
      conv => whnf
      refine byC (c68 gl _ _ _) op68 ?_
      conv => whnf
      refine bcase_iff.2 ⟨fun h2 => ?_, fun h2 => ?_⟩
      · skip
        have q : [t].any (outB 0 ((ts.length : Int) - 1)) = true := by have g : (!inB t 0 (IntKind.i64.wrap ((ts.length : Int) - 1))) = true := h2; rw [hwr, in_out] at g; simpa using g
        have hR : crackR ts fs ss t = (0, 0, 4) := by unfold crackR; rw [if_neg (fun h => h hk), if_pos q]
        -- R:aTT
        conv => whnf
        rw [hR]
      · skip
        have q : [t].any (outB 0 ((ts.length : Int) - 1)) = false := by have g : (!inB t 0 (IntKind.i64.wrap ((ts.length : Int) - 1))) = false := h2; rw [hwr, in_out] at g; simpa using g
        conv => whnf
        refine bcase_iff.2 ⟨fun h4 => ?_, fun h4 => ?_⟩
        · skip
          exfalso
          have g : (chE ts fs ss != 0) = true := h4
          rw [hk] at g; cases g --done
        · skip
          conv => whnf
          refine byC (c77 gl ts fs ss hv t) op77 ?_
          conv => whnf
          refine bcase_iff.2 ⟨fun h7 => ?_, fun h7 => ?_⟩
          · skip
            have q3 : crkL fs ss t = [] := by have g : (((natsV (crkL fs ss t)).length : Int) == 0) = true := h7; rw [natsV_length] at g; exact List.eq_nil_of_length_eq_zero (by simpa using g)
            have hR : crackR ts fs ss t = (0, 0, 8) := by unfold crackR; rw [if_neg (fun h => h hk), if_neg (by rw [q]; simp), if_pos ((crk_nil hv t).1 q3)]
            -- R:aTFFT
            conv => whnf
            rw [hR]
          · skip
            have q3 : crkL fs ss t ≠ [] := by intro e; have g : (((natsV (crkL fs ss t)).length : Int) == 0) = false := h7; rw [e] at g; cases g
            have q4 := fun h => q3 ((crk_nil hv t).2 h)
            obtain ⟨hl0, hl1, hl2⟩ := crk_fst hv t (Int.not_lt.1 q4)
            have hR : crackR ts fs ss t = ((crackS fs ss t).1, (crackS fs ss t).2, 0) := by unfold crackR; rw [if_neg (fun h => h hk), if_neg (by rw [q]; simp), if_neg q4]
            have hwl : IntKind.i64.wrap (((natsV (crkL fs ss t)).length : Int) - 1) = (((crkL fs ss t).length - 1 : Nat) : Int) := by rw [natsV_length, wrap_int (by omega) (by omega)]; omega
            conv => whnf
            refine ⟨[0, 1, 2, 3, 4, 5, 6, 7, 8, 9, 10, 11], [], [], [], ⟨281474976710655, [], []⟩, by decide +kernel, ?_⟩
            conv => whnf
            refine ⟨_, getI_natsD (i := 0) hl0, ?_⟩
            conv => whnf
            refine ⟨_, (by rw [hwl]; exact getI_natsD (by omega)), ?_⟩
            -- R:aTFFF
            conv => whnf
            rw [hR, hl1, hl2]
    · skip
      exfalso
      have g : (chE ts fs ss == 0) = false := g2_2
      rw [hk] at g; cases g --done
  · skip
    have hR : crackR ts fs ss t = (0, 0, chE ts fs ss) := by unfold crackR; rw [if_pos hk]
    conv => whnf
    refine bcase_iff.2 ⟨fun g2_2 => ?_, fun g2_2 => ?_⟩
    · skip
      exfalso
      have g : (chE ts fs ss == 0) = true := g2_2
      exact hk (by simpa using g) --done
    · skip
      conv => whnf
      refine bcase_iff.2 ⟨fun h4 => ?_, fun h4 => ?_⟩
      · skip
        -- R:bFT
        conv => whnf
        rw [hR]
      · skip
        exfalso
        have g : (chE ts fs ss != 0) = false := h4
        exact hk (by simpa using g) --done

theorem op24 : Opens PR 24 := ⟨_, Tryd.func24, rfl, rfl⟩

theorem c82 (gl : Gl) (ts : List ByteArray) (fs : Fms) (ss : Sgs) (hj : Job ts.length fs ss) : PCalls PR gl 82 [.agg [strsV ts, fmsV fs, sgsV ss]] fun r => r = vB (agreeB ts.length fs ss) := by
  have h8 := hj.n8
  have hsl := hj.ss
  have ht6 := hj.t6
  refine fnW_sound (par_ok gl) Tryd.func82 ?_
  conv => whnf
  refine byC (c75 gl ts fs ss h8 hj.s ht6 (by omega)) op75 ?_
  unfold firV
  rcases hJ : clashJ fs ss with _ | ⟨a, b⟩
  · skip
    conv => whnf
    refine ⟨⟨34, [], []⟩, ?_⟩
    refine LoopW_ind _ (fun i : Nat => (({ tmps := [.undef, .own 1 [], .undef, .undef, .undef, vI i, .undef, .undef, .undef, .undef, .undef, .undef, .undef, .undef, .undef, .undef, .undef, .undef, .undef, .undef, .undef, .undef, .undef, .undef, .undef], seg := [(1, .cells [strsV ts, fmsV fs, sgsV ss])], up := [] } : St S))) (fun i : Nat => (i ≤ ts.length ∧ ∀ j : Nat, j < i → crkL fs ss j ≠ [])) (fun i : Nat => (ts.length - i)) () ?_ 0 ⟨Nat.zero_le _, fun j h => absurd h (Nat.not_lt_zero j)⟩
    intro i hinv Z1 hZ1
    obtain ⟨hi, hn⟩ := hinv
    conv => whnf
    refine bcase_iff.2 ⟨fun h5 => ?_, fun h5 => ?_⟩
    · skip
      have hlt : i < ts.length := by have := of_decide_eq_true h5; omega
      have hw : IntKind.i64.wrap ((i : Int) + 1) = ((i + 1 : Nat) : Int) := wrap_nat (by omega)
      conv => whnf
      refine byC (c77 gl ts fs ss hj i) op77 ?_
      conv => whnf
      refine bcase_iff.2 ⟨fun h7 => ?_, fun h7 => ?_⟩
      · skip
        have q : crkL fs ss i = [] := by have g : (((natsV (crkL fs ss i)).length : Int) == 0) = true := h7; rw [natsV_length] at g; exact List.eq_nil_of_length_eq_zero (by simpa using g)
        -- R:aTT
        conv => whnf
        rw [agree_no hj hlt q]
      · skip
        have q : crkL fs ss i ≠ [] := by intro e; have g : (((natsV (crkL fs ss i)).length : Int) == 0) = false := h7; rw [e] at g; cases g
        -- Z5:TF
        conv => whnf
        refine ⟨⟨34, [], []⟩, ?_⟩
        conv => whnf
        rw [hw]
        exact hZ1 (i + 1) ⟨hlt, up_succ hn q⟩ (by omega)
    · skip
      have hge : i = ts.length := by have := of_decide_eq_false h5; omega
      -- R:aF
      conv => whnf
      rw [agree_yes hj hJ (by rw [hge] at hn; exact hn)]
  · skip
    -- R:b
    conv => whnf
    rw [agree_cl hJ]

theorem op82 : Opens PR 82 := ⟨_, Tryd.func82, rfl, rfl⟩

theorem c51 (gl : Gl) (ts : List ByteArray) (fs : Fms) (ss : Sgs) (hsl : ss.length ≤ 100) (l : List Nat) (hl : l.length ≤ 9223372036854775807) : PCalls PR gl 51 [.agg [strsV ts, fmsV fs, sgsV ss], vL (natsV l)] fun r => r = jobV ts fs (pickS ss (fun i => !l.contains i)) := by
  refine fnW_sound (par_ok gl) Tryd.func51 ?_
  conv => whnf
  refine ⟨⟨118, [1004, 2004, 3004], [5, 1004, 2004, 3004]⟩, ?_⟩
  refine LoopW_ind _ (fun i : Nat => (({ tmps := [.undef, vL (natsV l), .own 2 [], .undef, .own 4 [], .sl (S := S) U.sight (pickU ss (fun i => !l.contains i) i) (some 5), vI i, .undef, .undef, .undef, .undef, .undef, .undef, .undef, .undef, .undef, .undef, .undef, .undef, .undef, .undef, .undef, .undef, .undef, .undef, .undef, .undef, .undef, .undef], seg := [(2, .cells [strsV ts, fmsV fs, sgsV ss]), (4, .cells [strsV [], fmsV [], sgsV []]), (5, .row U.sight false)], up := [] } : St S))) (fun i : Nat => (i ≤ ss.length)) (fun i : Nat => (ss.length - i)) () ?_ 0 (Nat.zero_le _)
  intro i hi Z1 hZ1
  conv => whnf
  refine bcase_iff.2 ⟨fun h3 => ?_, fun h3 => ?_⟩
  · skip
    have hlt : i < ss.length := by have := of_decide_eq_true h3; omega
    have hw : IntKind.i64.wrap ((i : Int) + 1) = ((i + 1 : Nat) : Int) := wrap_nat (by omega)
    conv => whnf
    refine byC (c99 gl (natsV l) (by rw [natsV_length]; exact hl) i) op99 ?_
    conv => whnf
    refine bcase_iff.2 ⟨fun h5 => ?_, fun h5 => ?_⟩
    · skip
      have q : (!l.contains i) = true := by have g : (!(natsV l).any fun x => x == (i : Int)) = true := h5; rw [has_nats] at g; exact g
      conv => whnf
      refine ⟨_, getI_nat hlt, ?_⟩
      conv => whnf
      refine ⟨_, rfl, ?_⟩
      conv => whnf
      have hpl : (pickU ss (fun i => !l.contains i) i).length ≤ i := by unfold pickU; have := List.length_filter_le (fun i => !l.contains i) (List.range i); simpa using this
      conv => whnf
      refine ⟨lim (by show (pickU ss (fun i => !l.contains i) i).length + 1 ≤ _; omega), ?_⟩
      -- Z3:TT
      conv => whnf
      refine ⟨⟨118, [24, 25], []⟩, ?_⟩
      conv => whnf
      rw [hw]
      have hz := hZ1 (i + 1) hlt (by omega)
      rw [pickU_succ, if_pos q, getD_at hlt] at hz
      exact hz
    · skip
      have q : (!l.contains i) = false := by have g : (!(natsV l).any fun x => x == (i : Int)) = false := h5; rw [has_nats] at g; exact g
      -- Z3:TF
      conv => whnf
      refine ⟨⟨118, [24, 25], []⟩, ?_⟩
      conv => whnf
      rw [hw]
      have hz := hZ1 (i + 1) hlt (by omega)
      rw [pickU_succ, if_neg (by rw [q]; simp), List.append_nil] at hz
      exact hz
  · skip
    have hge : i = ss.length := by have := of_decide_eq_false h3; omega
    subst hge
    -- R:F
    conv => whnf

theorem op51 : Opens PR 51 := ⟨_, Tryd.func51, rfl, rfl⟩

theorem c26 (gl : Gl) (ts : List ByteArray) (fs : Fms) (ss : Sgs) (hL : LensJ ts fs ss) : PCalls PR gl 26 [.agg [strsV ts, fmsV fs, sgsV ss]] fun r => r = .tup [vL (doubtR ts fs ss).1, vI (doubtR ts fs ss).2] := by
  refine fnW_sound (par_ok gl) Tryd.func26 ?_
  conv => whnf
  refine byC (c17 gl ts fs ss hL) op17 ?_
  rcases Classical.em (chE ts fs ss = 0) with hk | hk
  · skip
    have hv := (chk_valid.1 hk).job
    have h8 := hv.n8
    have hs6 := hv.s6
    have hsl := (chk_valid.1 hk).s12
    have hR : doubtR ts fs ss = (natsV (doubtL ts.length fs ss), 0) := by unfold doubtR; rw [if_neg (fun h => h hk)]
    have hfd := (doubt_find hv (by omega)).2.1
    unfold listsFrom at hfd
    conv => whnf
    refine bcase_iff.2 ⟨fun h2 => ?_, fun h2 => ?_⟩
    · skip
      exfalso
      have g : (chE ts fs ss != 0) = true := h2
      rw [hk] at g; cases g --done
    · skip
      conv => whnf
      refine loop_q fun Q1 hQ1 => ?_
      refine ⟨⟨130, [2], [2]⟩, ?_⟩
      refine LoopW_ind _ (fun m : Nat => (({ tmps := [.undef, .own 1 [], .undef, .undef, .undef, .undef, .undef, vI m, .undef, .undef, .undef, .undef, .undef, .undef, .undef, .undef, .undef, .undef, .undef, .undef, .undef, .undef, .undef, .undef, .undef, .undef, .undef, .undef, .undef, .undef, .undef, .undef, .undef, .undef, .undef, .undef, .undef, .undef, .undef, .undef, .undef, .undef, .undef, .undef, .undef, .undef, .undef, .undef], seg := [(1, .cells [strsV ts, fmsV fs, sgsV ss])], up := [] } : St S))) (fun m : Nat => (m ≤ ss.length + 1 ∧ ∀ m', 0 ≤ m' → m' < m → ∀ l ∈ listsL 0 ss.length m', (lessP ts.length fs ss) l = false)) (fun m : Nat => (ss.length + 1 - m)) () ?_ 0 ⟨Nat.zero_le _, fun m' _ h => absurd h (Nat.not_lt_zero _)⟩
      intro m hinv Z1 hZ1
      obtain ⟨hm, hn⟩ := hinv
      conv => whnf
      refine bcase_iff.2 ⟨fun h5 => ?_, fun h5 => ?_⟩
      · skip
        have hltm : m ≤ ss.length := by have := of_decide_eq_true h5; omega
        have hwm : IntKind.i64.wrap ((m : Int) + 1) = ((m + 1 : Nat) : Int) := wrap_nat (by omega)
        conv => whnf
        refine byC (c81 gl ss.length hsl m 0 (by omega) (by omega)) op81 ?_
        conv => whnf
        have hll : ((listsL 0 ss.length m).map natsV).length = (listsL 0 ss.length m).length := List.length_map ..
        conv => whnf
        have hlen : (listsL 0 ss.length m).length ≤ 4096 := listsL_len hsl m
        conv => whnf
        refine loop_q fun Q2 hQ2 => ?_
        refine ⟨⟨898, [], []⟩, ?_⟩
        refine LoopW_ind _ (fun i : Nat => (({ tmps := [.undef, .own 1 [], .undef, .undef, .undef, .undef, .undef, vI m, .sl (S := S) U.ints ((listsL 0 ss.length m).map natsV) none, vI i, .undef, .undef, .undef, .undef, .undef, .undef, .undef, .undef, .undef, .undef, .undef, .undef, .undef, .undef, .undef, .undef, .undef, .undef, .undef, .undef, .undef, .undef, .undef, .undef, .undef, .undef, .undef, .undef, .undef, .undef, .undef, .undef, .undef, .undef, .undef, .undef, .undef, .undef], seg := [(1, .cells [strsV ts, fmsV fs, sgsV ss])], up := [] } : St S))) (fun i : Nat => (i ≤ (listsL 0 ss.length m).length ∧ ∀ j, j < i → ∀ h : j < (listsL 0 ss.length m).length, (lessP ts.length fs ss) (listsL 0 ss.length m)[j] = false)) (fun i : Nat => ((listsL 0 ss.length m).length - i)) () ?_ 0 ⟨Nat.zero_le _, fun j h => absurd h (Nat.not_lt_zero _)⟩
        intro i hinv Z2 hZ2
        obtain ⟨hi, hj⟩ := hinv
        conv => whnf
        refine bcase_iff.2 ⟨fun h9 => ?_, fun h9 => ?_⟩
        · skip
          have hlt : i < (listsL 0 ss.length m).length := by have := of_decide_eq_true h9; rw [hll] at this; omega
          have hw : IntKind.i64.wrap ((i : Int) + 1) = ((i + 1 : Nat) : Int) := wrap_nat (by omega)
          have hge0 : ((listsL 0 ss.length m).map natsV)[i]? = some (natsV (listsL 0 ss.length m)[i]) := by rw [List.getElem?_map, List.getElem?_eq_getElem hlt]; rfl
          have hgI : getI ((listsL 0 ss.length m).map natsV) (i : Int) = some (natsV (listsL 0 ss.length m)[i]) := hge0
          have hml := (listsL_mem m 0 ss.length _).1 (List.getElem_mem hlt)
          conv => whnf
          refine ⟨[0, 1, 2, 3, 4, 5, 6], [], [], [], ⟨281474976710655, [], []⟩, by decide +kernel, ?_⟩
          conv => whnf
          refine ⟨_, hgI, ?_⟩
          conv => whnf
          refine byC (c51 gl ts fs ss (by omega) (listsL 0 ss.length m)[i] (by omega)) op51 ?_
          conv => whnf
          refine byC (c82 gl ts fs (pickS ss fun k => !(listsL 0 ss.length m)[i].contains k) (hv.pick _)) op82 ?_
          conv => whnf
          refine bcase_iff.2 ⟨fun h11 => ?_, fun h11 => ?_⟩
          · skip
            have q : (lessP ts.length fs ss) (listsL 0 ss.length m)[i] = true := h11
            rw [find_at (P := (lessP ts.length fs ss)) (g := fun m => listsL 0 ss.length m) (Nat.zero_le m) (by omega) hlt q hn hj] at hfd
            conv => whnf
            refine ⟨_, hgI, ?_⟩
            conv => whnf
            refine (hQ2 _ _ _).mpr ?_
            conv => whnf
            refine (hQ1 _ _ _).mpr ?_
            -- R:aFTTT
            conv => whnf
            rw [hR, ← Option.some.inj hfd]
          · skip
            have q : (lessP ts.length fs ss) (listsL 0 ss.length m)[i] = false := h11
            -- Z9:TF
            conv => whnf
            refine ⟨⟨898, [], []⟩, ?_⟩
            conv => whnf
            rw [hw]
            exact hZ2 (i + 1) ⟨hlt, fun j h1 h2 => by
              rcases Nat.lt_or_ge j i with h | h
              · exact hj j h h2
              · obtain rfl : j = i := by omega
                exact q⟩ (by omega)
        · skip
          have hge : i = (listsL 0 ss.length m).length := by have := of_decide_eq_false h9; rw [hll] at this; omega
          conv => whnf
          refine (hQ2 _ _ _).mpr ?_
          -- Z5:TF
          conv => whnf
          refine ⟨⟨130, [], []⟩, ?_⟩
          conv => whnf
          rw [hwm]
          exact hZ1 (m + 1) ⟨by omega, fun m' h0 h1 l hl => by
            rcases Nat.lt_or_ge m' m with h | h
            · exact hn m' h0 h l hl
            · obtain rfl : m' = m := by omega
              obtain ⟨j, hj1, rfl⟩ := List.getElem_of_mem hl
              exact hj j (by omega) hj1⟩ (by omega)
      · skip
        have hgem : m = ss.length + 1 := by have := of_decide_eq_false h5; omega
        exfalso
        rw [find_no (P := (lessP ts.length fs ss)) (g := fun m => listsL 0 ss.length m) (fun m' h1 h2 => hn m' h1 (by omega))] at hfd; cases hfd --done
  · skip
    conv => whnf
    refine bcase_iff.2 ⟨fun h2 => ?_, fun h2 => ?_⟩
    · skip
      -- R:bT
      conv => whnf
      unfold doubtR
      rw [if_pos hk]
    · skip
      exfalso
      have g : (chE ts fs ss != 0) = false := h2
      exact hk (by simpa using g) --done

theorem op26 : Opens PR 26 := ⟨_, Tryd.func26, rfl, rfl⟩

end Go.Ab.SkF
