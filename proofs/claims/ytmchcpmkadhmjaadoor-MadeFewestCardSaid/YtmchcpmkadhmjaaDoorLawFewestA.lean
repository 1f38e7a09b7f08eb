/-
  THE MADE FAMILY, PLAIN LAW, PART E: the fewest leaves: what is so of them.
  THE MADE FAMILY, PLAIN LAW, PART F: the fewest copies: what is so of them.
  THE MADE FAMILY, PLAIN LAW, PART H: leaves that are told, as a set.
  THE MADE FAMILY, PLAIN LAW, PART G: of MadeLeaf: one leaf more, or one that is seen less well.
  THE MADE FAMILY, PART RA: the reference: a hand.
  THE MADE FAMILY, PART LH: what the laws of a hand have in common.
  THE MADE FAMILY, PART LC: MadeFewest.
  THE MADE FAMILY: WHAT ALL ITS CARDS NEED: from a contract of the engine to the given statements' form.
  THE MADE FAMILY: the arguments of its laws, read as ours.
-/
import Derived.Test.YtmchcpmkadhmjaaDoorCards
import Derived.Test.YtmchcpmkadhmjaaDoorTie
import Derived.WalkKit
import Derived.ProofKit
import Derived.OpenShut
import Derived.Deep.DeepHandedRow
import Derived.Lib.LaidTab
import Derived.LaidSub
import Derived.MakeChecks
import Derived.ChangeBears
import Derived.Test.YtmchcpmkadhmjaaDoorMadeB
import Derived.Test.YtmchcpmkadhmjaaDoorMadeA
import Derived.Test.YtmchcpmkadhmjaaDoorEngD
namespace Go.Ab.MkF
open Go Go.Ab Go.Ab.Pln
theorem bitsL_mem {n c a : Nat} (hc : c ≤ 64) (hn : n < 2 ^ c) : a ∈ bitsL n ↔ n.testBit a = true := by
 rw [bitsL_below hc hn, List.mem_filter, List.mem_range]
 refine ⟨fun h => h.2, fun h => ⟨?_, h⟩⟩
 rcases Nat.lt_or_ge a c with h2 | h2
 · exact h2
 rw [Nat.testBit_lt_two_pow (Nat.lt_of_lt_of_le hn (Nat.pow_le_pow_right (by omega) h2))] at h; cases h
theorem bits_asc {n c : Nat} (hc : c ≤ 64) (hn : n < 2 ^ c) : (bitsL n).Pairwise (· < ·) := by
 rw [bitsL_below hc hn]; exact List.Pairwise.filter _ List.pairwise_lt_range
theorem pw_asc {R : Nat → Nat → Prop} : ∀ {l : List Nat}, l.Pairwise (· < ·) → (l.Pairwise R ↔ ∀ a ∈ l, ∀ b ∈ l, a < b → R a b)
 | [], _ => by simp
 | c :: r, h => by
  obtain ⟨h1, h2⟩ := List.pairwise_cons.1 h
  rw [List.pairwise_cons, pw_asc h2]
  constructor
  · rintro ⟨h3, h4⟩ a ha b hb hab
    rcases List.mem_cons.1 ha with rfl | ha'
    · rcases List.mem_cons.1 hb with rfl | hb'
      · omega
      exact h3 b hb'
    rcases List.mem_cons.1 hb with rfl | hb'
    · have := h1 a ha'; omega
    exact h4 a ha' b hb' hab
  intro h3
  exact ⟨fun b hb => h3 c List.mem_cons_self b (List.mem_cons_of_mem _ hb) (h1 b hb), fun a ha b hb => h3 a (List.mem_cons_of_mem _ ha) b (List.mem_cons_of_mem _ hb)⟩
theorem less_test (a b k : Nat) : (less a b).testBit k = (a.testBit k && !b.testBit k) := by
 unfold less
 rw [Nat.testBit_xor, Nat.testBit_and]
 cases a.testBit k <;> cases b.testBit k <;> rfl
theorem rest_test (n s k : Nat) : (less (2 ^ n - 1) s).testBit k = (decide (k < n) && !s.testBit k) := by rw [less_test, Nat.testBit_two_pow_sub_one]
theorem rest_lt (n s : Nat) : less (2 ^ n - 1) s < 2 ^ n := less_lt' (by have := Nat.two_pow_pos n; omega)
def Acc (hs : List Sn) (s : Nat) : Prop := ∀ a b, a < b → b < hs.length → s.testBit a = false → s.testBit b = false → pairH hs a b = true
theorem clR_none {hs : List Sn} {c set : Nat} (hc : c ≤ 64) (hn : set < 2 ^ c) : clR hs set = none ↔ ∀ a b, a < b → set.testBit a = true → set.testBit b = true → pairH hs a b = true := by
 unfold clR
 rw [clL_none, pw_asc (bits_asc hc hn)]
 constructor
 · exact fun h a b hab h1 h2 => h a ((bitsL_mem hc hn).2 h1) b ((bitsL_mem hc hn).2 h2) hab
 exact fun h a h1 b h2 hab => h a b hab ((bitsL_mem hc hn).1 h1) ((bitsL_mem hc hn).1 h2)
theorem accB_iff {hs : List Sn} (h8 : hs.length ≤ 8) {s : Nat} : accB hs s = true ↔ Acc hs s := by
 unfold accB
 rw [Option.isNone_iff_eq_none, clR_none (c := hs.length) (by omega) (rest_lt _ _)]
 unfold Acc
 constructor
 · intro h a b hab hb h1 h2
   exact h a b hab (by rw [rest_test, h1, decide_eq_true (by omega)]; rfl) (by rw [rest_test, h2, decide_eq_true hb]; rfl)
 intro h a b hab h1 h2
 rw [rest_test, Bool.and_eq_true] at h1 h2
 exact h a b hab (of_decide_eq_true h2.1) (by simpa using h1.2) (by simpa using h2.2)
abbrev leastH (hs : List Sn) : Nat := (fewH hs (2 ^ hs.length)).1
theorem fewH_spec (hs : List Sn) : ∀ s, (∀ x, x < s → accB hs x = true → (fewH hs s).1 ≤ onesN x) ∧ ((fewH hs s).2 = (List.range s).filter fun x => accB hs x && onesN x == (fewH hs s).1) ∧ ((fewH hs s).1 = hs.length ∨ (fewH hs s).2 ≠ [])
 | 0 => ⟨fun x h => absurd h (Nat.not_lt_zero x), rfl, .inl rfl⟩
 | s + 1 => by
  obtain ⟨h1, h2, h3⟩ := fewH_spec hs s
  simp only [fewH]
  split
  · rename_i h
    refine ⟨fun x hx ha => ?_, ?_, h3⟩
    · rcases Nat.lt_succ_iff_lt_or_eq.1 hx with hx | rfl
      · exact h1 x hx ha
      simp [ha] at h; omega
    rw [List.range_succ, List.filter_append, ← h2]
    have : (accB hs s && onesN s == (fewH hs s).1) = false := by
     cases ha : accB hs s with
     | false => rfl
     | true => simp [ha] at h; simp; omega
    simp [this]
  rename_i h
  have ha : accB hs s = true := by cases ha : accB hs s <;> simp [ha] at h ⊢
  have hle : onesN s ≤ (fewH hs s).1 := by simp [ha] at h; exact h
  split
  · rename_i hlt
    refine ⟨fun x hx hax => ?_, ?_, .inr (by simp)⟩
    · rcases Nat.lt_succ_iff_lt_or_eq.1 hx with hx | rfl
      · have := h1 x hx hax; show onesN s ≤ _; omega
      exact Nat.le_refl _
    show [s] = _
    rw [List.range_succ, List.filter_append, List.filter_eq_nil_iff.2]
    · simp [ha]
    intro x hx
    have hx := List.mem_range.1 hx
    intro hc
    rw [Bool.and_eq_true] at hc
    have := h1 x hx hc.1
    have := eq_of_beq hc.2
    omega
  rename_i hlt
  have he : onesN s = (fewH hs s).1 := by omega
  refine ⟨fun x hx hax => ?_, ?_, .inr (by simp)⟩
  · rcases Nat.lt_succ_iff_lt_or_eq.1 hx with hx | rfl
    · exact h1 x hx hax
    show (fewH hs x).1 ≤ _; omega
  show (fewH hs s).2 ++ [s] = _
  rw [List.range_succ, List.filter_append, ← h2]
  simp [ha, he]
theorem ones_full : ∀ n, n ≤ 8 → onesN (2 ^ n - 1) = n := by decide
theorem ones_but0 : ∀ n, n ≤ 8 → onesN (2 ^ n - 1 - 1) = n - 1 := by decide
theorem bits_ones {x : Nat} (h : x < 256) : (bitsL x).length = onesN x := by rw [bitsL_below (c := 8) (by omega) h]; rfl
theorem mem_sets {hs : List Sn} (h8 : hs.length ≤ 8) {x : Nat} : x ∈ setsH hs ↔ x < 2 ^ hs.length ∧ Acc hs x ∧ onesN x = leastH hs := by
 unfold setsH
 rw [(fewH_spec hs _).2.1, List.mem_filter, List.mem_range, Bool.and_eq_true, accB_iff h8, beq_iff_eq]
theorem least_le {hs : List Sn} (h8 : hs.length ≤ 8) {x : Nat} (hx : x < 2 ^ hs.length) (ha : Acc hs x) : leastH hs ≤ onesN x := (fewH_spec hs _).1 x hx ((accB_iff h8).2 ha)
theorem least_lt {hs : List Sn} (h1 : 1 ≤ hs.length) (h8 : hs.length ≤ 8) : leastH hs < hs.length := by
 have hp := Nat.two_pow_pos hs.length
 have h := least_le h8 (x := 2 ^ hs.length - 1 - 1) (by omega) (fun a b hab hb _ h2 => by
  rw [Nat.sub_sub, show 1 + 1 = 1 + 1 from rfl] at h2
  exfalso
  have h3 : (2 ^ hs.length - (1 + 1)).testBit b = (decide (b < hs.length) && !(Nat.testBit 1 b)) := Nat.testBit_two_pow_sub_succ (by have := Nat.pow_le_pow_right (n := 2) (by omega) h1; omega) b
  rw [h3, decide_eq_true hb] at h2
  have : Nat.testBit 1 b = false := by
   rw [show (1 : Nat) = 2 ^ 0 from rfl, Nat.testBit_two_pow]; simp; omega
  rw [this] at h2; cases h2)
 rw [ones_but0 _ h8] at h
 omega
theorem sets_ne {hs : List Sn} (h8 : hs.length ≤ 8) : setsH hs ≠ [] := by
 rcases (fewH_spec hs (2 ^ hs.length)).2.2 with h | h
 · refine List.ne_nil_of_mem (a := 2 ^ hs.length - 1) ((mem_sets h8).2 ⟨by have := Nat.two_pow_pos hs.length; omega, fun a b hab hb h1 _ => ?_, by rw [ones_full _ h8]; exact h.symm⟩)
   rw [Nat.testBit_two_pow_sub_one, decide_eq_true (by omega)] at h1; cases h1
 exact h
theorem forN_mem {hs : List Sn} (h8 : hs.length ≤ 8) : forN hs ∈ setsH hs := minU_mem (List.length_pos_iff.2 (sets_ne h8)) _ (Nat.le_refl _)
theorem p256 {n : Nat} (h : n ≤ 8) : 2 ^ n ≤ 256 := Nat.pow_le_pow_right (n := 2) (by omega) h
end Go.Ab.MkF
namespace Go.Ab.MkF
open Go Go.Ab Go.Ab.Pln
def okJ (hs : List Sn) (L : List Int) (j : Nat) : Bool := (List.range L.length).all fun a => !(L.getD a 0 == (j : Int)) || pairH hs a L.length
def allC (hs : List Sn) : Nat → Nat → List Int → List (Nat × List Int)
 | 0, t, L => [(t, L)]
 | k + 1, t, L => (List.range (t + 1)).flatMap fun j => if okJ hs L j then allC hs k (max t (j + 1)) (L ++ [(j : Int)]) else []
def updS (s : Int × List Int) (q : Nat × List Int) : Int × List Int := if (q.1 : Int) ≥ s.1 then s else ((q.1 : Int), q.2)
structure Lk (hs : List Sn) (T : List Nat) (L : List Int) : Prop where
 ok : SrcOk L.length T
 val : ∀ a, a < L.length → ∃ j : Nat, j < T.length ∧ L.getD a 0 = (j : Int)
 bit : ∀ j, j < T.length → ∀ a, (T.getD j 0).testBit a = true ↔ a < L.length ∧ L.getD a 0 = (j : Int)
 can : ∀ a b, a < b → b < L.length → L.getD a 0 = L.getD b 0 → pairH hs a b = true
theorem Lk.nil (hs : List Sn) : Lk hs [] [] := ⟨⟨Nat.le_refl _, fun x h => absurd h (by simp)⟩, fun a h => absurd h (Nat.not_lt_zero _), fun j h => absurd h (Nat.not_lt_zero _), fun a b _ h => absurd h (Nat.not_lt_zero _)⟩
theorem getD_app_lt {α : Type} {l : List α} {x d : α} {i : Nat} (h : i < l.length) : (l ++ [x]).getD i d = l.getD i d := by
 rw [getD_at (by simp; omega), getD_at h, List.getElem_append_left h]
theorem getD_app_at {α : Type} {l : List α} {x d : α} : (l ++ [x]).getD l.length d = x := by
 rw [getD_at (by simp)]; simp
theorem getD_app {α : Type} {l : List α} {x d : α} {i : Nat} (h : i < l.length + 1) : (i < l.length ∧ (l ++ [x]).getD i d = l.getD i d) ∨ i = l.length ∧ (l ++ [x]).getD i d = x := by
 rcases Nat.lt_or_eq_of_le (Nat.le_of_lt_succ h) with h | rfl
 · exact .inl ⟨h, getD_app_lt h⟩
 exact .inr ⟨rfl, getD_app_at⟩
theorem Lk.joinBit {hs : List Sn} {T : List Nat} {L : List Int} (h : Lk hs T L) {j : Nat} (hj : j ≤ T.length) (a : Nat) : ((sjoin T j (2 ^ L.length)).getD j 0).testBit a = true ↔ (a < L.length ∧ L.getD a 0 = (j : Int)) ∨ a = L.length := by
 rcases Nat.lt_or_eq_of_le hj with hlt | rfl
 · rw [sjoin_lt hlt, getD_at (by simpa using hlt), List.getElem_set_self, Nat.testBit_or, Nat.testBit_two_pow, Bool.or_eq_true, ← getD_at (d := 0) hlt, h.bit j hlt a, decide_eq_true_eq]
   exact ⟨fun h => h.imp id Eq.symm, fun h => h.imp id Eq.symm⟩
 rw [sjoin_ge, getD_app_at, Nat.testBit_two_pow, decide_eq_true_eq]
 constructor
 · exact fun h => .inr h.symm
 rintro (⟨h1, h2⟩ | h1)
 · obtain ⟨q, hq, h3⟩ := h.val a h1
   omega
 exact h1.symm
theorem Lk.okJ {hs : List Sn} {L : List Int} {j : Nat} : okJ hs L j = true ↔ ∀ a, a < L.length → L.getD a 0 = (j : Int) → pairH hs a L.length = true := by
 unfold Go.Ab.MkF.okJ
 rw [List.all_eq_true]
 constructor
 · intro h a ha he
   have := h a (List.mem_range.2 ha)
   rw [he] at this
   simpa using this
 intro h a ha
 have ha := List.mem_range.1 ha
 by_cases he : L.getD a 0 = (j : Int)
 · rw [h a ha he]; simp
 rw [show (L.getD a 0 == (j : Int)) = false from by simpa using he]; rfl
theorem Lk.join {hs : List Sn} {T : List Nat} {L : List Int} (h : Lk hs T L) {j : Nat} (hj : j ≤ T.length) (ho : Go.Ab.MkF.okJ hs L j = true) : Lk hs (sjoin T j (2 ^ L.length)) (L ++ [(j : Int)]) := by
 have hlen : (L ++ [(j : Int)]).length = L.length + 1 := by simp
 have hT : (sjoin T j (2 ^ L.length)).length = max T.length (j + 1) := by
  rcases Nat.lt_or_eq_of_le hj with hlt | rfl
  · rw [sjoin_lt hlt, List.length_set]; omega
  rw [sjoin_ge, List.length_append]; simp
 refine ⟨by rw [hlen]; exact h.ok.join hj, fun a ha => ?_, fun q hq a => ?_, fun a b hab hb he => ?_⟩
 · rw [hT]
   rw [hlen] at ha
   rcases getD_app (x := (j : Int)) (d := 0) ha with ⟨h1, h2⟩ | ⟨_, h2⟩
   · obtain ⟨q, hq, h3⟩ := h.val a h1
     exact ⟨q, by omega, by rw [h2, h3]⟩
   exact ⟨j, by omega, h2⟩
 · rw [hlen]
   by_cases hjq : q = j
   · subst hjq
     rw [h.joinBit hj a]
     constructor
     · rintro (⟨h1, h2⟩ | rfl)
       · exact ⟨by omega, by rw [getD_app_lt h1]; exact h2⟩
       exact ⟨by omega, getD_app_at⟩
     rintro ⟨h1, h2⟩
     rcases getD_app (x := (q : Int)) (d := 0) h1 with ⟨h3, h4⟩ | ⟨h3, _⟩
     · exact .inl ⟨h3, by rw [← h4]; exact h2⟩
     exact .inr h3
   rw [hT] at hq
   have hql : q < T.length := by omega
   have hg : (sjoin T j (2 ^ L.length)).getD q 0 = T.getD q 0 := by
    rcases Nat.lt_or_eq_of_le hj with hlt | rfl
    · rw [sjoin_lt hlt, getD_at (by simpa using hql), List.getElem_set_ne (Ne.symm hjq), getD_at hql]
    rw [sjoin_ge, getD_app_lt hql]
   rw [hg, h.bit q hql a]
   constructor
   · rintro ⟨h1, h2⟩
     exact ⟨by omega, by rw [getD_app_lt h1]; exact h2⟩
   rintro ⟨h1, h2⟩
   rcases getD_app (x := (j : Int)) (d := 0) h1 with ⟨h3, h4⟩ | ⟨_, h4⟩
   · exact ⟨h3, by rw [← h4]; exact h2⟩
   rw [h4] at h2; omega
 rw [hlen] at hb
 rw [getD_app_lt (by omega)] at he
 rcases getD_app (x := (j : Int)) (d := 0) hb with ⟨h3, h4⟩ | ⟨h3, h4⟩
 · exact h.can a b hab h3 (by rw [← h4]; exact he)
 subst h3
 exact Lk.okJ.1 ho a hab (by rw [he, h4])
abbrev cols (hs : List Sn) : List (Nat × List Int) := allC hs hs.length 0 []
structure Col (hs : List Sn) (m : Nat) (f : Nat → Nat) : Prop where
 lt : ∀ a, a < hs.length → f a < m
 can : ∀ a b, a < b → b < hs.length → f a = f b → pairH hs a b = true
end Go.Ab.MkF
namespace Go.Ab.MkF
open Go Go.Ab Go.Ab.Pln
theorem bits_range {n c : Nat} (hc : c ≤ 64) (hn : n < 2 ^ c) {a : Nat} (h : a ∈ bitsL n) : a < c := by
 rw [bitsL_below hc hn] at h
 exact List.mem_range.1 (List.mem_filter.1 h).1
theorem has_bits {X c k : Nat} (hc : c ≤ 64) (hX : X < 2 ^ c) : ((natsV (bitsL X)).any fun x => x == (k : Int)) = X.testBit k := by
 rw [Bool.eq_iff_iff, ← bitsL_mem hc hX, List.any_eq_true]
 constructor
 · rintro ⟨x, hx, he⟩
   obtain ⟨a, ha, rfl⟩ := List.mem_map.1 hx
   have : a = k := by have := eq_of_beq he; omega
   exact this ▸ ha
 exact fun h => ⟨(k : Int), List.mem_map.2 ⟨k, h, rfl⟩, by simp⟩
theorem restU_test (n : Nat) (l : List Nat) (k : Nat) : ∀ i, i ≤ l.length → (restU n (natsV l) i).testBit k = (decide (k < n) && !(l.take i).contains k)
 | 0, _ => by
  show (2 ^ n - 1).testBit k = _
  rw [Nat.testBit_two_pow_sub_one]; simp
 | i + 1, h => by
  rw [restU_succ (by rw [List.length_map]; omega), less_test, restU_test n l k i (by omega), take_succ' (by omega : i < l.length)]
  simp only [List.getElem_map, Int.toNat_natCast, Nat.testBit_two_pow]
  rw [Bool.eq_iff_iff]
  simp only [Bool.and_eq_true, Bool.not_eq_true', decide_eq_true_eq, decide_eq_false_iff_not, List.contains_eq_mem, List.mem_append, List.mem_singleton, not_or]
  constructor
  · rintro ⟨⟨h1, h2⟩, h3⟩; exact ⟨h1, h2, fun e => h3 e.symm⟩
  rintro ⟨h1, h2, h3⟩; exact ⟨⟨h1, h2⟩, fun e => h3 e.symm⟩
theorem restN_set {hs : List Sn} (h8 : hs.length ≤ 8) {X : Nat} (hX : X < 2 ^ hs.length) : restN hs (natsV (bitsL X)) = less (2 ^ hs.length - 1) X := by
 apply Nat.eq_of_testBit_eq
 intro k
 unfold restN
 rw [List.length_map, restU_test _ _ _ _ (Nat.le_refl _), List.take_length, rest_test]
 congr 2
 rw [Bool.eq_iff_iff, List.contains_iff_mem, bitsL_mem (c := hs.length) (by omega) hX]
theorem asc_set {X c : Nat} (hc : c ≤ 64) (hX : X < 2 ^ c) : ascAll (natsV (bitsL X)) = true := by
 unfold ascAll
 rw [List.all_eq_true]
 intro i hi
 have hi := List.mem_range.1 hi
 rw [List.length_map] at hi
 unfold ascB
 cases i with
 | zero => rfl
 | succ i =>
  have h := List.pairwise_iff_getElem.1 (bits_asc hc hX) i (i + 1) (by omega) hi (by omega)
  rw [getD_at (by simpa using hi), Nat.add_sub_cancel, getD_at (by simp; omega), List.getElem_map, List.getElem_map]
  simp
  omega
theorem restE_set {hs : List Sn} (hV : ValidH hs) {X : Nat} (hX : X < 2 ^ hs.length) : restE hs (natsV (bitsL X)) = 0 := by
 have h8 := hV.n8
 unfold restE
 rw [if_pos (chH_valid.2 hV), asc_set (c := hs.length) (by omega) hX]
 rw [if_neg, if_pos rfl]
 rw [Bool.not_eq_true, List.any_eq_false]
 intro x hx
 obtain ⟨a, ha, rfl⟩ := List.mem_map.1 hx
 have := bits_range (c := hs.length) (by omega) hX ha
 unfold outB
 simp
 omega
theorem proV_set {hs : List Sn} (hV : ValidH hs) {X : Nat} (hX : X < 2 ^ hs.length) : proV hs (natsV (bitsL X)) = match clR hs (less (2 ^ hs.length - 1) X) with
  | some (a, b) => ((a : Int), (b : Int), 0)
  | none => (0, 0, 8) := by
 unfold proV
 rw [if_pos (restE_set hV hX), restN_set hV.n8 hX]
 cases clR hs (less (2 ^ hs.length - 1) X) <;> rfl
theorem acc_set {hs : List Sn} (hV : ValidH hs) {X : Nat} (hX : X < 2 ^ hs.length) : ((proV hs (natsV (bitsL X))).2.2 == 8) = accB hs X := by
 rw [proV_set hV hX]
 unfold accB
 cases clR hs (less (2 ^ hs.length - 1) X) with
 | none => rfl
 | some p => rfl
theorem allU_test {n : Nat} {l : List Nat} {k : Nat} : ∀ i, i ≤ l.length → ((allU n l i).testBit k = true ↔ k < n ∧ ∀ x ∈ l.take i, x.testBit k = true)
 | 0, _ => by
  show (2 ^ n - 1).testBit k = true ↔ _
  rw [Nat.testBit_two_pow_sub_one]; simp
 | i + 1, h => by
  rw [allU_succ (by omega), Nat.testBit_and, Bool.and_eq_true, allU_test i (by omega), take_succ' (by omega : i < l.length)]
  constructor
  · rintro ⟨⟨h1, h2⟩, h3⟩
    refine ⟨h1, fun x hx => ?_⟩
    rcases List.mem_append.1 hx with hx | hx
    · exact h2 x hx
    rw [List.mem_singleton] at hx; subst hx; exact h3
  rintro ⟨h1, h2⟩
  exact ⟨⟨h1, fun x hx => h2 x (List.mem_append_left _ hx)⟩, h2 _ (List.mem_append_right _ (List.mem_singleton.2 rfl))⟩
theorem someU_test {l : List Nat} {k : Nat} : ∀ i, i ≤ l.length → ((someU l i).testBit k = true ↔ ∃ x ∈ l.take i, x.testBit k = true)
 | 0, _ => by
  show (0 : Nat).testBit k = true ↔ _
  simp
 | i + 1, h => by
  rw [someU_succ (by omega), Nat.testBit_or, Bool.or_eq_true, someU_test i (by omega), take_succ' (by omega : i < l.length)]
  constructor
  · rintro (⟨x, hx, h1⟩ | h1)
    · exact ⟨x, List.mem_append_left _ hx, h1⟩
    exact ⟨_, List.mem_append_right _ (List.mem_singleton.2 rfl), h1⟩
  rintro ⟨x, hx, h1⟩
  rcases List.mem_append.1 hx with hx | hx
  · exact .inl ⟨x, hx, h1⟩
  rw [List.mem_singleton] at hx; subst hx; exact .inr h1
abbrev mustH (hs : List Sn) : Nat := allU hs.length (setsH hs) (setsH hs).length
abbrev mayH (hs : List Sn) : Nat := someU (setsH hs) (setsH hs).length
theorem mustH_lt (hs : List Sn) : mustH hs < 2 ^ hs.length := allU_lt _ _ (Nat.le_refl _)
theorem mayH_lt (hs : List Sn) : mayH hs < 2 ^ hs.length := someU_lt (fun x hx => fewH_lt hs _ x hx) _ (Nat.le_refl _)
theorem must_in {hs : List Sn} {X k : Nat} (hX : X ∈ setsH hs) (h : (mustH hs).testBit k = true) : X.testBit k = true :=
 ((allU_test _ (Nat.le_refl _)).1 h).2 X (by rw [List.take_length]; exact hX)
theorem in_may {hs : List Sn} {X k : Nat} (hX : X ∈ setsH hs) (h : X.testBit k = true) : (mayH hs).testBit k = true :=
 (someU_test _ (Nat.le_refl _)).2 ⟨X, by rw [List.take_length]; exact hX, h⟩
theorem forN_lt {hs : List Sn} (h8 : hs.length ≤ 8) : forN hs < 2 ^ hs.length := ((mem_sets h8).1 (forN_mem h8)).1
theorem in_sets {hs : List Sn} (h8 : hs.length ≤ 8) {X : Nat} (hX : X < 2 ^ hs.length) (ha : accB hs X = true) (hl : (bitsL X).length = (bitsL (forN hs)).length) : X ∈ setsH hs := by
 have hp := p256 h8
 have hF := (mem_sets h8).1 (forN_mem h8)
 rw [bits_ones (by omega), bits_ones (by omega), hF.2.2] at hl
 exact (mem_sets h8).2 ⟨hX, (accB_iff h8).1 ha, hl⟩
theorem few_len' {hs : List Sn} (h8 : hs.length ≤ 8) {X : Nat} (hX : X < 2 ^ hs.length) (ha : accB hs X = true) : (bitsL (forN hs)).length ≤ (bitsL X).length := by
 have hp := p256 h8
 have hF := (mem_sets h8).1 (forN_mem h8)
 rw [bits_ones (by omega), bits_ones (by omega), hF.2.2]
 exact least_le h8 hX ((accB_iff h8).1 ha)
theorem forN_acc {hs : List Sn} (h8 : hs.length ≤ 8) : accB hs (forN hs) = true := (accB_iff h8).2 ((mem_sets h8).1 (forN_mem h8)).2.1
theorem forN_short {hs : List Sn} (h1 : 1 ≤ hs.length) (h8 : hs.length ≤ 8) : (bitsL (forN hs)).length < hs.length := by
 have hp := p256 h8
 have hF := (mem_sets h8).1 (forN_mem h8)
 rw [bits_ones (by omega), hF.2.2]
 exact least_lt h1 h8
def someL (b n : Nat) : List Nat := (List.range n).filter b.testBit
theorem someL_bits (b n : Nat) (hn : n ≤ 64) : someL b n = bitsL (b % 2 ^ n) := by
 rw [bitsL_below hn (Nat.mod_lt _ (Nat.two_pow_pos n))]
 unfold someL
 apply List.filter_congr
 intro k hk
 rw [Nat.testBit_mod_two_pow, decide_eq_true (List.mem_range.1 hk), Bool.true_and]
end Go.Ab.MkF
namespace Go.Ab.MkF
open Go Go.Ab Go.Ab.Pln
theorem pairX_iff {x y : Sn} : pairX x y = true ↔ (x.1 = y.1 ∨ x.1 * y.1 = 0) ∧ x.2.1 ≤ y.2.2 ∧ y.2.1 ≤ x.2.2 := by
 unfold pairX
 simp [and_assoc]
structure Blur (x y : Sn) : Prop where
 kind : y.1 = x.1 ∨ y.1 = 0
 lo : y.2.1 ≤ x.2.1
 hi : x.2.2 ≤ y.2.2
theorem Blur.pair {x y z : Sn} (h : Blur x y) (hp : pairX x z = true) : pairX y z = true := by
 rw [pairX_iff] at hp ⊢
 obtain ⟨h1, h2, h3⟩ := hp
 have := h.lo
 have := h.hi
 refine ⟨?_, by omega, by omega⟩
 rcases h.kind with e | e
 · rw [e]; exact h1
 rw [e]; simp
def blurV (x : Sn) (a b : Int) : Sn := (if a > b then 0 else x.1, max 1 (x.2.1 - a), min 600 (x.2.2 + b))
end Go.Ab.MkF
namespace Go.Ab.MkF
open Go Go.Ab Go.Ab.Pln Go.Proofs
set_option maxHeartbeats 1000000
set_option maxRecDepth 100000
noncomputable abbrev parH (gl : Gl) : Par S Unit := { par gl with hd := true }
theorem parH_ok (gl : Gl) (En : Env Unit) : ParOk PR gl (parH gl) En := { par_ok gl En with }
theorem join {p q : Prop} (h : Hold p → q) (hp : p) : q := h ⟨hp⟩
def inB (n a b : Int) : Bool := decide (a ≤ n) && decide (n ≤ b)
theorem inB_out (n a b : Int) : inB n a b = !outB a b n := by
 unfold inB outB
 rw [Bool.eq_iff_iff]
 simp [Int.not_lt]
def rgE (a b lo hi : Int) : Int := if (decide (min a b < lo) || decide (max a b > hi)) = true then 7 else if b < a then 2 else 0
theorem sn_eq (x : Sn) : snE x = if inB x.1 0 2 = true then rgE x.2.1 x.2.2 1 600 else 7 := by
 unfold snE rgE
 rw [inB_out]
 have h2 : [x.2.1, x.2.2].any (outB 1 600) = (decide (min x.2.1 x.2.2 < 1) || decide (max x.2.1 x.2.2 > 600)) := by
  rw [Bool.eq_iff_iff]
  simp [outB]
  omega
 have h1 : [x.1].any (outB 0 2) = outB 0 2 x.1 := by simp
 rw [h1, h2]
 cases outB 0 2 x.1 <;> simp
theorem c72 (gl : Gl) (n a b : Int) : PCalls PR gl 72 [vI n, vI a, vI b] fun r => r = vB (inB n a b) := by
 refine fnW_sound (par_ok gl) Tryd.func72 ?_
 conv => whnf
 refine bcase_iff.2 ⟨fun g1_3 => ?_, fun g1_3 => ?_⟩
 · have g : decide (a ≤ n) = true := g1_3
   conv => whnf
   unfold inB
   rw [g]
   rfl
 have g : decide (a ≤ n) = false := g1_3
 conv => whnf
 unfold inB
 rw [g]
 rfl
theorem op72 : Opens PR 72 := ⟨_, Tryd.func72, rfl, rfl⟩
theorem c101 (gl : Gl) (a b lo hi : Int) : PCalls PR gl 101 [.agg [vI a, vI b], vI lo, vI hi] fun r => r = vI (rgE a b lo hi) := by
 refine fnW_sound (par_ok gl) Tryd.func101 ?_
 conv => whnf
 refine bcase_iff.2 ⟨fun g1_7 => ?_, fun g1_7 => ?_⟩
 · rw [← min_lt] at g1_7
   have g : decide (min a b < lo) = true := g1_7
   conv => whnf
   unfold rgE
   rw [g, if_pos (by rfl)]
 rw [← min_lt] at g1_7
 have g : decide (min a b < lo) = false := g1_7
 conv => whnf
 refine bcase_iff.2 ⟨fun h1 => ?_, fun h1 => ?_⟩
 · rw [← max_gt] at h1
   have h1 : decide (max a b > hi) = true := h1
   conv => whnf
   unfold rgE
   rw [g, h1, if_pos (by rfl)]
 rw [← max_gt] at h1
 have h1 : decide (max a b > hi) = false := h1
 conv => whnf
 refine bcase_iff.2 ⟨fun h3 => ?_, fun h3 => ?_⟩
 · have h3 : b < a := of_decide_eq_true h3
   conv => whnf
   unfold rgE
   rw [g, h1, if_neg (by simp), if_pos h3]
 have h3 : ¬ b < a := of_decide_eq_false h3
 conv => whnf
 unfold rgE
 rw [g, h1, if_neg (by simp), if_neg h3]
theorem op101 : Opens PR 101 := ⟨_, Tryd.func101, rfl, rfl⟩
theorem c32 (gl : Gl) (hs : List Sn) (hl : hs.length ≤ 9223372036854775807) : PCalls PR gl 32 [.agg [snsV hs]] fun r => r = .tup [vI (chH hs).1, vI (chH hs).2] := by
 refine fnW_sound (par_ok gl) Tryd.func32 ?_
 conv => whnf
 refine byC (c72 gl _ _ _) op72 ?_
 conv => whnf
 refine bcase_iff.2 ⟨fun h1 => ?_, fun h1 => ?_⟩
 · have h1 : [(hs.length : Int)].any (outB 1 8) = true := by have h1 : (!inB (hs.length : Int) 1 8) = true := h1; rw [inB_out] at h1; simpa using h1
   conv => whnf
   unfold chH
   rw [if_pos h1]
 have h1 : [(hs.length : Int)].any (outB 1 8) = false := by have h1 : (!inB (hs.length : Int) 1 8) = false := h1; rw [inB_out] at h1; simpa using h1
 conv => whnf
 refine ⟨⟨18, [], []⟩, ?_⟩
 refine LoopW_ind _ (fun i : Nat => (({ tmps := [.undef, .own 1 [], .undef, .undef, vI i, .undef, .undef, .undef, .undef, .undef, .undef, .undef, .undef, .undef, .undef, .undef, .undef, .undef, .undef, .undef, .undef, .undef, .undef, .undef, .undef, .undef, .undef, .undef, .undef, .undef, .undef, .undef, .undef, .undef, .undef], seg := [(1, .cells [snsV hs])], up := [] } : St S))) (fun i : Nat => (i ≤ hs.length ∧ ∀ j, j < i → snF hs j = 0)) (fun i : Nat => (hs.length - i)) () ?_ 0 ⟨Nat.zero_le _, fun j h => absurd h (Nat.not_lt_zero j)⟩
 intro i hinv Z1 hZ1
 obtain ⟨hi, hd⟩ := hinv
 conv => whnf
 refine bcase_iff.2 ⟨fun h4 => ?_, fun h4 => ?_⟩
 · have hlt : i < hs.length := by have := of_decide_eq_true h4; omega
   have hw : IntKind.i64.wrap ((i : Int) + 1) = ((i + 1 : Nat) : Int) := wrap_nat (by omega)
   conv => whnf
   have hsn : snF hs i = if inB hs[i].1 0 2 = true then rgE hs[i].2.1 hs[i].2.2 1 600 else 7 := by unfold snF; rw [getD_at hlt, sn_eq]
   refine ⟨_, getI_nat hlt, ?_⟩
   conv => whnf
   refine byC (c101 gl _ _ _ _) op101 ?_
   conv => whnf
   refine byC (c72 gl _ _ _) op72 ?_
   conv => whnf
   refine bcase_iff.2 ⟨fun h8 => ?_, fun h8 => ?_⟩
   · have h8 : inB hs[i].1 0 2 = false := by have h8 : (!inB hs[i].1 0 2) = true := h8; simpa using h8
     rw [h8, if_neg (by simp)] at hsn
     conv => whnf
     unfold chH
     rw [h1, if_neg (by simp), firstR_at hlt hd (by rw [hsn]; decide), hsn]
   have h8 : inB hs[i].1 0 2 = true := by have h8 : (!inB hs[i].1 0 2) = false := h8; simpa using h8
   rw [h8, if_pos rfl] at hsn
   conv => whnf
   refine bcase_iff.2 ⟨fun h10 => ?_, fun h10 => ?_⟩
   · have h10 : snF hs i ≠ 0 := by rw [hsn]; have h10 : (rgE hs[i].2.1 hs[i].2.2 1 600 != 0) = true := h10; simpa using h10
     conv => whnf
     unfold chH
     rw [h1, if_neg (by simp), firstR_at hlt hd h10, hsn]
   have h10 : snF hs i = 0 := by rw [hsn]; have h10 : (rgE hs[i].2.1 hs[i].2.2 1 600 != 0) = false := h10; simpa using h10
   conv => whnf
   refine ⟨⟨18, [5, 1005, 2005, 3005, 4005], []⟩, ?_⟩
   conv => whnf
   rw [hw]
   exact hZ1 (i + 1) ⟨hlt, up_succ hd h10⟩ (by omega)
 have hge : i = hs.length := by have := of_decide_eq_false h4; omega
 conv => whnf
 subst hge
 unfold chH
 rw [h1, if_neg (by simp), firstR_no hd]
theorem op32 : Opens PR 32 := ⟨_, Tryd.func32, rfl, rfl⟩
theorem c57 (gl : Gl) (hs : List Sn) (hl : hs.length ≤ 9223372036854775807) : PCalls PR gl 57 [.agg [snsV hs]] fun r => r = vB (chHE hs == 0) := by
 refine fnW_sound (par_ok gl) Tryd.func57 ?_
 conv => whnf
 refine byC (c32 gl hs hl) op32 ?_
 conv => whnf
theorem op57 : Opens PR 57 := ⟨_, Tryd.func57, rfl, rfl⟩
end Go.Ab.MkF
namespace Go.Ab.MkF
open Go Go.Ab Go.Ab.Pln Go.Proofs
set_option maxHeartbeats 1000000
set_option maxRecDepth 100000
theorem remB {b i : Nat} (hb : b ≤ 255) (hi : i < 64) : (Int.tmod (shrI .i64 (IntKind.i64.wrap (b : Int)) (i : Int)) 2 == 1) = b.testBit i := by
 rw [show IntKind.i64.wrap (b : Int) = b from wrap_int (by omega) (by omega), shr_nat hi, show Int.tmod ((b / 2 ^ i : Nat) : Int) 2 = ((b / 2 ^ i % 2 : Nat) : Int) from rfl, Nat.testBit_eq_decide_div_mod_eq]
 generalize b / 2 ^ i % 2 = q
 by_cases h : q = 1
 · subst h; rfl
 rw [decide_eq_false h]
 simp
 omega
structure SetL (n X : Nat) (L : List Int) : Prop where
 lt : X < 2 ^ n
 n8 : n ≤ 8
 eq : L = natsV (bitsL X)
theorem SetL.len {n X : Nat} {L : List Int} (h : SetL n X L) : L.length = (bitsL X).length := by rw [h.eq, List.length_map]
theorem SetL.len8 {n X : Nat} {L : List Int} (h : SetL n X L) : L.length ≤ 8 := by
 have hp := p256 h.n8
 rw [h.len, bits_ones (by have := h.lt; omega)]
 exact onesN_le _
theorem SetL.get {n X i : Nat} {L : List Int} (h : SetL n X L) (hi : i < L.length) : ∃ k : Nat, getI L (i : Int) = some (k : Int) ∧ X.testBit k = true ∧ k < n := by
 obtain ⟨h1, h2, rfl⟩ := h
 rw [List.length_map] at hi
 have hm := List.getElem_mem hi
 exact ⟨(bitsL X)[i], getI_nats hi, (bitsL_mem (by omega) h1).1 hm, bits_range (by omega) h1 hm⟩
theorem SetL.has {n X : Nat} {L : List Int} (h : SetL n X L) (k : Nat) : (L.any fun x => x == (k : Int)) = X.testBit k := by rw [h.eq]; exact has_bits (c := n) (by have := h.n8; omega) h.lt
theorem c60s (gl : Gl) {n X : Nat} {L : List Int} (h : SetL n X L) (k : Nat) : PCalls PR gl 60 [vL L, vI k] fun r => r = vB (X.testBit k) := to (c60 gl L (by have := h.len8; omega) k) (by rw [h.has])
theorem c58 (gl : Gl) (b n : Nat) (hb : b ≤ 255) (hn : n ≤ 8) : PCalls PR gl 58 [.int .u8 b, vI n] fun r => r = vL (natsV (someL b n)) := by
 refine fnW_sound (par_ok gl) Tryd.func58 ?_
 conv => whnf
 refine ⟨⟨99, [4], [4, 5]⟩, ?_⟩
 refine LoopW_ind _ (fun i : Nat => (({ tmps := [.int .u8 b, vI n, .undef, .undef, .undef, .sl (S := S) U.int (natsV (someL b i)) (some 5), vI i, .undef, .undef, .undef, .undef, .undef, .undef, .undef, .undef, .undef, .undef, .undef, .undef, .undef, .undef, .undef, .undef], seg := [(5, .row U.int false)], up := [] } : St S))) (fun i : Nat => (i ≤ n)) (fun i : Nat => (n - i)) () ?_ 0 (Nat.zero_le _)
 intro i hi Z1 hZ1
 conv => whnf
 refine bcase_iff.2 ⟨fun h3 => ?_, fun h3 => ?_⟩
 · have hlt : i < n := by have := of_decide_eq_true h3; omega
   have hw : IntKind.i64.wrap ((i : Int) + 1) = ((i + 1 : Nat) : Int) := wrap_nat (by omega)
   conv => whnf
   refine ⟨by omega, ?_⟩
   conv => whnf
   refine ⟨by decide, ?_⟩
   conv => whnf
   refine bcase_iff.2 ⟨fun h5 => ?_, fun h5 => ?_⟩
   · have h5 : b.testBit i = true := by rw [← remB (b := b) (i := i) hb (by omega)]; exact h5
     conv => whnf
     refine ⟨_, rfl, ?_⟩
     conv => whnf
     refine ⟨lim (by have := nf_len b.testBit i; unfold someL; simp at this ⊢; omega), ?_⟩
     conv => whnf
     refine ⟨⟨99, [20, 21], []⟩, ?_⟩
     conv => whnf
     rw [hw]
     have hz := hZ1 (i + 1) hlt (by omega)
     rw [show natsV (someL b (i + 1)) = natsV (someL b i) ++ [(i : Int)] from nf_T h5] at hz
     exact hz
   have h5 : b.testBit i = false := by rw [← remB (b := b) (i := i) hb (by omega)]; exact h5
   conv => whnf
   refine ⟨⟨99, [20, 21], []⟩, ?_⟩
   conv => whnf
   rw [hw, show someL b i = someL b (i + 1) from by unfold someL; rw [List.range_succ, List.filter_append]; simp [h5]]
   exact hZ1 (i + 1) hlt (by omega)
 have hge : i = n := by have := of_decide_eq_false h3; omega
 conv => whnf
 rw [hge]
theorem op58 : Opens PR 58 := ⟨_, Tryd.func58, rfl, rfl⟩
theorem c59 (hs : List Sn) (told : List Int) (hl : hs.length ≤ 9223372036854775807) (ht : told.length ≤ 9223372036854775807) : PCalls PR glT 59 [.agg [snsV hs], vL told] fun r => r = vB ((proV hs told).2.2 == 8) := by
 refine fnW_sound (par_ok glT) Tryd.func59 ?_
 conv => whnf
 refine byC (c39 hs told hl ht) op39 ?_
 conv => whnf
theorem op59 : Opens PR 59 := ⟨_, Tryd.func59, rfl, rfl⟩
theorem c59s {hs : List Sn} (hV : ValidH hs) {X : Nat} {L : List Int} (h : SetL hs.length X L) : PCalls PR glT 59 [.agg [snsV hs], vL L] fun r => r = vB (accB hs X) :=
 to (c59 hs L (by have := hV.n8; omega) (by have := h.len8; omega)) (by rw [h.eq, acc_set hV h.lt])
theorem some_all {n b : Nat} (hn : n ≤ 8) (hb : b ≤ 255) : ∃ L, SetL n (b % 2 ^ n) L ∧ PCalls PR glT 58 [.int .u8 b, vI n] fun r => r = vL L :=
 ⟨natsV (someL b n), ⟨Nat.mod_lt _ (Nat.two_pow_pos n), hn, by rw [someL_bits b n (by omega)]⟩, c58 glT b n hb hn⟩
end Go.Ab.MkF
namespace Go.Ab.MkF
open Go Go.Ab Go.Ab.Pln Go.Proofs
set_option maxHeartbeats 1000000
set_option maxRecDepth 100000
theorem few_all {hs : List Sn} (hV : ValidH hs) : ∃ (F M A : Nat) (LF LM LA : List Int), SetL hs.length F LF ∧ SetL hs.length M LM ∧ SetL hs.length A LA ∧ (PCalls PR glT 33 [.agg [snsV hs]] fun r => r = .tup [vL LF, vI 0]) ∧ (PCalls PR glT 35 [.agg [snsV hs]] fun r => r = .tup [vL LM, vL LA, vI 0]) ∧
  accB hs F = true ∧ LF.length < hs.length ∧ ∀ X L, SetL hs.length X L → accB hs X = true → LF.length ≤ L.length ∧ (L.length = LF.length → ∀ k, (M.testBit k = true → X.testBit k = true) ∧ (X.testBit k = true → A.testBit k = true)) := by
 have h8 := hV.n8
 have hk := chH_valid.2 hV
 have hF : SetL hs.length (forN hs) (natsV (bitsL (forN hs))) := ⟨forN_lt h8, h8, rfl⟩
 refine ⟨forN hs, mustH hs, mayH hs, _, _, _, hF, ⟨mustH_lt hs, h8, rfl⟩, ⟨mayH_lt hs, h8, rfl⟩, to (c33 hs (by omega)) (by unfold forV; rw [if_pos hk]), to (c35 hs (by omega)) (by unfold sureV; rw [if_pos hk]), forN_acc h8, by rw [hF.len]; exact forN_short hV.n1 h8, fun X L h ha => ?_⟩
 rw [h.len, hF.len]
 exact ⟨few_len' h8 h.lt ha, fun he k => ⟨must_in (in_sets h8 h.lt ha he), in_may (in_sets h8 h.lt ha he)⟩⟩
theorem c10 (hs : List Sn) (hl : hs.length ≤ 9223372036854775807) (B : Int) (hB : 0 ≤ B ∧ B ≤ 255) : PCalls PR glT 10 [.agg [snsV hs], .int .u8 B] fun r => r = vB true := by
 obtain ⟨b, rfl⟩ : ∃ n : Nat, B = (n : Int) := ⟨B.toNat, by omega⟩
 have hb : b ≤ 255 := by omega
 refine fnW_sound (parH_ok glT) Tryd.func10 ?_
 conv => whnf
 refine ⟨?_⟩
 conv => whnf
 refine ⟨?_⟩
 conv => whnf
 rcases Classical.em (chHE hs = 0) with hk | hk
 · have hV := chH_valid.1 hk
   have h8 := hV.n8
   obtain ⟨F, M, A, LF, LM, LA, hF, hM, hA, h33, h35, hac, hsh, hX⟩ := few_all hV
   have h57 : PCalls PR glT 57 [.agg [snsV hs]] fun r => r = vB true := to (c57 glT hs hl) (by rw [hk]; rfl)
   obtain ⟨LO, hO, h58⟩ := some_all (n := hs.length) h8 hb
   have hFF := (hX F LF hF hac).2 rfl
   have hF8 := hF.len8
   have hM8 := hM.len8
   have hO8 := hO.len8
   refine byC h33 op33 ?_
   conv => whnf
   refine ⟨?_⟩
   conv => whnf
   refine byC h35 op35 ?_
   conv => whnf
   refine ⟨?_⟩
   conv => whnf
   refine byC h57 op57 ?_
   conv => whnf
   refine ⟨?_⟩
   conv => whnf
   have hno : LO.length < LF.length → accB hs (b % 2 ^ hs.length) = false := fun g => by
    cases h : accB hs (b % 2 ^ hs.length) with
    | false => rfl
    | true => exact absurd (hX _ _ hO h).1 (by omega)
   refine byC h58 op58 ?_
   conv => whnf
   apply join
   · intro hJ9
     conv => whnf
     refine ⟨?_⟩
     conv => whnf
     refine byC (to (c59s hV hF) (by rw [hac])) op59 ?_
     conv => whnf
     refine bcase_iff.2 ⟨fun g6_18 => ?_, fun g6_18 => ?_⟩
     · have g : (LO.length : Int) < (LF.length : Int) := of_decide_eq_true g6_18
       have hno := hno (Int.ofNat_lt.1 g)
       conv => whnf
       refine byC (to (c59s hV hO) (by rw [hno])) op59 ?_
       conv => whnf
       refine ⟨?_⟩
       conv => whnf
       refine ⟨⟨3492, [], []⟩, ?_⟩
       conv => whnf
       exact hJ9.go
     conv => whnf
     refine ⟨?_⟩
     conv => whnf
     refine ⟨⟨3492, [], []⟩, ?_⟩
     conv => whnf
     exact hJ9.go
   refine LoopW_ind _ (fun i : Nat => (({ tmps := [.undef, .undef, .own 2 [], .undef, .undef, vL LF, .undef, vL LM, vL LA, .undef, vL LO, vI i, .undef, .undef, .undef, .undef, .undef, .undef, .undef, .undef, .undef, .undef, .undef, .undef, .undef, .undef, .undef, .undef, .undef, .undef, .undef, .undef, .undef, .undef, .undef, .undef, .undef, .undef, .undef, .undef, .undef, .undef, .undef, .undef, .undef, .undef, .undef, .undef, .undef, .undef, .undef, .undef, .undef, .undef, .undef, .undef, .undef, .undef, .undef, .undef, .undef, .undef, .undef, .undef, .undef, .undef, .undef, .undef, .undef, .undef, .undef, .undef, .undef, .undef, .undef, .undef, .undef, .undef, .undef, .undef, .undef, .undef, .undef, .undef, .undef, .undef, .undef, .undef, .undef, .undef, .undef, .undef, .undef, .undef, .undef, .undef, .undef, .undef, .undef, .undef, .undef, .undef, .undef, .undef, .undef, .undef, .undef, .undef, .undef, .undef, .undef, .undef, .undef, .undef, .undef, .undef, .undef, .undef, .undef, .undef, .undef, .undef, .undef, .undef, .undef, .undef, .undef, .undef, .undef, .undef, .undef, .undef, .undef, .undef, .undef, .undef, .undef, .undef, .undef, .undef, .undef, .undef, .undef, .undef, .undef, .undef, .undef, .undef, .undef, .undef, .undef, .undef, .undef, .undef, .undef, .undef, .undef, .undef, .undef], seg := [(2, .cells [snsV hs])], up := [] } : St S))) (fun i : Nat => (i ≤ LM.length)) (fun i : Nat => (LM.length - i)) () ?_ 0 (Nat.zero_le _)
   intro i hi Z1 hZ1
   conv => whnf
   refine ⟨?_⟩
   conv => whnf
   refine bcase_iff.2 ⟨fun h9 => ?_, fun h9 => ?_⟩
   · have hlt : i < LM.length := by have := of_decide_eq_true h9; omega
     have hw : IntKind.i64.wrap ((i : Int) + 1) = ((i + 1 : Nat) : Int) := wrap_nat (by omega)
     conv => whnf
     refine ⟨?_⟩
     conv => whnf
     obtain ⟨k, hk2, hkb, _⟩ := hM.get hlt
     refine ⟨_, hk2, ?_⟩
     conv => whnf
     refine byC (to (c60s glT hF k) (by rw [(hFF k).1 hkb])) op60 ?_
     conv => whnf
     refine bcase_iff.2 ⟨fun g11_13 => ?_, fun g11_13 => ?_⟩
     · have hle : LO.length = LF.length := by have g : ((LO.length : Int) == (LF.length : Int)) = true := g11_13; exact Int.ofNat.inj (eq_of_beq g)
       conv => whnf
       rcases hq : accB hs (b % 2 ^ hs.length) with _ | _
       · refine byC (to (c59s hV hO) (by rw [hq])) op59 ?_
         conv => whnf
         refine ⟨?_⟩
         conv => whnf
         refine ⟨⟨3492, [], []⟩, ?_⟩
         conv => whnf
         rw [hw]
         exact hZ1 (i + 1) hlt (by omega)
       have hO2 := (hX _ _ hO hq).2 hle
       refine byC (to (c59s hV hO) (by rw [hq])) op59 ?_
       conv => whnf
       obtain ⟨k2, hk3, hkb2, _⟩ := hM.get hlt
       refine ⟨_, hk3, ?_⟩
       conv => whnf
       refine byC (to (c60s glT hO k2) (by rw [(hO2 k2).1 hkb2])) op60 ?_
       conv => whnf
       refine ⟨?_⟩
       conv => whnf
       refine ⟨⟨3492, [], []⟩, ?_⟩
       conv => whnf
       rw [hw]
       exact hZ1 (i + 1) hlt (by omega)
     conv => whnf
     refine ⟨?_⟩
     conv => whnf
     refine ⟨⟨3492, [], []⟩, ?_⟩
     conv => whnf
     rw [hw]
     exact hZ1 (i + 1) hlt (by omega)
   have hge : i = LM.length := by have := of_decide_eq_false h9; omega
   conv => whnf
   refine ⟨?_⟩
   conv => whnf
   refine ⟨⟨5412, [], []⟩, ?_⟩
   refine LoopW_ind _ (fun i : Nat => (({ tmps := [.undef, .undef, .own 2 [], .undef, .undef, vL LF, .undef, .undef, vL LA, .undef, vL LO, .undef, vI i, .undef, .undef, .undef, .undef, .undef, .undef, .undef, .undef, .undef, .undef, .undef, .undef, .undef, .undef, .undef, .undef, .undef, .undef, .undef, .undef, .undef, .undef, .undef, .undef, .undef, .undef, .undef, .undef, .undef, .undef, .undef, .undef, .undef, .undef, .undef, .undef, .undef, .undef, .undef, .undef, .undef, .undef, .undef, .undef, .undef, .undef, .undef, .undef, .undef, .undef, .undef, .undef, .undef, .undef, .undef, .undef, .undef, .undef, .undef, .undef, .undef, .undef, .undef, .undef, .undef, .undef, .undef, .undef, .undef, .undef, .undef, .undef, .undef, .undef, .undef, .undef, .undef, .undef, .undef, .undef, .undef, .undef, .undef, .undef, .undef, .undef, .undef, .undef, .undef, .undef, .undef, .undef, .undef, .undef, .undef, .undef, .undef, .undef, .undef, .undef, .undef, .undef, .undef, .undef, .undef, .undef, .undef, .undef, .undef, .undef, .undef, .undef, .undef, .undef, .undef, .undef, .undef, .undef, .undef, .undef, .undef, .undef, .undef, .undef, .undef, .undef, .undef, .undef, .undef, .undef, .undef, .undef, .undef, .undef, .undef, .undef, .undef, .undef, .undef, .undef, .undef, .undef, .undef, .undef, .undef, .undef], seg := [(2, .cells [snsV hs])], up := [] } : St S))) (fun i : Nat => (i ≤ LF.length)) (fun i : Nat => (LF.length - i)) () ?_ 0 (Nat.zero_le _)
   intro i hi Z2 hZ2
   conv => whnf
   refine ⟨?_⟩
   conv => whnf
   refine bcase_iff.2 ⟨fun h14 => ?_, fun h14 => ?_⟩
   · have hlt2 : i < LF.length := by have := of_decide_eq_true h14; omega
     have hw2 : IntKind.i64.wrap ((i : Int) + 1) = ((i + 1 : Nat) : Int) := wrap_nat (by omega)
     conv => whnf
     refine ⟨?_⟩
     conv => whnf
     obtain ⟨k, hk2, hkb, _⟩ := hF.get hlt2
     refine ⟨_, hk2, ?_⟩
     conv => whnf
     refine byC (to (c60s glT hA k) (by rw [(hFF k).2 hkb])) op60 ?_
     conv => whnf
     refine ⟨?_⟩
     conv => whnf
     refine ⟨⟨5412, [], []⟩, ?_⟩
     conv => whnf
     rw [hw2]
     exact hZ2 (i + 1) hlt2 (by omega)
   have hge2 : i = LF.length := by have := of_decide_eq_false h14; omega
   conv => whnf
   refine ⟨?_⟩
   conv => whnf
   refine ⟨⟨9508, [], []⟩, ?_⟩
   refine LoopW_ind _ (fun i : Nat => (({ tmps := [.undef, .undef, .own 2 [], .undef, .undef, vL LF, .undef, .undef, vL LA, .undef, vL LO, .undef, .undef, vI i, .undef, .undef, .undef, .undef, .undef, .undef, .undef, .undef, .undef, .undef, .undef, .undef, .undef, .undef, .undef, .undef, .undef, .undef, .undef, .undef, .undef, .undef, .undef, .undef, .undef, .undef, .undef, .undef, .undef, .undef, .undef, .undef, .undef, .undef, .undef, .undef, .undef, .undef, .undef, .undef, .undef, .undef, .undef, .undef, .undef, .undef, .undef, .undef, .undef, .undef, .undef, .undef, .undef, .undef, .undef, .undef, .undef, .undef, .undef, .undef, .undef, .undef, .undef, .undef, .undef, .undef, .undef, .undef, .undef, .undef, .undef, .undef, .undef, .undef, .undef, .undef, .undef, .undef, .undef, .undef, .undef, .undef, .undef, .undef, .undef, .undef, .undef, .undef, .undef, .undef, .undef, .undef, .undef, .undef, .undef, .undef, .undef, .undef, .undef, .undef, .undef, .undef, .undef, .undef, .undef, .undef, .undef, .undef, .undef, .undef, .undef, .undef, .undef, .undef, .undef, .undef, .undef, .undef, .undef, .undef, .undef, .undef, .undef, .undef, .undef, .undef, .undef, .undef, .undef, .undef, .undef, .undef, .undef, .undef, .undef, .undef, .undef, .undef, .undef, .undef, .undef, .undef, .undef, .undef, .undef], seg := [(2, .cells [snsV hs])], up := [] } : St S))) (fun i : Nat => (i ≤ LO.length)) (fun i : Nat => (LO.length - i)) () ?_ 0 (Nat.zero_le _)
   intro i hi Z3 hZ3
   conv => whnf
   refine ⟨?_⟩
   conv => whnf
   refine bcase_iff.2 ⟨fun g19_4 => ?_, fun g19_4 => ?_⟩
   · have hlt3 : i < LO.length := by have := of_decide_eq_true g19_4; omega
     have hw3 : IntKind.i64.wrap ((i : Int) + 1) = ((i + 1 : Nat) : Int) := wrap_nat (by omega)
     conv => whnf
     refine bcase_iff.2 ⟨fun g19_11 => ?_, fun g19_11 => ?_⟩
     · have hle : LO.length = LF.length := by have g : ((LO.length : Int) == (LF.length : Int)) = true := g19_11; exact Int.ofNat.inj (eq_of_beq g)
       conv => whnf
       rcases hq : accB hs (b % 2 ^ hs.length) with _ | _
       · refine byC (to (c59s hV hO) (by rw [hq])) op59 ?_
         conv => whnf
         refine ⟨?_⟩
         conv => whnf
         refine bcase_iff.2 ⟨fun g23_6 => ?_, fun g23_6 => ?_⟩
         · conv => whnf
           refine byC c27 op27 ?_
           conv => whnf
           all_goals rfl
         exfalso
         have g := of_decide_eq_false g23_6
         omega
       have hO2 := (hX _ _ hO hq).2 hle
       refine byC (to (c59s hV hO) (by rw [hq])) op59 ?_
       conv => whnf
       refine ⟨?_⟩
       conv => whnf
       obtain ⟨k, hk2, hkb, _⟩ := hO.get hlt3
       refine ⟨_, hk2, ?_⟩
       conv => whnf
       refine byC (to (c60s glT hA k) (by rw [(hO2 k).2 hkb])) op60 ?_
       conv => whnf
       refine ⟨?_⟩
       conv => whnf
       refine ⟨⟨9508, [], []⟩, ?_⟩
       conv => whnf
       rw [hw3]
       exact hZ3 (i + 1) hlt3 (by omega)
     conv => whnf
     refine ⟨?_⟩
     conv => whnf
     refine bcase_iff.2 ⟨fun g23_6 => ?_, fun g23_6 => ?_⟩
     · conv => whnf
       refine byC c27 op27 ?_
       conv => whnf
       all_goals rfl
     exfalso
     have g := of_decide_eq_false g23_6
     omega
   conv => whnf
   refine ⟨?_⟩
   conv => whnf
   refine bcase_iff.2 ⟨fun g23_6 => ?_, fun g23_6 => ?_⟩
   · conv => whnf
     refine byC c27 op27 ?_
     conv => whnf
     all_goals rfl
   exfalso
   have g := of_decide_eq_false g23_6
   omega
 have h57 : PCalls PR glT 57 [.agg [snsV hs]] fun r => r = vB false := to (c57 glT hs hl) (by rw [show (chHE hs == 0) = false from by simpa using hk])
 have h33 : PCalls PR glT 33 [.agg [snsV hs]] fun r => r = .tup [vL [], vI (chHE hs)] := to (c33 hs hl) (by unfold forV; rw [if_neg hk])
 have h35 : PCalls PR glT 35 [.agg [snsV hs]] fun r => r = .tup [vL [], vL [], vI (chHE hs)] := to (c35 hs hl) (by unfold sureV; rw [if_neg hk])
 generalize chHE hs = e at hk h33 h35
 refine byC h33 op33 ?_
 conv => whnf
 refine ⟨?_⟩
 conv => whnf
 refine byC h35 op35 ?_
 conv => whnf
 refine ⟨?_⟩
 conv => whnf
 refine byC h57 op57 ?_
 conv => whnf
 refine ⟨?_⟩
 conv => whnf
 refine bcase_iff.2 ⟨fun g4_2 => ?_, fun g4_2 => ?_⟩
 · conv => whnf
   refine bcase_iff.2 ⟨fun g4_7 => ?_, fun g4_7 => ?_⟩
   · conv => whnf
     refine byC c27 op27 ?_
     conv => whnf
     all_goals rfl
   exfalso
   have g : (e == e) = false := g4_7
   simp at g
 exfalso
 have g : (e != 0) = false := g4_2
 exact hk (by simpa using g)
end Go.Ab.MkF
namespace Go.Ab.MkF
open Go Go.Ab Go.Proofs Go.Proofs.YtmchcpmkadhmjaaDoor Go.ChangeShapes Go.WideShapes Go.ChangeAt Go.RowKit
theorem post_same {H : Type} {enc : TypeId × Value → H} {P : Program} {f : Func} {s : ChangeSpec} {apart fresh handsOn again : Bool} {W W' : World} {args : Array Value} {v : Value} {ds gs : List (DataW H)} {before pa pv : List MemPlace}
  (hW : DataW.Whole enc P f.params.toList s.vars apart W args.toList ds gs before)
  (hres : ∀ (b : Nat) (sp : Nat → Bool) (hd : Bool), DataW.TrodAll enc P W' b sp hd f.resultTypes.toList (v.resultList f.resultTypes.size) (s.fn H (ds ++ gs)).results [])
  (hargs : ∀ sp : Nat → Bool, (∀ p ∈ before, sp p.block = true) → DataW.TrodAll enc P W' 0 sp true f.params.toList args.toList (s.fn H (ds ++ gs)).args pa)
  (hvars : ∀ sp : Nat → Bool, (∀ p ∈ before, sp p.block = true) → DataW.TrodVars enc P W' sp s.vars (s.fn H (ds ++ gs)).vars pv)
  (hps : before = pa ++ pv) (hk : W.keptBut W' (· ∈ before)) (hfz : ∀ a, a.block < W.heap.size → W'.frozen? a = W.frozen? a)
  (hok : ∀ (j : Nat) (t : TypeId) (r : Value), f.resultTypes[j]? = some t → (v.resultList f.resultTypes.size)[j]? = some r → Value.okWide P W' .any 0 t r) :
  s.post enc P f apart fresh handsOn again W args v W' := by
 have hlt := hW.lt
 have hold : ∀ p ∈ before, (fun b => decide (b < W.heap.size)) p.block = true := fun p hp => by simpa using hlt p hp
 refine ⟨ds, gs, before, [], pa, pv, hW, hres _ _ _, hargs _ hold, hvars _ hold, World.keptBut_mono (fun p hp => ⟨hp, ?_⟩) hk, fun _ => ?_⟩
 · rw [hps, List.mem_append] at hp
   exact Or.inr hp
 obtain ⟨_, _, _, _, _, hz, hn⟩ := hW
 refine ⟨hok, _, _, ([] ++ pa) ++ pv, ⟨[] ++ pa, pv, trodAll_append (hargs _ (fun _ _ => rfl)) (hres _ _ _), hvars _ (fun _ _ => rfl), rfl, ?_, ?_⟩, ?_⟩
 · intro b off hp
   have hp' : MemPlace.cell b off ∈ before := by rw [hps]; simpa using hp
   rw [hfz _ (hlt _ hp')]
   exact hz b off hp'
 · intro ha
   have := hn ha
   rw [hps] at this
   simpa using this
 intro p hp _
 rw [hps]
 simpa using hp
theorem grow_kept {w w' : World} (h : Grow w w') (may : MemPlace → Prop) : w.keptBut w' may := by
 refine ⟨h.os, h.output, fun i hi => ?_⟩
 rw [h.block i hi]
 cases w.heap[i]? with
 | none => trivial
 | some o => cases o <;> simp
theorem grow_fz {w w' : World} (h : Grow w w') (a : Addr) (ha : a.block < w.heap.size) : w'.frozen? a = w.frozen? a := by
 unfold World.frozen?
 rw [h.block _ ha]
theorem gTab : Tryd.prog.globalNamed "math/bits.deBruijn64tab" = some 1 := by kernel_rfl
theorem gTabType : (Tryd.prog.globals[1]?).map (·.type) = some 198 := by kernel_rfl
theorem cells198 : Tryd.prog.cellsOf 198 = 64 := by kernel_rfl
theorem cells5 : Tryd.prog.cellsOf 5 = 1 := by kernel_rfl
theorem laid_glT {W : World} (h : laidMetH Tryd.prog [("math/bits.deBruijn32tab", Rows.laid_math_bits_deBruijn32tab), ("math/bits.deBruijn64tab", Rows.laid_math_bits_deBruijn64tab)] W) : glT.G W := by
 have h1 := laidMetH.filter (fun x => x.1 == "math/bits.deBruijn64tab") h
 have e : ([("math/bits.deBruijn32tab", Rows.laid_math_bits_deBruijn32tab), ("math/bits.deBruijn64tab", Rows.laid_math_bits_deBruijn64tab)] : List (String × DataW Unit)).filter (fun x => x.1 == "math/bits.deBruijn64tab") = [("math/bits.deBruijn64tab", Rows.laid_math_bits_deBruijn64tab)] := by rfl
 rw [e, Go.MakeChecks.laidMetH_plain _ _ _ (by kernel_rfl)] at h1
 have ht : Lib.TabIs Tryd.prog W "math/bits.deBruijn64tab" .u8 (Lib.deBruijn64tab.map fun n : Nat => (n : Int)) := Lib.tabIs_of_head (rest := []) gTab gTabType Tryd.underlying198 Tryd.underlying5 cells5 cells198 h1
 have hc : TabAt 1 Lib.deBruijn64tab W := fun j hj => by
  have := ht.cell gTab j (by simpa using hj)
  rw [this]
  simp [List.getD, hj]
 refine ⟨?_, hc⟩
 have := hc 0 (by decide)
 rcases Nat.lt_or_ge 1 W.heap.size with hlt | hge
 · exact hlt
 exfalso
 have hn : W.heap[1]? = none := Array.getElem?_eq_none hge
 simp [World.cell?, hn] at this
def tab32 : List Int := [0, 1, 28, 2, 29, 14, 24, 3, 30, 22, 20, 15, 25, 17, 4, 8, 31, 27, 13, 23, 21, 19, 16, 7, 26, 12, 18, 6, 11, 5, 10, 9]
def tab64 : List Int := [0, 1, 56, 2, 57, 49, 28, 3, 61, 58, 42, 50, 38, 29, 17, 4, 62, 47, 59, 36, 45, 43, 51, 22, 53, 39, 33, 30, 24, 18, 12, 5, 63, 55, 48, 27, 60, 41, 37, 16, 46, 35, 44, 21, 52, 32, 23, 11, 54, 26, 40, 15, 34, 20, 31, 10, 25, 14, 19, 9, 13, 8, 7, 6]
def setTab (zs : List Int) : Obj → Obj
 | .cells _ t frozen => .cells (zs.map fun n => Value.int .u8 n).toArray t frozen
 | o => o
def tabWorld (w : World) : World := { w with heap := (w.heap.modify 0 (setTab tab32)).modify 1 (setTab tab64) }
end Go.Ab.MkF
namespace Go.Ab.MkF
open Go Go.Ab Go.Proofs
set_option maxRecDepth 100000
theorem kids : Kids Tryd.prog (· < Tryd.prog.types.size) := kids_rows (by kernel_rfl) (by kernel_rfl)
theorem full : ∀ t e, t < Tryd.prog.types.size → Tryd.prog.underlying t = some (.slice e) → 0 < Tryd.prog.cellsOf e := slices_full_of Tryd.prog (by kernel_rfl)
theorem zc3 : Tryd.prog.cellsOf 3 = 1 := by kernel_rfl
theorem zc46 : Tryd.prog.cellsOf 46 = 1 := by kernel_rfl
theorem zc48 : Tryd.prog.cellsOf 48 = 1 := by kernel_rfl
theorem zc57 : Tryd.prog.cellsOf 57 = 2 := by kernel_rfl
theorem zc84 : Tryd.prog.cellsOf 84 = 3 := by kernel_rfl
abbrev B63 : Nat := 9223372036854775807
section
variable {H : Type} {enc : TypeId × Value → H} {w : World}
theorem oInt : OpA S enc Tryd.prog w 3 fun cl => ∃ n : Int, cl = Cod.enc (S := S) U.int n ∧ IntKind.i64.min ≤ n ∧ n ≤ IntKind.i64.max :=
 (OpA.int Tryd.underlying3).mono fun _ ⟨n, h, h1⟩ => ⟨n, h, h1⟩
theorem oByte : OpA S enc Tryd.prog w 5 fun cl => ∃ n : Int, cl = Cod.enc (S := S) U.u8 n ∧ IntKind.u8.min ≤ n ∧ n ≤ IntKind.u8.max :=
 (OpA.int Tryd.underlying5).mono fun _ ⟨n, h, h1⟩ => ⟨n, h, h1⟩
theorem oByteV : OpA S enc Tryd.prog w 5 fun cl => ∃ n : Int, cl = [.int .u8 n] ∧ 0 ≤ n ∧ n ≤ 255 := oByte.mono fun _ ⟨n, h, h1⟩ => ⟨n, h, h1⟩
theorem oSpan : OpA S enc Tryd.prog w 57 fun cl => ∃ a b : Int, cl = [vI a, vI b] := by
 refine (OpA.struct (Rs := [_, _]) Tryd.underlying57 ⟨rfl, _, _, rfl, oInt, by rw [zc3], _, _, rfl, oInt, by rw [zc3, zc57], rfl⟩).mono ?_
 rintro cl ⟨a, b, rfl, ⟨n, rfl, _⟩, e, f, rfl, ⟨m, rfl, _⟩, rfl⟩
 exact ⟨n, m, rfl⟩
theorem oSn : OpA S enc Tryd.prog w 84 fun cl => ∃ y : Sn, cl = Cod.enc (S := S) U.seen y ∧ True := by
 refine (OpA.struct (Rs := [_, _]) Tryd.underlying84 ⟨rfl, _, _, rfl, oInt, by rw [zc3], _, _, rfl, oSpan, by rw [zc3, zc57, zc84], rfl⟩).mono ?_
 rintro cl ⟨a, b, rfl, ⟨n, rfl, _⟩, e, f, rfl, ⟨m, k, rfl⟩, rfl⟩
 exact ⟨(n, m, k), rfl, trivial⟩
theorem oSns : OpA S enc Tryd.prog w 46 fun cl => ∃ ys : List Sn, cl = [snsV ys] ∧ ys.length ≤ B63 ∧ ∀ y ∈ ys, True :=
 OpA.slice (S := S) (u := U.seen) Tryd.underlying46 zc84 oSn
theorem oHand : OpA S enc Tryd.prog w 48 fun cl => ∃ ys : List Sn, cl = [snsV ys] ∧ ys.length ≤ B63 := by
 refine (OpA.struct (Rs := [_]) Tryd.underlying48 ⟨rfl, _, _, rfl, oSns, by rw [zc46, zc48], rfl⟩).mono ?_
 rintro cl ⟨a, b, rfl, ⟨ys, rfl, h, _⟩, rfl⟩
 exact ⟨ys, rfl, h⟩
end
abbrev noHand : Value := .agg #[.slice none 0 0]
end Go.Ab.MkF
