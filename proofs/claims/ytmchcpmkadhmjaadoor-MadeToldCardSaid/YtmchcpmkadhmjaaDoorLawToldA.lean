/-
  THE MADE FAMILY, PLAIN LAW, PART E: the fewest leaves: what is so of them.
  THE MADE FAMILY, PLAIN LAW, PART F: the fewest copies: what is so of them.
  THE MADE FAMILY, PLAIN LAW, PART H: leaves that are told, as a set.
  THE MADE FAMILY, PLAIN LAW, PART G: of MadeLeaf: one leaf more, or one that is seen less well.
  THE MADE FAMILY, PLAIN LAW, PART I: what some leaves have in common.
  THE MADE FAMILY, PLAIN LAW, PART J: leaves that are told, as the reference looks at them.
  THE MADE FAMILY, PLAIN LAW, PART L: Sources, as the reference says it.
  THE MADE FAMILY, PLAIN LAW, PART M: of MadeTold: a copy that was made up of some copies.
  THE MADE FAMILY, PLAIN LAW, PART K: Foreign and Sure, as the reference says them.
  THE MADE FAMILY, PART RA: the reference: a hand.
  THE MADE FAMILY, PART LH: what the laws of a hand have in common.
  THE MADE FAMILY, PART RD: the reference: what leaves have in common.
  THE MADE FAMILY, PART RE: the reference: Foreign, Sure, Sources.
  THE MADE FAMILY, PART LF: MadeTold.
  THE MADE FAMILY: WHAT ALL ITS CARDS NEED: from a contract of the engine to the given statements' form.
  THE MADE FAMILY: the arguments of its laws, read as ours.
-/
import Derived.Test.YtmchcpmkadhmjaaDoorCards
import Derived.Test.YtmchcpmkadhmjaaDoorTie
import Derived.WalkKit
import Derived.ProofKit
import Derived.OpenShut
import Derived.Deep.DeepHandedRow
import Derived.Lib.LaidTab
import Derived.LaidSub
import Derived.MakeChecks
import Derived.ChangeBears
import Derived.Test.YtmchcpmkadhmjaaDoorMadeB
import Derived.Test.YtmchcpmkadhmjaaDoorMadeA
import Derived.Test.YtmchcpmkadhmjaaDoorEngD
namespace Go.Ab.MkF
open Go Go.Ab Go.Ab.Pln
theorem bitsL_mem {n c a : Nat} (hc : c ≤ 64) (hn : n < 2 ^ c) : a ∈ bitsL n ↔ n.testBit a = true := by
 rw [bitsL_below hc hn, List.mem_filter, List.mem_range]
 refine ⟨fun h => h.2, fun h => ⟨?_, h⟩⟩
 rcases Nat.lt_or_ge a c with h2 | h2
 · exact h2
 rw [Nat.testBit_lt_two_pow (Nat.lt_of_lt_of_le hn (Nat.pow_le_pow_right (by omega) h2))] at h; cases h
theorem bits_asc {n c : Nat} (hc : c ≤ 64) (hn : n < 2 ^ c) : (bitsL n).Pairwise (· < ·) := by
 rw [bitsL_below hc hn]; exact List.Pairwise.filter _ List.pairwise_lt_range
theorem pw_asc {R : Nat → Nat → Prop} : ∀ {l : List Nat}, l.Pairwise (· < ·) → (l.Pairwise R ↔ ∀ a ∈ l, ∀ b ∈ l, a < b → R a b)
 | [], _ => by simp
 | c :: r, h => by
  obtain ⟨h1, h2⟩ := List.pairwise_cons.1 h
  rw [List.pairwise_cons, pw_asc h2]
  constructor
  · rintro ⟨h3, h4⟩ a ha b hb hab
    rcases List.mem_cons.1 ha with rfl | ha'
    · rcases List.mem_cons.1 hb with rfl | hb'
      · omega
      exact h3 b hb'
    rcases List.mem_cons.1 hb with rfl | hb'
    · have := h1 a ha'; omega
    exact h4 a ha' b hb' hab
  intro h3
  exact ⟨fun b hb => h3 c List.mem_cons_self b (List.mem_cons_of_mem _ hb) (h1 b hb), fun a ha b hb => h3 a (List.mem_cons_of_mem _ ha) b (List.mem_cons_of_mem _ hb)⟩
theorem less_test (a b k : Nat) : (less a b).testBit k = (a.testBit k && !b.testBit k) := by
 unfold less
 rw [Nat.testBit_xor, Nat.testBit_and]
 cases a.testBit k <;> cases b.testBit k <;> rfl
theorem rest_test (n s k : Nat) : (less (2 ^ n - 1) s).testBit k = (decide (k < n) && !s.testBit k) := by rw [less_test, Nat.testBit_two_pow_sub_one]
theorem rest_lt (n s : Nat) : less (2 ^ n - 1) s < 2 ^ n := less_lt' (by have := Nat.two_pow_pos n; omega)
def Acc (hs : List Sn) (s : Nat) : Prop := ∀ a b, a < b → b < hs.length → s.testBit a = false → s.testBit b = false → pairH hs a b = true
theorem clR_none {hs : List Sn} {c set : Nat} (hc : c ≤ 64) (hn : set < 2 ^ c) : clR hs set = none ↔ ∀ a b, a < b → set.testBit a = true → set.testBit b = true → pairH hs a b = true := by
 unfold clR
 rw [clL_none, pw_asc (bits_asc hc hn)]
 constructor
 · exact fun h a b hab h1 h2 => h a ((bitsL_mem hc hn).2 h1) b ((bitsL_mem hc hn).2 h2) hab
 exact fun h a h1 b h2 hab => h a b hab ((bitsL_mem hc hn).1 h1) ((bitsL_mem hc hn).1 h2)
theorem accB_iff {hs : List Sn} (h8 : hs.length ≤ 8) {s : Nat} : accB hs s = true ↔ Acc hs s := by
 unfold accB
 rw [Option.isNone_iff_eq_none, clR_none (c := hs.length) (by omega) (rest_lt _ _)]
 unfold Acc
 constructor
 · intro h a b hab hb h1 h2
   exact h a b hab (by rw [rest_test, h1, decide_eq_true (by omega)]; rfl) (by rw [rest_test, h2, decide_eq_true hb]; rfl)
 intro h a b hab h1 h2
 rw [rest_test, Bool.and_eq_true] at h1 h2
 exact h a b hab (of_decide_eq_true h2.1) (by simpa using h1.2) (by simpa using h2.2)
abbrev leastH (hs : List Sn) : Nat := (fewH hs (2 ^ hs.length)).1
theorem fewH_spec (hs : List Sn) : ∀ s, (∀ x, x < s → accB hs x = true → (fewH hs s).1 ≤ onesN x) ∧ ((fewH hs s).2 = (List.range s).filter fun x => accB hs x && onesN x == (fewH hs s).1) ∧ ((fewH hs s).1 = hs.length ∨ (fewH hs s).2 ≠ [])
 | 0 => ⟨fun x h => absurd h (Nat.not_lt_zero x), rfl, .inl rfl⟩
 | s + 1 => by
  obtain ⟨h1, h2, h3⟩ := fewH_spec hs s
  simp only [fewH]
  split
  · rename_i h
    refine ⟨fun x hx ha => ?_, ?_, h3⟩
    · rcases Nat.lt_succ_iff_lt_or_eq.1 hx with hx | rfl
      · exact h1 x hx ha
      simp [ha] at h; omega
    rw [List.range_succ, List.filter_append, ← h2]
    have : (accB hs s && onesN s == (fewH hs s).1) = false := by
     cases ha : accB hs s with
     | false => rfl
     | true => simp [ha] at h; simp; omega
    simp [this]
  rename_i h
  have ha : accB hs s = true := by cases ha : accB hs s <;> simp [ha] at h ⊢
  have hle : onesN s ≤ (fewH hs s).1 := by simp [ha] at h; exact h
  split
  · rename_i hlt
    refine ⟨fun x hx hax => ?_, ?_, .inr (by simp)⟩
    · rcases Nat.lt_succ_iff_lt_or_eq.1 hx with hx | rfl
      · have := h1 x hx hax; show onesN s ≤ _; omega
      exact Nat.le_refl _
    show [s] = _
    rw [List.range_succ, List.filter_append, List.filter_eq_nil_iff.2]
    · simp [ha]
    intro x hx
    have hx := List.mem_range.1 hx
    intro hc
    rw [Bool.and_eq_true] at hc
    have := h1 x hx hc.1
    have := eq_of_beq hc.2
    omega
  rename_i hlt
  have he : onesN s = (fewH hs s).1 := by omega
  refine ⟨fun x hx hax => ?_, ?_, .inr (by simp)⟩
  · rcases Nat.lt_succ_iff_lt_or_eq.1 hx with hx | rfl
    · exact h1 x hx hax
    show (fewH hs x).1 ≤ _; omega
  show (fewH hs s).2 ++ [s] = _
  rw [List.range_succ, List.filter_append, ← h2]
  simp [ha, he]
theorem ones_full : ∀ n, n ≤ 8 → onesN (2 ^ n - 1) = n := by decide
theorem ones_but0 : ∀ n, n ≤ 8 → onesN (2 ^ n - 1 - 1) = n - 1 := by decide
theorem bits_ones {x : Nat} (h : x < 256) : (bitsL x).length = onesN x := by rw [bitsL_below (c := 8) (by omega) h]; rfl
theorem mem_sets {hs : List Sn} (h8 : hs.length ≤ 8) {x : Nat} : x ∈ setsH hs ↔ x < 2 ^ hs.length ∧ Acc hs x ∧ onesN x = leastH hs := by
 unfold setsH
 rw [(fewH_spec hs _).2.1, List.mem_filter, List.mem_range, Bool.and_eq_true, accB_iff h8, beq_iff_eq]
theorem least_le {hs : List Sn} (h8 : hs.length ≤ 8) {x : Nat} (hx : x < 2 ^ hs.length) (ha : Acc hs x) : leastH hs ≤ onesN x := (fewH_spec hs _).1 x hx ((accB_iff h8).2 ha)
theorem least_lt {hs : List Sn} (h1 : 1 ≤ hs.length) (h8 : hs.length ≤ 8) : leastH hs < hs.length := by
 have hp := Nat.two_pow_pos hs.length
 have h := least_le h8 (x := 2 ^ hs.length - 1 - 1) (by omega) (fun a b hab hb _ h2 => by
  rw [Nat.sub_sub, show 1 + 1 = 1 + 1 from rfl] at h2
  exfalso
  have h3 : (2 ^ hs.length - (1 + 1)).testBit b = (decide (b < hs.length) && !(Nat.testBit 1 b)) := Nat.testBit_two_pow_sub_succ (by have := Nat.pow_le_pow_right (n := 2) (by omega) h1; omega) b
  rw [h3, decide_eq_true hb] at h2
  have : Nat.testBit 1 b = false := by
   rw [show (1 : Nat) = 2 ^ 0 from rfl, Nat.testBit_two_pow]; simp; omega
  rw [this] at h2; cases h2)
 rw [ones_but0 _ h8] at h
 omega
theorem sets_ne {hs : List Sn} (h8 : hs.length ≤ 8) : setsH hs ≠ [] := by
 rcases (fewH_spec hs (2 ^ hs.length)).2.2 with h | h
 · refine List.ne_nil_of_mem (a := 2 ^ hs.length - 1) ((mem_sets h8).2 ⟨by have := Nat.two_pow_pos hs.length; omega, fun a b hab hb h1 _ => ?_, by rw [ones_full _ h8]; exact h.symm⟩)
   rw [Nat.testBit_two_pow_sub_one, decide_eq_true (by omega)] at h1; cases h1
 exact h
theorem forN_mem {hs : List Sn} (h8 : hs.length ≤ 8) : forN hs ∈ setsH hs := minU_mem (List.length_pos_iff.2 (sets_ne h8)) _ (Nat.le_refl _)
theorem p256 {n : Nat} (h : n ≤ 8) : 2 ^ n ≤ 256 := Nat.pow_le_pow_right (n := 2) (by omega) h
theorem forV_len {hs : List Sn} (hV : ValidH hs) : (forV hs).1.length = leastH hs ∧ (forV hs).2 = 0 := by
 have h8 := hV.n8
 unfold forV
 rw [if_pos (chH_valid.2 hV)]
 obtain ⟨h1, h2, h3⟩ := (mem_sets h8).1 (forN_mem h8)
 refine ⟨?_, rfl⟩
 show (natsV (bitsL (forN hs))).length = _
 rw [List.length_map, bits_ones (by have := p256 h8; omega), h3]
end Go.Ab.MkF
namespace Go.Ab.MkF
open Go Go.Ab Go.Ab.Pln
def okJ (hs : List Sn) (L : List Int) (j : Nat) : Bool := (List.range L.length).all fun a => !(L.getD a 0 == (j : Int)) || pairH hs a L.length
def allC (hs : List Sn) : Nat → Nat → List Int → List (Nat × List Int)
 | 0, t, L => [(t, L)]
 | k + 1, t, L => (List.range (t + 1)).flatMap fun j => if okJ hs L j then allC hs k (max t (j + 1)) (L ++ [(j : Int)]) else []
def updS (s : Int × List Int) (q : Nat × List Int) : Int × List Int := if (q.1 : Int) ≥ s.1 then s else ((q.1 : Int), q.2)
theorem allC_ge (hs : List Sn) : ∀ k t L, ∀ q ∈ allC hs k t L, t ≤ q.1
 | 0, t, L, q, h => by
  simp only [allC, List.mem_singleton] at h; subst h; exact Nat.le_refl _
 | k + 1, t, L, q, h => by
  simp only [allC, List.mem_flatMap] at h
  obtain ⟨j, _, h⟩ := h
  split at h
  · have := allC_ge hs k _ _ q h; omega
  cases h
theorem foldS_stop {l : List (Nat × List Int)} {s : Int × List Int} (h : ∀ q ∈ l, (q.1 : Int) ≥ s.1) : l.foldl updS s = s := by
 induction l with
 | nil => rfl
 | cons a r ih =>
  rw [List.foldl_cons]
  unfold updS
  rw [if_pos (h a List.mem_cons_self)]
  exact ih fun q hq => h q (List.mem_cons_of_mem _ hq)
structure Lk (hs : List Sn) (T : List Nat) (L : List Int) : Prop where
 ok : SrcOk L.length T
 val : ∀ a, a < L.length → ∃ j : Nat, j < T.length ∧ L.getD a 0 = (j : Int)
 bit : ∀ j, j < T.length → ∀ a, (T.getD j 0).testBit a = true ↔ a < L.length ∧ L.getD a 0 = (j : Int)
 can : ∀ a b, a < b → b < L.length → L.getD a 0 = L.getD b 0 → pairH hs a b = true
theorem Lk.nil (hs : List Sn) : Lk hs [] [] := ⟨⟨Nat.le_refl _, fun x h => absurd h (by simp)⟩, fun a h => absurd h (Nat.not_lt_zero _), fun j h => absurd h (Nat.not_lt_zero _), fun a b _ h => absurd h (Nat.not_lt_zero _)⟩
theorem getD_app_lt {α : Type} {l : List α} {x d : α} {i : Nat} (h : i < l.length) : (l ++ [x]).getD i d = l.getD i d := by
 rw [getD_at (by simp; omega), getD_at h, List.getElem_append_left h]
theorem getD_app_at {α : Type} {l : List α} {x d : α} : (l ++ [x]).getD l.length d = x := by
 rw [getD_at (by simp)]; simp
theorem getD_app {α : Type} {l : List α} {x d : α} {i : Nat} (h : i < l.length + 1) : (i < l.length ∧ (l ++ [x]).getD i d = l.getD i d) ∨ i = l.length ∧ (l ++ [x]).getD i d = x := by
 rcases Nat.lt_or_eq_of_le (Nat.le_of_lt_succ h) with h | rfl
 · exact .inl ⟨h, getD_app_lt h⟩
 exact .inr ⟨rfl, getD_app_at⟩
theorem Lk.joinBit {hs : List Sn} {T : List Nat} {L : List Int} (h : Lk hs T L) {j : Nat} (hj : j ≤ T.length) (a : Nat) : ((sjoin T j (2 ^ L.length)).getD j 0).testBit a = true ↔ (a < L.length ∧ L.getD a 0 = (j : Int)) ∨ a = L.length := by
 rcases Nat.lt_or_eq_of_le hj with hlt | rfl
 · rw [sjoin_lt hlt, getD_at (by simpa using hlt), List.getElem_set_self, Nat.testBit_or, Nat.testBit_two_pow, Bool.or_eq_true, ← getD_at (d := 0) hlt, h.bit j hlt a, decide_eq_true_eq]
   exact ⟨fun h => h.imp id Eq.symm, fun h => h.imp id Eq.symm⟩
 rw [sjoin_ge, getD_app_at, Nat.testBit_two_pow, decide_eq_true_eq]
 constructor
 · exact fun h => .inr h.symm
 rintro (⟨h1, h2⟩ | h1)
 · obtain ⟨q, hq, h3⟩ := h.val a h1
   omega
 exact h1.symm
theorem Lk.okJ {hs : List Sn} {L : List Int} {j : Nat} : okJ hs L j = true ↔ ∀ a, a < L.length → L.getD a 0 = (j : Int) → pairH hs a L.length = true := by
 unfold Go.Ab.MkF.okJ
 rw [List.all_eq_true]
 constructor
 · intro h a ha he
   have := h a (List.mem_range.2 ha)
   rw [he] at this
   simpa using this
 intro h a ha
 have ha := List.mem_range.1 ha
 by_cases he : L.getD a 0 = (j : Int)
 · rw [h a ha he]; simp
 rw [show (L.getD a 0 == (j : Int)) = false from by simpa using he]; rfl
theorem Lk.join {hs : List Sn} {T : List Nat} {L : List Int} (h : Lk hs T L) {j : Nat} (hj : j ≤ T.length) (ho : Go.Ab.MkF.okJ hs L j = true) : Lk hs (sjoin T j (2 ^ L.length)) (L ++ [(j : Int)]) := by
 have hlen : (L ++ [(j : Int)]).length = L.length + 1 := by simp
 have hT : (sjoin T j (2 ^ L.length)).length = max T.length (j + 1) := by
  rcases Nat.lt_or_eq_of_le hj with hlt | rfl
  · rw [sjoin_lt hlt, List.length_set]; omega
  rw [sjoin_ge, List.length_append]; simp
 refine ⟨by rw [hlen]; exact h.ok.join hj, fun a ha => ?_, fun q hq a => ?_, fun a b hab hb he => ?_⟩
 · rw [hT]
   rw [hlen] at ha
   rcases getD_app (x := (j : Int)) (d := 0) ha with ⟨h1, h2⟩ | ⟨_, h2⟩
   · obtain ⟨q, hq, h3⟩ := h.val a h1
     exact ⟨q, by omega, by rw [h2, h3]⟩
   exact ⟨j, by omega, h2⟩
 · rw [hlen]
   by_cases hjq : q = j
   · subst hjq
     rw [h.joinBit hj a]
     constructor
     · rintro (⟨h1, h2⟩ | rfl)
       · exact ⟨by omega, by rw [getD_app_lt h1]; exact h2⟩
       exact ⟨by omega, getD_app_at⟩
     rintro ⟨h1, h2⟩
     rcases getD_app (x := (q : Int)) (d := 0) h1 with ⟨h3, h4⟩ | ⟨h3, _⟩
     · exact .inl ⟨h3, by rw [← h4]; exact h2⟩
     exact .inr h3
   rw [hT] at hq
   have hql : q < T.length := by omega
   have hg : (sjoin T j (2 ^ L.length)).getD q 0 = T.getD q 0 := by
    rcases Nat.lt_or_eq_of_le hj with hlt | rfl
    · rw [sjoin_lt hlt, getD_at (by simpa using hql), List.getElem_set_ne (Ne.symm hjq), getD_at hql]
    rw [sjoin_ge, getD_app_lt hql]
   rw [hg, h.bit q hql a]
   constructor
   · rintro ⟨h1, h2⟩
     exact ⟨by omega, by rw [getD_app_lt h1]; exact h2⟩
   rintro ⟨h1, h2⟩
   rcases getD_app (x := (j : Int)) (d := 0) h1 with ⟨h3, h4⟩ | ⟨_, h4⟩
   · exact ⟨h3, by rw [← h4]; exact h2⟩
   rw [h4] at h2; omega
 rw [hlen] at hb
 rw [getD_app_lt (by omega)] at he
 rcases getD_app (x := (j : Int)) (d := 0) hb with ⟨h3, h4⟩ | ⟨h3, h4⟩
 · exact h.can a b hab h3 (by rw [← h4]; exact he)
 subst h3
 exact Lk.okJ.1 ho a hab (by rw [he, h4])
theorem Lk.clash {hs : List Sn} {T : List Nat} {L : List Int} (h : Lk hs T L) {j : Nat} (hj : j ≤ T.length) (h8 : L.length < 8) : (clR hs ((sjoin T j (2 ^ L.length)).getD j 0)).isNone = Go.Ab.MkF.okJ hs L j := by
 have hb := h.joinBit hj
 generalize hX : (sjoin T j (2 ^ L.length)).getD j 0 = X at hb
 have hlt : X < 2 ^ (L.length + 1) := by
  have hok := h.ok.join hj
  have hm : X ∈ sjoin T j (2 ^ L.length) := by
   rw [← hX, getD_at (by
    rcases Nat.lt_or_eq_of_le hj with hlt | rfl
    · rw [sjoin_lt hlt, List.length_set]; exact hlt
    rw [sjoin_ge, List.length_append]; simp)]
   exact List.getElem_mem _
  exact (hok.x X hm).2
 rw [Bool.eq_iff_iff, Option.isNone_iff_eq_none, clR_none (c := L.length + 1) (by omega) hlt, Lk.okJ]
 constructor
 · exact fun hc a ha he => hc a L.length ha ((hb a).2 (.inl ⟨ha, he⟩)) ((hb _).2 (.inr rfl))
 intro hc a b hab h1 h2
 rcases (hb a).1 h1 with ⟨h3, h4⟩ | rfl
 · rcases (hb b).1 h2 with ⟨h5, h6⟩ | rfl
   · exact h.can a b hab h5 (by rw [h4, h6])
   exact hc a h3 h4
 rcases (hb b).1 h2 with ⟨h5, h6⟩ | rfl <;> omega
theorem Lk.joinLen {T : List Nat} {j b : Nat} (hj : j ≤ T.length) : (sjoin T j b).length = max T.length (j + 1) := by
 rcases Nat.lt_or_eq_of_le hj with hlt | rfl
 · rw [sjoin_lt hlt, List.length_set]; omega
 rw [sjoin_ge, List.length_append]; simp
theorem foldl_flat {α β γ : Type} (f : α → β → α) (g : γ → List β) : ∀ (l : List γ) (s : α), (l.flatMap g).foldl f s = l.foldl (fun s x => (g x).foldl f s) s
 | [], _ => rfl
 | a :: l, s => by rw [List.flatMap_cons, List.foldl_append, List.foldl_cons, foldl_flat f g l]
theorem foldl_same {α β : Type} {f g : α → β → α} : ∀ {l : List β} {s : α}, (∀ x ∈ l, ∀ s, f s x = g s x) → l.foldl f s = l.foldl g s
 | [], _, _ => rfl
 | a :: l, s, h => by
  rw [List.foldl_cons, List.foldl_cons, h a List.mem_cons_self]
  exact foldl_same fun x hx => h x (List.mem_cons_of_mem _ hx)
theorem srcF_all {hs : List Sn} (h8 : hs.length ≤ 8) : ∀ (k : Nat) (T : List Nat) (L : List Int) (s : Int × List Int), L.length + k = hs.length → Lk hs T L → srcF hs k T L s = (allC hs k T.length L).foldl updS s
 | 0, T, L, s, hk, h => by
  unfold srcF allC
  rfl
 | k + 1, T, L, s, hk, h => by
  by_cases hs1 : (T.length : Int) ≥ s.1
  · rw [srcF_stop hs1, foldS_stop]
    intro q hq
    have := allC_ge hs (k + 1) _ _ q hq
    omega
  rw [srcF_go hs1]
  unfold foldF
  rw [show hs.length - (k + 1) = L.length by omega]
  unfold allC
  rw [foldl_flat]
  refine foldl_same fun j hj s' => ?_
  have hj := List.mem_range.1 hj
  have hjl : j ≤ T.length := by omega
  unfold stepF
  rw [h.clash hjl (by omega)]
  cases ho : Go.Ab.MkF.okJ hs L j with
  | false => rfl
  | true =>
   rw [if_pos rfl, if_pos rfl, srcF_all h8 k _ _ s' (by simp; omega) (h.join hjl ho), Lk.joinLen hjl]
abbrev cols (hs : List Sn) : List (Nat × List Int) := allC hs hs.length 0 []
theorem srcS_eq {hs : List Sn} (h8 : hs.length ≤ 8) : srcS hs = (cols hs).foldl updS (((hs.length + 1 : Nat) : Int), []) := srcF_all h8 _ _ _ _ (by simp) (Lk.nil hs)
structure Col (hs : List Sn) (m : Nat) (f : Nat → Nat) : Prop where
 lt : ∀ a, a < hs.length → f a < m
 can : ∀ a b, a < b → b < hs.length → f a = f b → pairH hs a b = true
theorem allC_len (hs : List Sn) : ∀ k t L, ∀ q ∈ allC hs k t L, q.2.length = L.length + k
 | 0, t, L, q, h => by simp only [allC, List.mem_singleton] at h; subst h; rfl
 | k + 1, t, L, q, h => by
  simp only [allC, List.mem_flatMap] at h
  obtain ⟨j, _, h⟩ := h
  split at h
  · have := allC_len hs k _ _ q h; rw [this, List.length_append]; simp; omega
  cases h
theorem allC_col (hs : List Sn) : ∀ k t L, (∀ a, a < L.length → ∃ j : Nat, j < t ∧ L.getD a 0 = (j : Int)) → (∀ a b, a < b → b < L.length → L.getD a 0 = L.getD b 0 → pairH hs a b = true) →
  ∀ q ∈ allC hs k t L, (∀ a, a < q.2.length → ∃ j : Nat, j < q.1 ∧ q.2.getD a 0 = (j : Int)) ∧ ∀ a b, a < b → b < q.2.length → q.2.getD a 0 = q.2.getD b 0 → pairH hs a b = true
 | 0, t, L, h1, h2, q, h => by simp only [allC, List.mem_singleton] at h; subst h; exact ⟨h1, h2⟩
 | k + 1, t, L, h1, h2, q, h => by
  simp only [allC, List.mem_flatMap] at h
  obtain ⟨j, hj, h⟩ := h
  have hj := List.mem_range.1 hj
  split at h
  · rename_i ho
    refine allC_col hs k _ _ (fun a ha => ?_) (fun a b hab hb he => ?_) q h
    · rw [List.length_append] at ha
      rcases getD_app (x := (j : Int)) (d := 0) ha with ⟨h3, h4⟩ | ⟨h3, h4⟩
      · obtain ⟨i, hi, h5⟩ := h1 a h3
        exact ⟨i, by omega, by rw [h4, h5]⟩
      exact ⟨j, by omega, h4⟩
    rw [List.length_append] at hb
    have hb : b < L.length + 1 := hb
    rw [getD_app_lt (by omega)] at he
    rcases getD_app (x := (j : Int)) (d := 0) hb with ⟨h3, h4⟩ | ⟨h3, h4⟩
    · exact h2 a b hab h3 (by rw [he, h4])
    subst h3
    exact Lk.okJ.1 ho a hab (by rw [he, h4])
  cases h
theorem allC_least {hs : List Sn} {m : Nat} {f : Nat → Nat} (hf : Col hs m f) : ∀ k t L (g : Nat → Nat), L.length + k = hs.length → (∀ j, j < t → g j < m) → (∀ i j, i < j → j < t → g i ≠ g j) →
  (∀ a, a < L.length → ∃ j : Nat, j < t ∧ L.getD a 0 = (j : Int) ∧ g j = f a) → ∃ q ∈ allC hs k t L, q.1 ≤ m
 | 0, t, L, g, hk, h1, h2, h3 => by
  refine ⟨(t, L), by simp [allC], ?_⟩
  have hn : ((List.range t).map g).Nodup := List.pairwise_map.2 (List.Pairwise.imp_of_mem (fun ha hb hab => h2 _ _ hab (List.mem_range.1 hb)) List.pairwise_lt_range)
  have := List.Nodup.length_le_of_subset (l₂ := List.range m) hn fun x hx => by
   obtain ⟨a, ha, rfl⟩ := List.mem_map.1 hx
   exact List.mem_range.2 (h1 a (List.mem_range.1 ha))
  simpa using this
 | k + 1, t, L, g, hk, h1, h2, h3 => by
  have hiL : L.length < hs.length := by omega
  have key : ∀ (j : Nat) (g' : Nat → Nat), j ≤ t → (∀ i, i < max t (j + 1) → g' i < m) → (∀ i i', i < i' → i' < max t (j + 1) → g' i ≠ g' i') → (∀ i, i < t → g' i = g i) → g' j = f L.length →
    ∃ q ∈ allC hs (k + 1) t L, q.1 ≤ m := by
   intro j g' hj h4 h5 h6 h7
   have ho : okJ hs L j = true := Lk.okJ.2 fun a ha he => by
    obtain ⟨i, hi, h8, h9⟩ := h3 a ha
    have : i = j := by omega
    subst this
    exact hf.can a L.length ha hiL (by rw [← h9, ← h6 i hi, h7])
   obtain ⟨q, hq, hqm⟩ := allC_least hf k (max t (j + 1)) (L ++ [(j : Int)]) g' (by simp; omega) h4 h5 fun a ha => by
    rw [List.length_append] at ha
    rcases getD_app (x := (j : Int)) (d := 0) ha with ⟨h8, h9⟩ | ⟨h8, h9⟩
    · obtain ⟨i, hi, h10, h11⟩ := h3 a h8
      exact ⟨i, by omega, by rw [h9, h10], by rw [h6 i hi, h11]⟩
    subst h8
    exact ⟨j, by omega, h9, h7⟩
   refine ⟨q, ?_, hqm⟩
   simp only [allC, List.mem_flatMap]
   exact ⟨j, List.mem_range.2 (by omega), by rw [if_pos ho]; exact hq⟩
  by_cases he : ∃ j, j < t ∧ g j = f L.length
  · obtain ⟨j, hj, hg⟩ := he
    exact key j g (by omega) (by rw [show max t (j + 1) = t by omega]; exact h1) (by rw [show max t (j + 1) = t by omega]; exact h2) (fun _ _ => rfl) hg
  refine key t (fun i => if i < t then g i else f L.length) (Nat.le_refl _) ?_ ?_ ?_ ?_
  · intro i hi
    show (if i < t then g i else f L.length) < m
    split
    · exact h1 i (by assumption)
    exact hf.lt _ hiL
  · intro i i' hii hi'
    show (if i < t then g i else f L.length) ≠ (if i' < t then g i' else f L.length)
    rw [if_pos (by omega)]
    split
    · exact h2 i i' hii (by assumption)
    exact fun e => he ⟨i, by omega, e⟩
  · exact fun i hi => if_pos hi
  exact if_neg (Nat.lt_irrefl _)
theorem cols_least {hs : List Sn} {m : Nat} {f : Nat → Nat} (hf : Col hs m f) : ∃ q ∈ cols hs, q.1 ≤ m := allC_least hf _ _ _ id (by simp) (fun _ h => absurd h (Nat.not_lt_zero _)) (fun _ _ _ h => absurd h (Nat.not_lt_zero _)) (fun _ h => absurd h (Nat.not_lt_zero _))
theorem cols_col {hs : List Sn} {q : Nat × List Int} (hq : q ∈ cols hs) : q.2.length = hs.length ∧ Col hs q.1 fun a => (q.2.getD a 0).toNat := by
 have hl := allC_len hs _ _ _ q hq
 have hl : q.2.length = hs.length := by rw [hl]; simp
 obtain ⟨h1, h2⟩ := allC_col hs _ 0 [] (fun _ h => absurd h (Nat.not_lt_zero _)) (fun _ _ _ h => absurd h (Nat.not_lt_zero _)) q hq
 refine ⟨hl, fun a ha => ?_, fun a b hab hb he => ?_⟩
 · obtain ⟨j, hj, h3⟩ := h1 a (by omega)
   show (q.2.getD a 0).toNat < _
   rw [h3]; exact hj
 obtain ⟨j, _, h3⟩ := h1 a (by omega)
 obtain ⟨i, _, h4⟩ := h1 b (by omega)
 have he : (q.2.getD a 0).toNat = (q.2.getD b 0).toNat := he
 rw [h3, h4] at he
 exact h2 a b hab (by omega) (by rw [h3, h4]; have : j = i := he; omega)
theorem col_own (hs : List Sn) : Col hs hs.length id := ⟨fun _ h => h, fun a b hab _ he => by have : a = b := he; omega⟩
theorem foldS_spec : ∀ (l : List (Nat × List Int)) (s : Int × List Int), (l.foldl updS s = s ∨ ∃ q ∈ l, l.foldl updS s = ((q.1 : Int), q.2)) ∧ (l.foldl updS s).1 ≤ s.1 ∧ ∀ q ∈ l, (l.foldl updS s).1 ≤ q.1
 | [], s => ⟨.inl rfl, Int.le_refl _, fun q h => absurd h (by simp)⟩
 | a :: l, s => by
  obtain ⟨h1, h2, h3⟩ := foldS_spec l (updS s a)
  rw [List.foldl_cons]
  have hu : (updS s a).1 ≤ s.1 ∧ (updS s a).1 ≤ a.1 ∧ (updS s a = s ∨ updS s a = ((a.1 : Int), a.2)) := by
   unfold updS
   split
   · exact ⟨Int.le_refl _, by omega, .inl rfl⟩
   exact ⟨by show (a.1 : Int) ≤ _; omega, Int.le_refl _, .inr rfl⟩
  refine ⟨?_, by omega, fun q hq => ?_⟩
  · rcases h1 with h1 | ⟨q, hq, h1⟩
    · rw [h1]
      rcases hu.2.2 with h | h
      · exact .inl h
      exact .inr ⟨a, List.mem_cons_self, h⟩
    exact .inr ⟨q, List.mem_cons_of_mem _ hq, h1⟩
  rcases List.mem_cons.1 hq with rfl | hq
  · omega
  exact h3 q hq
theorem srcS_spec {hs : List Sn} (h8 : hs.length ≤ 8) : (∃ q ∈ cols hs, srcS hs = ((q.1 : Int), q.2)) ∧ ∀ m f, Col hs m f → (srcS hs).1 ≤ m := by
 rw [srcS_eq h8]
 obtain ⟨h1, h2, h3⟩ := foldS_spec (cols hs) (((hs.length + 1 : Nat) : Int), [])
 have hle : ∀ m f, Col hs m f → ((cols hs).foldl updS (((hs.length + 1 : Nat) : Int), [])).1 ≤ m := fun m f hf => by
  obtain ⟨q, hq, hm⟩ := cols_least hf
  have := h3 q hq
  omega
 refine ⟨?_, hle⟩
 rcases h1 with h1 | h1
 · have := hle _ _ (col_own hs)
   rw [h1] at this
   have this : ((hs.length + 1 : Nat) : Int) ≤ hs.length := this
   omega
 exact h1
theorem srcS_col {hs : List Sn} (h8 : hs.length ≤ 8) : ∃ m : Nat, (srcS hs).1 = m ∧ (srcS hs).2.length = hs.length ∧ ∃ f, Col hs m f := by
 obtain ⟨⟨q, hq, he⟩, _⟩ := srcS_spec h8
 obtain ⟨h1, h2⟩ := cols_col hq
 exact ⟨q.1, by rw [he], by rw [he]; exact h1, _, h2⟩
theorem srcV_ok {hs : List Sn} (hV : ValidH hs) : srcV hs = ((srcS hs).2, (srcS hs).1, 0) := by unfold srcV; rw [if_pos (chH_valid.2 hV)]
end Go.Ab.MkF
namespace Go.Ab.MkF
open Go Go.Ab Go.Ab.Pln
theorem bits_range {n c : Nat} (hc : c ≤ 64) (hn : n < 2 ^ c) {a : Nat} (h : a ∈ bitsL n) : a < c := by
 rw [bitsL_below hc hn] at h
 exact List.mem_range.1 (List.mem_filter.1 h).1
theorem has_bits {X c k : Nat} (hc : c ≤ 64) (hX : X < 2 ^ c) : ((natsV (bitsL X)).any fun x => x == (k : Int)) = X.testBit k := by
 rw [Bool.eq_iff_iff, ← bitsL_mem hc hX, List.any_eq_true]
 constructor
 · rintro ⟨x, hx, he⟩
   obtain ⟨a, ha, rfl⟩ := List.mem_map.1 hx
   have : a = k := by have := eq_of_beq he; omega
   exact this ▸ ha
 exact fun h => ⟨(k : Int), List.mem_map.2 ⟨k, h, rfl⟩, by simp⟩
theorem restU_test (n : Nat) (l : List Nat) (k : Nat) : ∀ i, i ≤ l.length → (restU n (natsV l) i).testBit k = (decide (k < n) && !(l.take i).contains k)
 | 0, _ => by
  show (2 ^ n - 1).testBit k = _
  rw [Nat.testBit_two_pow_sub_one]; simp
 | i + 1, h => by
  rw [restU_succ (by rw [List.length_map]; omega), less_test, restU_test n l k i (by omega), take_succ' (by omega : i < l.length)]
  simp only [List.getElem_map, Int.toNat_natCast, Nat.testBit_two_pow]
  rw [Bool.eq_iff_iff]
  simp only [Bool.and_eq_true, Bool.not_eq_true', decide_eq_true_eq, decide_eq_false_iff_not, List.contains_eq_mem, List.mem_append, List.mem_singleton, not_or]
  constructor
  · rintro ⟨⟨h1, h2⟩, h3⟩; exact ⟨h1, h2, fun e => h3 e.symm⟩
  rintro ⟨h1, h2, h3⟩; exact ⟨⟨h1, h2⟩, fun e => h3 e.symm⟩
theorem restN_set {hs : List Sn} (h8 : hs.length ≤ 8) {X : Nat} (hX : X < 2 ^ hs.length) : restN hs (natsV (bitsL X)) = less (2 ^ hs.length - 1) X := by
 apply Nat.eq_of_testBit_eq
 intro k
 unfold restN
 rw [List.length_map, restU_test _ _ _ _ (Nat.le_refl _), List.take_length, rest_test]
 congr 2
 rw [Bool.eq_iff_iff, List.contains_iff_mem, bitsL_mem (c := hs.length) (by omega) hX]
theorem asc_set {X c : Nat} (hc : c ≤ 64) (hX : X < 2 ^ c) : ascAll (natsV (bitsL X)) = true := by
 unfold ascAll
 rw [List.all_eq_true]
 intro i hi
 have hi := List.mem_range.1 hi
 rw [List.length_map] at hi
 unfold ascB
 cases i with
 | zero => rfl
 | succ i =>
  have h := List.pairwise_iff_getElem.1 (bits_asc hc hX) i (i + 1) (by omega) hi (by omega)
  rw [getD_at (by simpa using hi), Nat.add_sub_cancel, getD_at (by simp; omega), List.getElem_map, List.getElem_map]
  simp
  omega
theorem restE_set {hs : List Sn} (hV : ValidH hs) {X : Nat} (hX : X < 2 ^ hs.length) : restE hs (natsV (bitsL X)) = 0 := by
 have h8 := hV.n8
 unfold restE
 rw [if_pos (chH_valid.2 hV), asc_set (c := hs.length) (by omega) hX]
 rw [if_neg, if_pos rfl]
 rw [Bool.not_eq_true, List.any_eq_false]
 intro x hx
 obtain ⟨a, ha, rfl⟩ := List.mem_map.1 hx
 have := bits_range (c := hs.length) (by omega) hX ha
 unfold outB
 simp
 omega
theorem proV_set {hs : List Sn} (hV : ValidH hs) {X : Nat} (hX : X < 2 ^ hs.length) : proV hs (natsV (bitsL X)) = match clR hs (less (2 ^ hs.length - 1) X) with
  | some (a, b) => ((a : Int), (b : Int), 0)
  | none => (0, 0, 8) := by
 unfold proV
 rw [if_pos (restE_set hV hX), restN_set hV.n8 hX]
 cases clR hs (less (2 ^ hs.length - 1) X) <;> rfl
abbrev mustH (hs : List Sn) : Nat := allU hs.length (setsH hs) (setsH hs).length
abbrev mayH (hs : List Sn) : Nat := someU (setsH hs) (setsH hs).length
def someL (b n : Nat) : List Nat := (List.range n).filter b.testBit
end Go.Ab.MkF
namespace Go.Ab.MkF
open Go Go.Ab Go.Ab.Pln
theorem pairX_iff {x y : Sn} : pairX x y = true ↔ (x.1 = y.1 ∨ x.1 * y.1 = 0) ∧ x.2.1 ≤ y.2.2 ∧ y.2.1 ≤ x.2.2 := by
 unfold pairX
 simp [and_assoc]
theorem pairX_comm (x y : Sn) : pairX x y = pairX y x := by
 rw [Bool.eq_iff_iff, pairX_iff, pairX_iff, Int.mul_comm]
 constructor <;> rintro ⟨h1, h2, h3⟩ <;> exact ⟨h1.imp Eq.symm id, h3, h2⟩
structure Blur (x y : Sn) : Prop where
 kind : y.1 = x.1 ∨ y.1 = 0
 lo : y.2.1 ≤ x.2.1
 hi : x.2.2 ≤ y.2.2
theorem Blur.pair {x y z : Sn} (h : Blur x y) (hp : pairX x z = true) : pairX y z = true := by
 rw [pairX_iff] at hp ⊢
 obtain ⟨h1, h2, h3⟩ := hp
 have := h.lo
 have := h.hi
 refine ⟨?_, by omega, by omega⟩
 rcases h.kind with e | e
 · rw [e]; exact h1
 rw [e]; simp
theorem snE_zero {x : Sn} (h1 : 0 ≤ x.1 ∧ x.1 ≤ 2) (h2 : 1 ≤ x.2.1) (h3 : x.2.1 ≤ x.2.2) (h4 : x.2.2 ≤ 600) : snE x = 0 := by
 unfold snE
 rw [if_neg, if_neg (by omega)]
 simp only [List.any_cons, List.any_nil, Bool.or_false, Bool.or_eq_true, outB, decide_eq_true_eq]
 omega
def blurV (x : Sn) (a b : Int) : Sn := (if a > b then 0 else x.1, max 1 (x.2.1 - a), min 600 (x.2.2 + b))
end Go.Ab.MkF
namespace Go.Ab.MkF
open Go Go.Ab Go.Ab.Pln
def comS (hs : List Sn) (s : Int × Int × Int) (x : Nat) : Int × Int × Int := (max s.1 (hs.getD x sn0).1, max s.2.1 (hs.getD x sn0).2.1, min s.2.2 (hs.getD x sn0).2.2)
def comU (hs : List Sn) (l : List Nat) (i : Nat) : Int × Int × Int := (l.take i).foldl (comS hs) (0, 1, 600)
def offB (hs : List Sn) (s : Int × Int × Int) (x : Nat) : Bool := decide ((hs.getD x sn0).1 > 0) && decide (s.1 > 0) && ((hs.getD x sn0).1 != s.1)
def offU (hs : List Sn) (l : List Nat) (i : Nat) : Bool := (List.range i).any fun k => offB hs (comU hs l k) (l.getD k 0)
def comV (hs : List Sn) (l : List Nat) : Int × Int := if offU hs l l.length = true then (1, 0) else (comU hs l l.length).2
theorem comU_succ {hs : List Sn} {l : List Nat} {i : Nat} (h : i < l.length) : comU hs l (i + 1) = comS hs (comU hs l i) l[i] := by unfold comU; rw [take_succ' h, List.foldl_append]; rfl
theorem offU_succ {hs : List Sn} {l : List Nat} {i : Nat} (h : i < l.length) : offU hs l (i + 1) = (offU hs l i || offB hs (comU hs l i) l[i]) := by
 unfold offU; rw [List.range_succ, List.any_append, ← getD_at (d := 0) h]; simp
theorem com_lo (hs : List Sn) (l : List Nat) (v : Int) : ∀ i, i ≤ l.length → ((comU hs l i).2.1 ≤ v ↔ 1 ≤ v ∧ ∀ x ∈ l.take i, (hs.getD x sn0).2.1 ≤ v)
 | 0, _ => by show (1 : Int) ≤ v ↔ _; simp
 | i + 1, h => by
  have ih := com_lo hs l v i (by omega)
  rw [comU_succ (by omega), take_succ' (by omega : i < l.length)]
  show max _ _ ≤ v ↔ _
  rw [Int.max_le, ih]
  constructor
  · rintro ⟨⟨h1, h2⟩, h3⟩
    refine ⟨h1, fun x hx => ?_⟩
    rcases List.mem_append.1 hx with hx | hx
    · exact h2 x hx
    rw [List.mem_singleton] at hx; subst hx; exact h3
  rintro ⟨h1, h2⟩
  exact ⟨⟨h1, fun x hx => h2 x (List.mem_append_left _ hx)⟩, h2 _ (List.mem_append_right _ (List.mem_singleton.2 rfl))⟩
theorem com_hi (hs : List Sn) (l : List Nat) (v : Int) : ∀ i, i ≤ l.length → (v ≤ (comU hs l i).2.2 ↔ v ≤ 600 ∧ ∀ x ∈ l.take i, v ≤ (hs.getD x sn0).2.2)
 | 0, _ => by show v ≤ (600 : Int) ↔ _; simp
 | i + 1, h => by
  have ih := com_hi hs l v i (by omega)
  rw [comU_succ (by omega), take_succ' (by omega : i < l.length)]
  show v ≤ min _ _ ↔ _
  rw [Int.le_min, ih]
  constructor
  · rintro ⟨⟨h1, h2⟩, h3⟩
    refine ⟨h1, fun x hx => ?_⟩
    rcases List.mem_append.1 hx with hx | hx
    · exact h2 x hx
    rw [List.mem_singleton] at hx; subst hx; exact h3
  rintro ⟨h1, h2⟩
  exact ⟨⟨h1, fun x hx => h2 x (List.mem_append_left _ hx)⟩, h2 _ (List.mem_append_right _ (List.mem_singleton.2 rfl))⟩
def kinB (a b : Int) : Bool := a == b || a * b == 0
theorem kinB_iff {a b : Int} : kinB a b = true ↔ a = b ∨ a = 0 ∨ b = 0 := by
 unfold kinB
 rw [Bool.or_eq_true, beq_iff_eq, beq_iff_eq, Int.mul_eq_zero]
theorem kmax {K c x : Int} (hK : 0 ≤ K) (hc : 0 ≤ c) (hb : c = 0 ∨ K = 0 ∨ c = K) (h : x = 0 ∨ x = K) : x = 0 ∨ x = max K c := by omega
theorem kmax2 {K c : Int} (_hK : 0 ≤ K) (hc : 0 ≤ c) (hb : c = 0 ∨ K = 0 ∨ c = K) : c = 0 ∨ c = max K c := by omega
theorem com_kind {hs : List Sn} {l : List Nat} (hk : ∀ x ∈ l, 0 ≤ (hs.getD x sn0).1) : ∀ i, i ≤ l.length → 0 ≤ (comU hs l i).1 ∧
  (offU hs l i = false → (∀ x ∈ l.take i, (hs.getD x sn0).1 = 0 ∨ (hs.getD x sn0).1 = (comU hs l i).1) ∧ ((comU hs l i).1 = 0 ∨ ∃ x ∈ l.take i, (hs.getD x sn0).1 = (comU hs l i).1)) ∧
  (offU hs l i = true → ∃ x ∈ l.take i, ∃ y ∈ l.take i, kinB (hs.getD x sn0).1 (hs.getD y sn0).1 = false)
 | 0, _ => ⟨Int.le_refl _, fun _ => ⟨fun x hx => by simp at hx, .inl rfl⟩, fun h => by simp [offU] at h⟩
 | i + 1, h => by
  obtain ⟨h0, h1, h2⟩ := com_kind hk i (by omega)
  have hi : i < l.length := by omega
  have hx0 := hk _ (List.getElem_mem hi)
  have hm : ∀ {x}, x ∈ l.take i → x ∈ l.take (i + 1) := fun hx => by rw [take_succ' hi]; exact List.mem_append_left _ hx
  have hme : l[i] ∈ l.take (i + 1) := by rw [take_succ' hi]; exact List.mem_append_right _ (List.mem_singleton.2 rfl)
  have hc : (comU hs l (i + 1)).1 = max (comU hs l i).1 (hs.getD l[i] sn0).1 := by rw [comU_succ hi]; rfl
  have hof : offB hs (comU hs l i) l[i] = (decide ((hs.getD l[i] sn0).1 > 0) && decide ((comU hs l i).1 > 0) && ((hs.getD l[i] sn0).1 != (comU hs l i).1)) := rfl
  rw [hc, offU_succ hi, hof]
  generalize (comU hs l i).1 = K at *
  generalize hcc : (hs.getD l[i] sn0).1 = c at *
  refine ⟨by omega, fun hf => ?_, fun ht => ?_⟩
  · rw [Bool.or_eq_false_iff] at hf
    obtain ⟨g1, g2⟩ := h1 hf.1
    have hb := hf.2
    have hb2 : c = 0 ∨ K = 0 ∨ c = K := by
     simp at hb
     clear h1 h2 g1 g2
     omega
    refine ⟨fun x hx => ?_, ?_⟩
    · rw [take_succ' hi] at hx
      rcases List.mem_append.1 hx with hx | hx
      · exact kmax h0 hx0 hb2 (g1 x hx)
      rw [List.mem_singleton] at hx; subst hx; rw [hcc]; exact kmax2 h0 hx0 hb2
    rcases Int.lt_or_le K c with hlt | hle
    · exact .inr ⟨l[i], hme, hcc.trans (Int.max_eq_right (Int.le_of_lt hlt)).symm⟩
    rw [Int.max_eq_left hle]
    exact g2.imp id fun ⟨x, hx, e⟩ => ⟨x, hm hx, e⟩
  cases hf : offU hs l i with
  | true =>
   obtain ⟨x, hx, y, hy, hxy⟩ := h2 hf
   exact ⟨x, hm hx, y, hm hy, hxy⟩
  | false =>
   rw [hf, Bool.false_or] at ht
   obtain ⟨_, g2⟩ := h1 hf
   rw [Bool.and_eq_true, Bool.and_eq_true, decide_eq_true_eq, decide_eq_true_eq, bne_iff_ne] at ht
   obtain ⟨⟨ht1, ht2⟩, ht3⟩ := ht
   rcases g2 with e | ⟨x, hx, e⟩
   · exfalso; clear h1 h2; omega
   refine ⟨x, hm hx, l[i], hme, ?_⟩
   rw [Bool.eq_false_iff, Ne, kinB_iff, e, hcc]
   clear h1 h2
   omega
theorem pairH_kin {hs : List Sn} {x y : Nat} : pairH hs x y = true ↔ kinB (hs.getD x sn0).1 (hs.getD y sn0).1 = true ∧ (hs.getD x sn0).2.1 ≤ (hs.getD y sn0).2.2 ∧ (hs.getD y sn0).2.1 ≤ (hs.getD x sn0).2.2 := by
 unfold pairH pairX kinB
 simp [and_assoc]
theorem sn_at {hs : List Sn} (hV : ValidH hs) {x : Nat} (hx : x < hs.length) : (0 ≤ (hs.getD x sn0).1 ∧ (hs.getD x sn0).1 ≤ 2) ∧ 1 ≤ (hs.getD x sn0).2.1 ∧ (hs.getD x sn0).2.1 ≤ (hs.getD x sn0).2.2 ∧ (hs.getD x sn0).2.2 ≤ 600 := by
 rw [getD_at hx]; exact hV.sn hx
theorem one_iff {hs : List Sn} (hV : ValidH hs) {l : List Nat} (hl : ∀ x ∈ l, x < hs.length) : (comV hs l).1 ≤ (comV hs l).2 ↔ ∀ x ∈ l, ∀ y ∈ l, pairH hs x y = true := by
 have hk : ∀ x ∈ l, 0 ≤ (hs.getD x sn0).1 := fun x hx => (sn_at hV (hl x hx)).1.1
 obtain ⟨_, h1, h2⟩ := com_kind hk l.length (Nat.le_refl _)
 rw [List.take_length] at h1 h2
 unfold comV
 cases hf : offU hs l l.length with
 | true =>
  obtain ⟨x, hx, y, hy, hxy⟩ := h2 hf
  constructor
  · intro h
    exact absurd (show (1 : Int) ≤ 0 from h) (by decide)
  intro h
  have := (pairH_kin.1 (h x hx y hy)).1
  rw [hxy] at this; cases this
 | false =>
  obtain ⟨g1, g2⟩ := h1 hf
  have hlo := com_lo hs l (comU hs l l.length).2.2 l.length (Nat.le_refl _)
  have hhi : ∀ v, v ≤ (comU hs l l.length).2.2 ↔ _ := fun v => com_hi hs l v l.length (Nat.le_refl _)
  rw [List.take_length] at hlo
  simp only [List.take_length] at hhi
  show (comU hs l l.length).2.1 ≤ (comU hs l l.length).2.2 ↔ _
  rw [hlo, hhi]
  constructor
  · rintro ⟨_, h3⟩ x hx y hy
    have h4 := ((hhi _).1 (h3 x hx)).2 y hy
    have h5 := ((hhi _).1 (h3 y hy)).2 x hx
    refine pairH_kin.2 ⟨kinB_iff.2 ?_, h4, h5⟩
    rcases g1 x hx with e | e
    · exact .inr (.inl e)
    rcases g1 y hy with e2 | e2
    · exact .inr (.inr e2)
    exact .inl (by rw [e, e2])
  intro h
  refine ⟨⟨by decide, fun x hx => ?_⟩, fun x hx => (hhi _).2 ⟨?_, fun y hy => (pairH_kin.1 (h x hx y hy)).2.1⟩⟩
  · have := sn_at hV (hl x hx); omega
  have := sn_at hV (hl x hx); omega
def oneB (hs : List Sn) (l : List Nat) : Bool := decide ((comV hs l).1 ≤ (comV hs l).2)
theorem pairH_self {hs : List Sn} (hV : ValidH hs) {x : Nat} (hx : x < hs.length) : pairH hs x x = true := by
 have := sn_at hV hx
 exact pairH_kin.2 ⟨kinB_iff.2 (.inl rfl), by omega, by omega⟩
theorem pairH_comm (hs : List Sn) (x y : Nat) : pairH hs x y = pairH hs y x := pairX_comm _ _
theorem one_bits {hs : List Sn} (hV : ValidH hs) {X : Nat} (hX : X < 2 ^ hs.length) : oneB hs (bitsL X) = (clR hs X).isNone := by
 have h8 := hV.n8
 unfold oneB
 rw [Bool.eq_iff_iff, decide_eq_true_eq, one_iff hV (fun x hx => bits_range (c := hs.length) (by omega) hX hx), Option.isNone_iff_eq_none, clR_none (c := hs.length) (by omega) hX]
 constructor
 · exact fun h a b hab ha hb => h a ((bitsL_mem (by omega) hX).2 ha) b ((bitsL_mem (by omega) hX).2 hb)
 intro h x hx y hy
 have hx' := (bitsL_mem (c := hs.length) (by omega) hX).1 hx
 have hy' := (bitsL_mem (c := hs.length) (by omega) hX).1 hy
 rcases Nat.lt_trichotomy x y with hxy | rfl | hxy
 · exact h x y hxy hx' hy'
 · exact pairH_self hV (bits_range (by omega) hX hx)
 rw [pairH_comm]; exact h y x hxy hy' hx'
theorem tal_lo (hs : List Sn) (l : List Nat) (v : Int) : ∀ i, i ≤ l.length → ((talU hs l i).1 ≤ v ↔ 0 ≤ v ∧ ∀ x ∈ l.take i, (hs.getD x sn0).2.1 ≤ v)
 | 0, _ => by show (0 : Int) ≤ v ↔ _; simp
 | i + 1, h => by
  have ih := tal_lo hs l v i (by omega)
  rw [talU_succ (by omega), take_succ' (by omega : i < l.length)]
  show max _ _ ≤ v ↔ _
  rw [Int.max_le, ih]
  constructor
  · rintro ⟨⟨h1, h2⟩, h3⟩
    refine ⟨h1, fun x hx => ?_⟩
    rcases List.mem_append.1 hx with hx | hx
    · exact h2 x hx
    rw [List.mem_singleton] at hx; subst hx; exact h3
  rintro ⟨h1, h2⟩
  exact ⟨⟨h1, fun x hx => h2 x (List.mem_append_left _ hx)⟩, h2 _ (List.mem_append_right _ (List.mem_singleton.2 rfl))⟩
theorem tal_hi (hs : List Sn) (l : List Nat) : ∀ i, i ≤ l.length → (talU hs l i).2 = (comU hs l i).2.2
 | 0, _ => rfl
 | i + 1, h => by
  rw [talU_succ (by omega), comU_succ (by omega)]
  show min _ _ = min _ _
  rw [tal_hi hs l i (by omega)]
theorem tal_com {hs : List Sn} (hV : ValidH hs) {l : List Nat} (hl : ∀ x ∈ l, x < hs.length) (hne : l ≠ []) : (talU hs l l.length).1 = (comU hs l l.length).2.1 := by
 have h1 := fun v => tal_lo hs l v l.length (Nat.le_refl _)
 have h2 := fun v => com_lo hs l v l.length (Nat.le_refl _)
 simp only [List.take_length] at h1 h2
 have key : ∀ v, (talU hs l l.length).1 ≤ v ↔ (comU hs l l.length).2.1 ≤ v := fun v => by
  rw [h1, h2]
  constructor
  · rintro ⟨_, h⟩
    obtain ⟨x, r, rfl⟩ := List.exists_cons_of_ne_nil hne
    have h3 := h x List.mem_cons_self
    have := sn_at hV (hl x List.mem_cons_self)
    exact ⟨by omega, h⟩
  rintro ⟨h3, h⟩; exact ⟨by omega, h⟩
 have a := (key _).1 (Int.le_refl _)
 have b := (key _).2 (Int.le_refl _)
 omega
end Go.Ab.MkF
namespace Go.Ab.MkF
open Go Go.Ab Go.Ab.Pln
def restL (n : Nat) (told : List Int) : List Nat := (List.range n).filter fun k => !(told.any fun x => x == (k : Int))
def tolK (e : Int) (n : Nat) (told : List Int) (i : Nat) : Int := if e ≠ 0 then e else if (told.take i).any (outB 0 ((n : Int) - 1)) then 4 else 0
def ascK (e : Int) (told : List Int) (i : Nat) : Int := if e ≠ 0 then e else if ((List.range i).all fun j => !ascB told j) then 0 else 2
abbrev tolE (hs : List Sn) (told : List Int) : Int := tolK (chHE hs) hs.length told told.length
structure Told (hs : List Sn) (told : List Int) (l : List Nat) : Prop where
 V : ValidH hs
 eq : told = natsV l
 lt : ∀ x ∈ l, x < hs.length
 asc : l.Pairwise (· < ·)
theorem Told.nodup {hs : List Sn} {told : List Int} {l : List Nat} (h : Told hs told l) : l.Nodup := h.asc.imp fun hab => by omega
theorem any_nats (l : List Nat) (k : Nat) : ((natsV l).any fun x => x == (k : Int)) = l.contains k := by
 rw [Bool.eq_iff_iff, List.any_eq_true, List.contains_iff_mem]
 constructor
 · rintro ⟨x, hx, he⟩
   obtain ⟨a, ha, rfl⟩ := List.mem_map.1 hx
   have : a = k := by have := eq_of_beq he; omega
   exact this ▸ ha
 exact fun h => ⟨(k : Int), List.mem_map.2 ⟨k, h, rfl⟩, by simp⟩
theorem Told.rest {hs : List Sn} {told : List Int} {l : List Nat} (h : Told hs told l) : restL hs.length told = bitsL (restN hs told) := by
 have h8 := h.V.n8
 rw [bitsL_below (c := hs.length) (by omega) (restN_lt hs told)]
 unfold restL
 apply List.filter_congr
 intro k hk
 rw [h.eq, any_nats]
 unfold restN
 rw [List.length_map, restU_test _ _ _ _ (Nat.le_refl _), List.take_length, decide_eq_true (List.mem_range.1 hk), Bool.true_and]
theorem Told.len {hs : List Sn} {told : List Int} {l : List Nat} (h : Told hs told l) : told.length ≤ hs.length := by
 rw [h.eq, List.length_map]
 have := List.Nodup.length_le_of_subset (l₂ := List.range hs.length) h.nodup fun x hx => List.mem_range.2 (h.lt x hx)
 simpa using this
theorem Told.all {hs : List Sn} {told : List Int} {l : List Nat} (h : Told hs told l) : told.length = hs.length ↔ restL hs.length told = [] := by
 have hll : told.length = l.length := by rw [h.eq, List.length_map]
 constructor
 · intro he
   unfold restL
   rw [List.filter_eq_nil_iff]
   intro k hk hn
   rw [h.eq, any_nats] at hn
   have hk := List.mem_range.1 hk
   have hnk : k ∉ l := fun hm => by rw [List.contains_iff_mem.2 hm] at hn; cases hn
   have := List.Nodup.length_le_of_subset (l₁ := k :: l) (l₂ := List.range hs.length) (List.nodup_cons.2 ⟨hnk, h.nodup⟩) fun x hx => by
    rcases List.mem_cons.1 hx with rfl | hx
    · exact List.mem_range.2 hk
    exact List.mem_range.2 (h.lt x hx)
   simp at this
   omega
 intro he
 have hle := h.len
 have := List.Nodup.length_le_of_subset (l₁ := List.range hs.length) (l₂ := l) List.nodup_range fun x hx => by
  unfold restL at he
  rw [List.filter_eq_nil_iff] at he
  have := he x hx
  rw [h.eq, any_nats] at this
  simpa using this
 simp at this
 omega
theorem one_rest {hs : List Sn} {told : List Int} {l : List Nat} (h : Told hs told l) : oneB hs (restL hs.length told) = (clR hs (restN hs told)).isNone := by
 rw [h.rest, one_bits h.V (restN_lt hs told)]
theorem talV_ok {hs : List Sn} {told : List Int} {l : List Nat} (hk : restE hs told = 0) (h : Told hs told l) (hn : told.length ≠ hs.length) (ho : oneB hs (restL hs.length told) = true) :
  talV hs told = ((comV hs (restL hs.length told)).1, (comV hs (restL hs.length told)).2, 0) := by
 have h8 := h.V.n8
 have hne : restL hs.length told ≠ [] := fun e => hn (h.all.2 e)
 have hx : ∀ x ∈ restL hs.length told, x < hs.length := fun x hx => by
  rw [h.rest] at hx; exact bits_range (by omega) (restN_lt hs told) hx
 have hc := h.rest
 have h0 : (restN hs told == 0) = false := by
  rw [Bool.eq_false_iff]
  intro e
  exact hne (by rw [hc, eq_of_beq e]; rfl)
 have hio : (clR hs (restN hs told)).isSome = false := by
  rw [one_rest h] at ho
  cases hcl : clR hs (restN hs told) with
  | none => rfl
  | some p => rw [hcl] at ho; cases ho
 unfold talV
 rw [if_pos hk, hio, h0, if_neg (by simp), ← hc, tal_com h.V hx hne, tal_hi _ _ _ (Nat.le_refl _)]
 unfold oneB at ho
 have ho := of_decide_eq_true ho
 unfold comV at ho ⊢
 cases hf : offU hs (restL hs.length told) (restL hs.length told).length with
 | true => rw [hf] at ho; exact absurd (show (1 : Int) ≤ 0 from ho) (by decide)
 | false => rfl
end Go.Ab.MkF
namespace Go.Ab.MkF
open Go Go.Ab Go.Ab.Pln
def refS (hs : List Sn) (most : Nat) : Nat → Nat → List Int → Option (List Int)
 | 0, _, L => some L
 | k + 1, t, L => (List.range (min most (t + 1))).findSome? fun j => if okJ hs L j then refS hs most k (max t (j + 1)) (L ++ [(j : Int)]) else none
def manyN (L : List Int) (i : Nat) : Nat := ((List.range i).filter fun k => !((L.take k).any fun x => x == L.getD k 0)).length
theorem manyN_succ (L : List Int) (i : Nat) : manyN L (i + 1) = manyN L i + if ((L.take i).any fun x => x == L.getD i 0) = true then 0 else 1 := by
 unfold manyN
 rw [List.range_succ, List.filter_append, List.length_append, List.filter_cons, List.filter_nil]
 cases (L.take i).any fun x => x == L.getD i 0 <;> rfl
theorem manyN_app (L : List Int) (x : Int) : ∀ i, i ≤ L.length → manyN (L ++ [x]) i = manyN L i
 | 0, _ => rfl
 | i + 1, h => by
  rw [manyN_succ, manyN_succ, manyN_app L x i (by omega), List.take_append_of_le_length (by omega), getD_app_lt (by omega)]
structure Rg (hs : List Sn) (t : Nat) (L : List Int) : Prop where
 val : ∀ a, a < L.length → ∃ j : Nat, j < t ∧ L.getD a 0 = (j : Int)
 onto : ∀ j, j < t → ∃ a, a < L.length ∧ L.getD a 0 = (j : Int)
 can : ∀ a b, a < b → b < L.length → L.getD a 0 = L.getD b 0 → pairH hs a b = true
 many : manyN L L.length = t
 le : t ≤ L.length
theorem Rg.nil (hs : List Sn) : Rg hs 0 [] := ⟨fun _ h => absurd h (Nat.not_lt_zero _), fun _ h => absurd h (Nat.not_lt_zero _), fun _ _ _ h => absurd h (Nat.not_lt_zero _), rfl, Nat.le_refl _⟩
theorem Rg.add {hs : List Sn} {t : Nat} {L : List Int} (h : Rg hs t L) {j : Nat} (hj : j ≤ t) (ho : okJ hs L j = true) : Rg hs (max t (j + 1)) (L ++ [(j : Int)]) := by
 have hlen : (L ++ [(j : Int)]).length = L.length + 1 := by simp
 refine ⟨fun a ha => ?_, fun q hq => ?_, fun a b hab hb he => ?_, ?_, by rw [hlen]; have := h.le; omega⟩
 · rw [hlen] at ha
   rcases getD_app (x := (j : Int)) (d := 0) ha with ⟨h1, h2⟩ | ⟨_, h2⟩
   · obtain ⟨q, hq, h3⟩ := h.val a h1
     exact ⟨q, by omega, by rw [h2, h3]⟩
   exact ⟨j, by omega, h2⟩
 · rw [hlen]
   rcases Nat.lt_or_ge q t with h1 | h1
   · obtain ⟨a, ha, h2⟩ := h.onto q h1
     exact ⟨a, by omega, by rw [getD_app_lt ha, h2]⟩
   exact ⟨L.length, by omega, by rw [getD_app_at]; omega⟩
 · rw [hlen] at hb
   rw [getD_app_lt (by omega)] at he
   rcases getD_app (x := (j : Int)) (d := 0) hb with ⟨h3, h4⟩ | ⟨h3, h4⟩
   · exact h.can a b hab h3 (by rw [← h4]; exact he)
   subst h3
   exact Lk.okJ.1 ho a hab (by rw [he, h4])
 rw [hlen, manyN_succ, manyN_app L _ _ (Nat.le_refl _), h.many, getD_app_at, List.take_append_of_le_length (Nat.le_refl _), List.take_length]
 have hany : (L.any fun x => x == (j : Int)) = decide (j < t) := by
  rw [Bool.eq_iff_iff, List.any_eq_true, decide_eq_true_eq]
  constructor
  · rintro ⟨x, hx, he⟩
    obtain ⟨a, ha, rfl⟩ := List.getElem_of_mem hx
    obtain ⟨q, hq, h3⟩ := h.val a ha
    rw [getD_at ha] at h3
    have := eq_of_beq he
    omega
  intro hlt
  obtain ⟨a, ha, h3⟩ := h.onto j hlt
  rw [getD_at ha] at h3
  exact ⟨_, List.getElem_mem ha, by rw [h3]; simp⟩
 rw [hany]
 by_cases hlt : j < t
 · rw [if_pos (decide_eq_true hlt)]; omega
 rw [if_neg (by simpa using hlt)]; omega
def clsL (L : List Int) (n i : Nat) : List Nat := (List.range i).filter fun k => L.getD k 0 == (n : Int)
def splB (hs : List Sn) (L : List Int) (i : Nat) : Bool := (List.range i).all fun n => oneB hs (clsL L n L.length)
end Go.Ab.MkF
namespace Go.Ab.MkF
open Go Go.Ab Go.Ab.Pln
def turnN (l : List Int) (n : Nat) : Nat := if l.length = 0 then 0 else (l.getD (n % l.length) 0).toNat
structure Bytes (l : List Int) : Prop where
 n : l.length ≤ 9223372036854775807
 b : ∀ y ∈ l, 0 ≤ y ∧ y ≤ 255
theorem turnN_le {l : List Int} (h : Bytes l) (n : Nat) : turnN l n ≤ 255 := by
 unfold turnN
 split
 · omega
 have hm : n % l.length < l.length := Nat.mod_lt _ (by omega)
 rw [getD_at hm]
 have := h.b _ (List.getElem_mem hm)
 omega
def truL (fr : List Int) (m : Nat) : List Nat := (List.range m).map fun i => turnN fr i % 3
theorem truL_len (fr : List Int) (m : Nat) : (truL fr m).length = m := by simp [truL]
def tallN (tl : List Int) (f : Nat) : Nat := 150 + turnN tl f
def leafT (tl kd se : List Int) (F : List Nat) (i : Nat) : Sn :=
 (if turnN se i % 5 = 4 then 0 else ((1 + turnN kd (F.getD i 0) % 2 : Nat) : Int), (tallN tl (F.getD i 0) : Int) - ((turnN se (2 * i) % 6 : Nat) : Int), (tallN tl (F.getD i 0) : Int) + ((turnN se (2 * i + 1) % 6 : Nat) : Int))
def handT (tl kd se : List Int) (F : List Nat) (i : Nat) : List Sn := (List.range i).map (leafT tl kd se F)
theorem handT_len (tl kd se : List Int) (F : List Nat) (i : Nat) : (handT tl kd se F i).length = i := by simp [handT]
theorem handT_get {tl kd se : List Int} {F : List Nat} {i a : Nat} (h : a < i) : (handT tl kd se F i).getD a sn0 = leafT tl kd se F a := by
 rw [getD_at (by rw [handT_len]; exact h)]; simp [handT]
section
variable {tl kd se : List Int} (ht : Bytes tl) (F : List Nat)
include ht
theorem tallN_le (f : Nat) : 150 ≤ tallN tl f ∧ tallN tl f ≤ 405 := by
 have := turnN_le ht f
 unfold tallN; omega
theorem leafT_ok (a : Nat) : snE (leafT tl kd se F a) = 0 := by
 have := tallN_le ht (F.getD a 0)
 have h1 := Nat.mod_lt (turnN se (2 * a)) (show 6 > 0 by omega)
 have h2 := Nat.mod_lt (turnN se (2 * a + 1)) (show 6 > 0 by omega)
 have h3 := Nat.mod_lt (turnN kd (F.getD a 0)) (show 2 > 0 by omega)
 refine snE_zero ?_ ?_ ?_ ?_ <;> unfold leafT
 · dsimp only; split <;> omega
 · dsimp only; omega
 · dsimp only; omega
 dsimp only; omega
theorem handT_valid (h1 : 1 ≤ F.length) (h8 : F.length ≤ 8) : ValidH (handT tl kd se F F.length) := by
 refine ⟨by rw [handT_len]; exact h1, by rw [handT_len]; exact h8, fun i hi => ?_⟩
 rw [handT_len] at hi
 unfold snF
 rw [handT_get hi]
 exact leafT_ok ht F i
omit ht in
theorem handT_in {a : Nat} (h : a < F.length) : ((handT tl kd se F F.length).getD a sn0).2.1 ≤ tallN tl (F.getD a 0) ∧ (tallN tl (F.getD a 0) : Int) ≤ ((handT tl kd se F F.length).getD a sn0).2.2 := by
 rw [handT_get h]
 unfold leafT
 dsimp only
 omega
omit ht in
theorem handT_pair {a b : Nat} (ha : a < F.length) (hb : b < F.length) (he : F.getD a 0 = F.getD b 0) : pairH (handT tl kd se F F.length) a b = true := by
 have h1 := handT_in (tl := tl) (kd := kd) (se := se) F ha
 have h2 := handT_in (tl := tl) (kd := kd) (se := se) F hb
 rw [he] at h1
 refine pairH_kin.2 ⟨kinB_iff.2 ?_, by omega, by omega⟩
 rw [handT_get ha, handT_get hb]
 unfold leafT
 rw [he]
 dsimp only
 split
 · exact .inr (.inl rfl)
 split
 · exact .inr (.inr rfl)
 exact .inl rfl
end
theorem col_of (L : List Int) : ∀ i, i ≤ L.length → ∃ f : Nat → Nat, (∀ a, a < i → f a < manyN L i) ∧ ∀ a b, a < i → b < i → f a = f b → L.getD a 0 = L.getD b 0
 | 0, _ => ⟨id, fun a h => absurd h (Nat.not_lt_zero _), fun a b h => absurd h (Nat.not_lt_zero _)⟩
 | i + 1, h => by
  obtain ⟨f, h1, h2⟩ := col_of L i (by omega)
  have hs := manyN_succ L i
  by_cases hm : ((L.take i).any fun x => x == L.getD i 0) = true
  · rw [if_pos hm] at hs
    obtain ⟨x, hx, he⟩ := List.any_eq_true.1 hm
    obtain ⟨b, hb, rfl⟩ := List.getElem_of_mem hx
    rw [List.length_take] at hb
    have he : L.getD b 0 = L.getD i 0 := by
     rw [List.getElem_take] at he
     rw [getD_at (by omega : b < L.length)]
     exact eq_of_beq he
    have hbi : b < i := by omega
    refine ⟨fun a => if a < i then f a else f b, fun a ha => ?_, fun a c ha hc hac => ?_⟩
    · show (if a < i then f a else f b) < _
      rw [hs]
      split
      · exact h1 a (by assumption)
      exact h1 b hbi
    have hac : (if a < i then f a else f b) = if c < i then f c else f b := hac
    rcases Nat.lt_or_ge a i with g1 | g1 <;> rcases Nat.lt_or_ge c i with g2 | g2
    · rw [if_pos g1, if_pos g2] at hac; exact h2 a c g1 g2 hac
    · rw [if_pos g1, if_neg (by omega)] at hac
      rw [show c = i by omega, ← he]; exact h2 a b g1 hbi hac
    · rw [if_neg (by omega), if_pos g2] at hac
      rw [show a = i by omega, ← he]; exact h2 b c hbi g2 hac
    rw [show a = i by omega, show c = i by omega]
  rw [if_neg hm] at hs
  refine ⟨fun a => if a < i then f a else manyN L i, fun a ha => ?_, fun a c ha hc hac => ?_⟩
  · show (if a < i then f a else manyN L i) < _
    rw [hs]
    split
    · have := h1 a (by assumption); omega
    omega
  have hac : (if a < i then f a else manyN L i) = if c < i then f c else manyN L i := hac
  rcases Nat.lt_or_ge a i with g1 | g1 <;> rcases Nat.lt_or_ge c i with g2 | g2
  · rw [if_pos g1, if_pos g2] at hac; exact h2 a c g1 g2 hac
  · rw [if_pos g1, if_neg (by omega)] at hac; have := h1 a g1; omega
  · rw [if_neg (by omega), if_pos g2] at hac; have := h1 c g2; omega
  rw [show a = i by omega, show c = i by omega]
theorem natsV_getD (F : List Nat) (a : Nat) : (natsV F).getD a 0 = ((F.getD a 0 : Nat) : Int) := by
 rcases Nat.lt_or_ge a F.length with h | h
 · rw [getD_at (by simpa using h), getD_at h]; simp
 rw [List.getD_eq_getElem?_getD, List.getD_eq_getElem?_getD, List.getElem?_eq_none (by simpa using h), List.getElem?_eq_none h]; rfl
def notL (F : List Nat) (own i : Nat) : List Nat := (List.range i).filter fun k => F.getD k 0 != own
theorem told_all {tl kd se : List Int} (ht : Bytes tl) {F : List Nat} (h1 : 1 ≤ F.length) (h8 : F.length ≤ 8) {w : Nat} (hw : w < F.length) :
  leastH (handT tl kd se F F.length) ≤ (notL F (F.getD w 0) F.length).length ∧ (srcS (handT tl kd se F F.length)).1 ≤ manyN (natsV F) F.length ∧
  proV (handT tl kd se F F.length) (natsV (notL F (F.getD w 0) F.length)) = (0, 0, 8) ∧
  ∃ lo hi : Int, talV (handT tl kd se F F.length) (natsV (notL F (F.getD w 0) F.length)) = (lo, hi, 0) ∧ lo ≤ tallN tl (F.getD w 0) ∧ tallN tl (F.getD w 0) ≤ hi := by
 have hV := handT_valid (kd := kd) (se := se) ht F h1 h8
 have hlen := handT_len tl kd se F F.length
 generalize hH : handT tl kd se F F.length = H at hV hlen
 have hbits := bitsL_bitsO (c := F.length) (by omega) (fun k => F.getD k 0 != F.getD w 0)
 have hX : bitsO (notL F (F.getD w 0) F.length) < 2 ^ H.length := by
  rw [hlen]; exact bitsO_lt fun x hx => List.mem_range.1 (List.mem_filter.1 hx).1
 have hbl : bitsL (bitsO (notL F (F.getD w 0) F.length)) = notL F (F.getD w 0) F.length := hbits
 have htest : ∀ k, k < F.length → (bitsO (notL F (F.getD w 0) F.length)).testBit k = false → F.getD k 0 = F.getD w 0 := fun k hk hb => by
  rw [bitsO_test, Bool.eq_false_iff, Ne, List.contains_iff_mem] at hb
  unfold notL at hb
  rw [List.mem_filter, List.mem_range] at hb
  simp only [hk, true_and, bne_iff_ne, ne_eq, Decidable.not_not] at hb
  exact hb
 have hpair : ∀ a b, a < F.length → b < F.length → F.getD a 0 = F.getD b 0 → pairH H a b = true := fun a b ha hb he => by rw [← hH]; exact handT_pair F ha hb he
 have hacc : Acc H (bitsO (notL F (F.getD w 0) F.length)) := fun a b hab hb g1 g2 => hpair a b (by omega) (by omega) (by rw [htest a (by omega) g1, htest b (by omega) g2])
 have hp := p256 (n := H.length) (by omega)
 refine ⟨?_, ?_, ?_, ?_⟩
 · rw [← hbl, bits_ones (by omega)]
   exact least_le (by omega) hX hacc
 · obtain ⟨f, g1, g2⟩ := col_of (natsV F) F.length (by simp)
   refine (srcS_spec (by omega)).2 _ f ⟨fun a ha => g1 a (by omega), fun a b hab hb he => hpair a b (by omega) (by omega) ?_⟩
   have := g2 a b (by omega) (by omega) he
   rw [natsV_getD, natsV_getD] at this
   omega
 · have := proV_set hV hX
   rw [hbl] at this
   rw [this, (clR_none (c := H.length) (by omega) (rest_lt _ _)).2]
   intro a b hab ga gb
   rw [rest_test, Bool.and_eq_true, decide_eq_true_eq, Bool.not_eq_true'] at ga gb
   exact hacc a b hab gb.1 ga.2 gb.2
 have hk := restE_set hV hX
 rw [hbl] at hk
 have hT : Told H (natsV (notL F (F.getD w 0) F.length)) (notL F (F.getD w 0) F.length) := ⟨hV, rfl, fun x hx => by rw [hlen]; exact List.mem_range.1 (List.mem_filter.1 hx).1, List.Pairwise.filter _ List.pairwise_lt_range⟩
 have hrm : ∀ {k}, k ∈ restL H.length (natsV (notL F (F.getD w 0) F.length)) ↔ k < F.length ∧ F.getD k 0 = F.getD w 0 := fun {k} => by
  unfold restL
  rw [List.mem_filter, List.mem_range, any_nats, Bool.not_eq_true', Bool.eq_false_iff, Ne, List.contains_iff_mem, hlen]
  unfold notL
  rw [List.mem_filter, List.mem_range]
  constructor
  · rintro ⟨g1, g2⟩; exact ⟨g1, by simpa [g1] using g2⟩
  rintro ⟨g1, g2⟩; exact ⟨g1, fun hm => by have := hm.2; rw [g2] at this; simp at this⟩
 have hlt : ∀ x ∈ restL H.length (natsV (notL F (F.getD w 0) F.length)), x < H.length := fun x hx => by rw [hlen]; exact (hrm.1 hx).1
 have hone : (comV H (restL H.length (natsV (notL F (F.getD w 0) F.length)))).1 ≤ (comV H (restL H.length (natsV (notL F (F.getD w 0) F.length)))).2 :=
  (one_iff hV hlt).2 fun x hx y hy => hpair x y (hrm.1 hx).1 (hrm.1 hy).1 (by rw [(hrm.1 hx).2, (hrm.1 hy).2])
 have hne : (natsV (notL F (F.getD w 0) F.length)).length ≠ H.length := fun e => by
  have := hT.all.1 e
  have hwm := hrm.2 ⟨hw, rfl⟩
  rw [this] at hwm; cases hwm
 refine ⟨_, _, talV_ok hk hT hne (by unfold oneB; exact decide_eq_true hone), ?_⟩
 have htw := tallN_le ht (F.getD w 0)
 have hin : ∀ x ∈ restL H.length (natsV (notL F (F.getD w 0) F.length)), (H.getD x sn0).2.1 ≤ tallN tl (F.getD w 0) ∧ (tallN tl (F.getD w 0) : Int) ≤ (H.getD x sn0).2.2 := fun x hx => by
  have h3 := handT_in (tl := tl) (kd := kd) (se := se) F (hrm.1 hx).1
  rw [(hrm.1 hx).2, hH] at h3
  exact h3
 unfold comV at hone ⊢
 cases hf : offU H (restL H.length (natsV (notL F (F.getD w 0) F.length))) (restL H.length (natsV (notL F (F.getD w 0) F.length))).length with
 | true =>
  rw [hf] at hone
  exact absurd (show (1 : Int) ≤ 0 from hone) (by decide)
 | false =>
  constructor
  · exact (com_lo H _ _ _ (Nat.le_refl _)).2 ⟨by omega, fun x hx => by rw [List.take_length] at hx; exact (hin x hx).1⟩
  exact (com_hi H _ _ _ (Nat.le_refl _)).2 ⟨by omega, fun x hx => by rw [List.take_length] at hx; exact (hin x hx).2⟩
end Go.Ab.MkF
namespace Go.Ab.MkF
open Go Go.Ab Go.Ab.Pln
def fewL (hs : List Sn) (m : Nat) : List (List Nat) := (listsL 0 hs.length m).filter fun l => accB hs (bitsO l)
abbrev fewR (hs : List Sn) : List (List Nat) := fewL hs (leastH hs)
def mustL (hs : List Sn) (i : Nat) : List Nat := (List.range i).filter fun k => (fewR hs).all fun l => l.contains k
def mayL (hs : List Sn) (i : Nat) : List Nat := (List.range i).filter fun k => (fewR hs).any fun l => l.contains k
end Go.Ab.MkF
namespace Go.Ab.MkF
open Go Go.Ab Go.Ab.Pln Go.Proofs
set_option maxHeartbeats 1000000
set_option maxRecDepth 100000
noncomputable abbrev parH (gl : Gl) : Par S Unit := { par gl with hd := true }
theorem parH_ok (gl : Gl) (En : Env Unit) : ParOk PR gl (parH gl) En := { par_ok gl En with }
theorem join {p q : Prop} (h : Hold p → q) (hp : p) : q := h ⟨hp⟩
def inB (n a b : Int) : Bool := decide (a ≤ n) && decide (n ≤ b)
def rgE (a b lo hi : Int) : Int := if (decide (min a b < lo) || decide (max a b > hi)) = true then 7 else if b < a then 2 else 0
end Go.Ab.MkF
namespace Go.Ab.MkF
open Go Go.Ab Go.Ab.Pln Go.Proofs
set_option maxHeartbeats 1000000
set_option maxRecDepth 100000
theorem remI {x m : Nat} (hx : x ≤ 255) : Int.tmod (IntKind.i64.wrap (x : Int)) (m : Int) = ((x % m : Nat) : Int) := by
 rw [show IntKind.i64.wrap (x : Int) = x from wrap_int (by omega) (by omega)]; rfl
theorem c33v {hs : List Sn} (hV : ValidH hs) : ∃ A : List Int, A.length = leastH hs ∧ A.length ≤ 8 ∧ PCalls PR glT 33 [.agg [snsV hs]] fun r => r = .tup [vL A, vI 0] :=
 ⟨(forV hs).1, (forV_len hV).1, by rw [(forV_len hV).1]; have := least_lt hV.n1 hV.n8; have := hV.n8; omega, to (c33 hs (by have := hV.n8; omega)) (by rw [(forV_len hV).2])⟩
structure SetL (n X : Nat) (L : List Int) : Prop where
 lt : X < 2 ^ n
 n8 : n ≤ 8
 eq : L = natsV (bitsL X)
theorem SetL.len {n X : Nat} {L : List Int} (h : SetL n X L) : L.length = (bitsL X).length := by rw [h.eq, List.length_map]
theorem SetL.get {n X i : Nat} {L : List Int} (h : SetL n X L) (hi : i < L.length) : ∃ k : Nat, getI L (i : Int) = some (k : Int) ∧ X.testBit k = true ∧ k < n := by
 obtain ⟨h1, h2, rfl⟩ := h
 rw [List.length_map] at hi
 have hm := List.getElem_mem hi
 exact ⟨(bitsL X)[i], getI_nats hi, (bitsL_mem (by omega) h1).1 hm, bits_range (by omega) h1 hm⟩
theorem SetL.has {n X : Nat} {L : List Int} (h : SetL n X L) (k : Nat) : (L.any fun x => x == (k : Int)) = X.testBit k := by rw [h.eq]; exact has_bits (c := n) (by have := h.n8; omega) h.lt
theorem notT {b : Bool} (h : (!b) = true) : b = false := by cases b; rfl; cases h
end Go.Ab.MkF
namespace Go.Ab.MkF
open Go Go.Ab Go.Ab.Pln Go.Proofs
set_option maxHeartbeats 1000000
set_option maxRecDepth 100000
end Go.Ab.MkF
namespace Go.Ab.MkF
open Go Go.Ab Go.Ab.Pln Go.Proofs
set_option maxHeartbeats 1000000
set_option maxRecDepth 100000
noncomputable abbrev parX (gl : Gl) : Par S Unit := { par gl with hd := true, nx := true }
def optV : Option (List Int) → AV S
 | none => .nil0
 | some l => vL l
theorem manyN_le (L : List Int) : ∀ i, manyN L i ≤ i
 | 0 => Nat.le_refl _
 | i + 1 => by rw [manyN_succ]; have := manyN_le L i; split <;> omega
def stepR (hs : List Sn) (most k t : Nat) (L : List Int) (j : Nat) : Option (List Int) := if okJ hs L j then refS hs most k (max t (j + 1)) (L ++ [(j : Int)]) else none
theorem filt_len (p : Nat → Bool) (i : Nat) : ((List.range i).filter p).length ≤ i := by
 have := List.length_filter_le p (List.range i)
 rwa [List.length_range] at this
theorem c54 (gl : Gl) (L : List Int) (hl : L.length ≤ 1000000) : PCalls PR gl 54 [vL L] fun r => r = vI ((manyN L L.length : Nat) : Int) := by
 refine fnW_sound (parH_ok gl) Tryd.func54 ?_
 conv => whnf
 refine ⟨?_⟩
 conv => whnf
 refine ⟨?_⟩
 conv => whnf
 refine ⟨?_⟩
 conv => whnf
 refine ⟨⟨25, [], []⟩, ?_⟩
 refine LoopW_ind _ (fun i : Nat => (({ tmps := [vL L, .undef, .undef, vI ((manyN L i : Nat) : Int), vI i, .undef, .undef, .undef, .undef, .undef, .undef, .undef, .undef, .undef, .undef, .undef, .undef, .undef, .undef, .undef, .undef, .undef, .undef], seg := [], up := [] } : St S))) (fun i : Nat => (i ≤ L.length)) (fun i : Nat => (L.length - i)) () ?_ 0 (Nat.zero_le _)
 intro i hi Z1 hZ1
 conv => whnf
 refine ⟨?_⟩
 conv => whnf
 refine bcase_iff.2 ⟨fun h3 => ?_, fun h3 => ?_⟩
 · have hlt : i < L.length := by have := of_decide_eq_true h3; omega
   have hw : IntKind.i64.wrap ((i : Int) + 1) = ((i + 1 : Nat) : Int) := wrap_nat (by omega)
   have hmi := manyN_le L i
   have hsu := manyN_succ L i
   rw [getD_at hlt] at hsu
   conv => whnf
   refine ⟨[0, 1, 2, 3, 4, 5, 6, 7, 8], [], [], [], ⟨8388607, [], []⟩, by decide +kernel, ?_⟩
   conv => whnf
   refine ⟨Int.natCast_nonneg _, ?_⟩
   conv => whnf
   refine ⟨Nat.zero_le _, hi, ?_⟩
   conv => whnf
   refine ⟨_, getI_nat hlt, ?_⟩
   conv => whnf
   refine byC (c60 gl (L.take i) (by simp; omega) L[i]) op60 ?_
   conv => whnf
   refine bcase_iff.2 ⟨fun h5 => ?_, fun h5 => ?_⟩
   · have h5 := notT h5
     rw [h5, if_neg (by simp)] at hsu
     have hw2 : IntKind.i64.wrap (((manyN L i : Nat) : Int) + 1) = ((manyN L (i + 1) : Nat) : Int) := by rw [hsu]; exact wrap_nat (by omega)
     conv => whnf
     refine ⟨?_⟩
     conv => whnf
     refine ⟨?_⟩
     conv => whnf
     refine ⟨⟨25, [], []⟩, ?_⟩
     conv => whnf
     rw [hw, hw2]
     exact hZ1 (i + 1) hlt (by omega)
   have h5 : ((L.take i).any fun x => x == L[i]) = true := by cases h : (L.take i).any fun x => x == L[i] with | true => rfl | false => rw [h] at h5; cases h5
   rw [h5, if_pos rfl] at hsu
   conv => whnf
   refine ⟨?_⟩
   conv => whnf
   refine ⟨⟨25, [], []⟩, ?_⟩
   conv => whnf
   rw [hw, show manyN L i = manyN L (i + 1) from by omega]
   exact hZ1 (i + 1) hlt (by omega)
 have hge : i = L.length := by have := of_decide_eq_false h3; omega
 conv => whnf
 refine ⟨?_⟩
 conv => whnf
 rw [hge]
theorem op54 : Opens PR 54 := ⟨_, Tryd.func54, rfl, rfl⟩
end Go.Ab.MkF
namespace Go.Ab.MkF
open Go Go.Ab Go.Ab.Pln Go.Proofs
set_option maxHeartbeats 1000000
set_option maxRecDepth 100000
theorem c37w {hs : List Sn} (hV : ValidH hs) : ∃ (A : List Int) (m : Nat), (srcS hs).1 = m ∧ m ≤ 8 ∧ A.length = hs.length ∧ PCalls PR glT 37 [.agg [snsV hs]] fun r => r = .tup [vL A, vI m, vI 0] := by
 obtain ⟨m, hm, hl, _⟩ := srcS_col hV.n8
 have h8 := hV.n8
 have hle := (srcS_spec h8).2 _ _ (col_own hs)
 exact ⟨(srcS hs).2, m, hm, by omega, hl, to (c37 hs (by have := hV.n8; omega)) (by rw [srcV_ok hV, hm])⟩
theorem bytes_nat {l : List Int} (h : Bytes l) {m : Nat} (hm : m < l.length) : IntKind.i64.wrap l[m] = ((l[m].toNat : Nat) : Int) := by
 have := h.b _ (List.getElem_mem hm)
 rw [wrap_int (by omega) (by omega)]; omega
theorem c55 (gl : Gl) (l : List Int) (hB : Bytes l) (n : Nat) : PCalls PR gl 55 [.sl (S := S) U.u8 l none, vI n] fun r => r = vI ((turnN l n : Nat) : Int) := by
 refine fnW_sound (parH_ok gl) Tryd.func55 ?_
 conv => whnf
 refine ⟨?_⟩
 conv => whnf
 refine ⟨?_⟩
 conv => whnf
 refine bcase_iff.2 ⟨fun h1 => ?_, fun h1 => ?_⟩
 · have h1 : l.length = 0 := by have h : ((l.length : Int) == 0) = true := h1; have := eq_of_beq h; omega
   conv => whnf
   refine ⟨?_⟩
   conv => whnf
   unfold turnN
   rw [if_pos h1]
   rfl
 have h1 : l.length ≠ 0 := fun e => by have h : ((l.length : Int) == 0) = false := h1; rw [e] at h; cases h
 have hm : n % l.length < l.length := Nat.mod_lt _ (by omega)
 conv => whnf
 refine ⟨?_⟩
 conv => whnf
 refine ⟨by omega, ?_⟩
 conv => whnf
 rw [show Int.tmod (n : Int) (l.length : Int) = ((n % l.length : Nat) : Int) from rfl]
 conv => whnf
 refine ⟨_, getI_nat hm, ?_⟩
 conv => whnf
 unfold turnN
 rw [if_neg h1, getD_at hm, bytes_nat hB hm]
theorem op55 : Opens PR 55 := ⟨_, Tryd.func55, rfl, rfl⟩
theorem c56 (gl : Gl) (n a b : Int) : PCalls PR gl 56 [vI n, .agg [vI a, vI b]] fun r => r = vB (Go.Ab.Pln.inB n a b) := by
 refine fnW_sound (par_ok gl) Tryd.func56 ?_
 conv => whnf
 refine byC (c121 gl _ _ _) op121 ?_
 conv => whnf
theorem op56 : Opens PR 56 := ⟨_, Tryd.func56, rfl, rfl⟩
theorem c52 (gl : Gl) (fr tl kd se : List Int) (hB : Bytes fr) (m : Nat) (hm : m ≤ 8) : PCalls PR gl 52 [.agg [.sl (S := S) U.u8 fr none, .sl (S := S) U.u8 tl none, .sl (S := S) U.u8 kd none, .sl (S := S) U.u8 se none], vI m] fun r => r = vL (natsV (truL fr m)) := by
 refine fnW_sound (parH_ok gl) Tryd.func52 ?_
 conv => whnf
 refine ⟨?_⟩
 conv => whnf
 refine ⟨?_⟩
 conv => whnf
 refine ⟨?_⟩
 conv => whnf
 refine ⟨⟨102, [4], [4, 5]⟩, ?_⟩
 refine LoopW_ind _ (fun i : Nat => (({ tmps := [.undef, vI m, .own 2 [], .undef, .undef, .sl (S := S) U.int (natsV (truL fr i)) (some 5), vI i, .undef, .undef, .undef, .undef, .undef, .undef, .undef, .undef, .undef, .undef, .undef, .undef, .undef, .undef], seg := [(2, .cells [.sl (S := S) U.u8 fr none, .sl (S := S) U.u8 tl none, .sl (S := S) U.u8 kd none, .sl (S := S) U.u8 se none]), (5, .row U.int false)], up := [] } : St S))) (fun i : Nat => (i ≤ m)) (fun i : Nat => (m - i)) () ?_ 0 (Nat.zero_le _)
 intro i hi Z1 hZ1
 conv => whnf
 refine ⟨?_⟩
 conv => whnf
 refine bcase_iff.2 ⟨fun h3 => ?_, fun h3 => ?_⟩
 · have hlt : i < m := by have := of_decide_eq_true h3; omega
   have hw : IntKind.i64.wrap ((i : Int) + 1) = ((i + 1 : Nat) : Int) := wrap_nat (by omega)
   conv => whnf
   refine ⟨?_⟩
   conv => whnf
   refine byC (c55 gl fr hB i) op55 ?_
   conv => whnf
   refine ⟨by decide, ?_⟩
   conv => whnf
   refine ⟨_, rfl, ?_⟩
   conv => whnf
   refine ⟨lim (by have := truL_len fr i; simp; omega), ?_⟩
   conv => whnf
   refine ⟨?_⟩
   conv => whnf
   refine ⟨⟨102, [18, 19], []⟩, ?_⟩
   conv => whnf
   rw [hw]
   have hz := hZ1 (i + 1) hlt (by omega)
   rw [show natsV (truL fr (i + 1)) = natsV (truL fr i) ++ [((turnN fr i % 3 : Nat) : Int)] from by unfold truL; rw [rm_succ]; exact List.map_append] at hz
   exact hz
 have hge : i = m := by have := of_decide_eq_false h3; omega
 conv => whnf
 refine ⟨?_⟩
 conv => whnf
 rw [hge]
theorem op52 : Opens PR 52 := ⟨_, Tryd.func52, rfl, rfl⟩
theorem c53 (gl : Gl) (fr tl kd se : List Int) (ht : Bytes tl) (hk : Bytes kd) (hs : Bytes se) (F : List Nat) (hF : F.length ≤ 8) : PCalls PR gl 53 [.agg [.sl (S := S) U.u8 fr none, .sl (S := S) U.u8 tl none, .sl (S := S) U.u8 kd none, .sl (S := S) U.u8 se none], vL (natsV F)] fun r => r = .agg [snsV (handT tl kd se F F.length)] := by
 refine fnW_sound (parH_ok gl) Tryd.func53 ?_
 conv => whnf
 refine ⟨?_⟩
 conv => whnf
 refine ⟨?_⟩
 conv => whnf
 refine ⟨?_⟩
 conv => whnf
 refine ⟨⟨118, [], [1004, 1005]⟩, ?_⟩
 refine LoopW_ind _ (fun i : Nat => (({ tmps := [.undef, vL (natsV F), .own 2 [], .undef, .own 4 [], .own 5 [], vI i, .undef, .undef, .undef, .undef, .undef, .undef, .undef, .undef, .undef, .undef, .undef, .undef, .undef, .undef, .undef, .undef, .undef, .undef, .undef, .undef, .undef, .undef, .undef, .undef, .undef, .undef, .undef, .undef, .undef, .undef, .undef, .undef, .undef, .undef, .undef, .undef, .undef, .undef, .undef, .undef, .undef, .undef, .undef, .undef, .undef, .undef, .undef, .undef, .undef, .undef, .undef, .undef, .undef, .undef, .undef, .undef, .undef, .undef], seg := [(2, .cells [.sl (S := S) U.u8 fr none, .sl (S := S) U.u8 tl none, .sl (S := S) U.u8 kd none, .sl (S := S) U.u8 se none]), (4, .cells [.sl (S := S) U.seen [] (some 1004)]), (5, .cells [.sl (S := S) U.seen (handT tl kd se F i) (some 1005)]), (1004, .row U.seen false), (1005, .row U.seen false)], up := [] } : St S))) (fun i : Nat => (i ≤ F.length)) (fun i : Nat => (F.length - i)) () ?_ 0 (Nat.zero_le _)
 intro i hi Z1 hZ1
 conv => whnf
 refine ⟨?_⟩
 conv => whnf
 refine bcase_iff.2 ⟨fun h3 => ?_, fun h3 => ?_⟩
 · have hlt : i < F.length := by have := of_decide_eq_true h3; rw [natsV_len] at this; omega
   have hw : IntKind.i64.wrap ((i : Int) + 1) = ((i + 1 : Nat) : Int) := wrap_nat (by omega)
   have hg : F.getD i 0 = F[i] := getD_at hlt
   have ht1 := turnN_le ht F[i]
   have ht2 := turnN_le hk F[i]
   have ht3 := turnN_le hs i
   have ht4 := turnN_le hs (2 * i)
   have ht5 := turnN_le hs (2 * i + 1)
   have h150 : IntKind.i64.wrap (150 + ((turnN tl F[i] : Nat) : Int)) = ((tallN tl F[i] : Nat) : Int) := by unfold tallN; rw [wrap_int (by omega) (by omega)]; omega
   have htn := tallN_le ht F[i]
   have h2i : IntKind.i64.wrap (2 * (i : Int)) = ((2 * i : Nat) : Int) := by rw [wrap_int (by omega) (by omega)]; omega
   have h2j : IntKind.i64.wrap (((2 * i : Nat) : Int) + 1) = ((2 * i + 1 : Nat) : Int) := wrap_nat (by omega)
   have hkd : IntKind.i64.wrap (1 + Int.tmod ((turnN kd F[i] : Nat) : Int) 2) = ((1 + turnN kd F[i] % 2 : Nat) : Int) := by rw [show Int.tmod ((turnN kd F[i] : Nat) : Int) 2 = ((turnN kd F[i] % 2 : Nat) : Int) from rfl, wrap_int (by omega) (by omega)]; omega
   have hlo : IntKind.i64.wrap (((tallN tl F[i] : Nat) : Int) - Int.tmod ((turnN se (2 * i) : Nat) : Int) 6) = (tallN tl F[i] : Int) - ((turnN se (2 * i) % 6 : Nat) : Int) := by rw [show Int.tmod ((turnN se (2 * i) : Nat) : Int) 6 = ((turnN se (2 * i) % 6 : Nat) : Int) from rfl, wrap_int (by omega) (by omega)]
   have hhi : IntKind.i64.wrap (((tallN tl F[i] : Nat) : Int) + Int.tmod ((turnN se (2 * i + 1) : Nat) : Int) 6) = (tallN tl F[i] : Int) + ((turnN se (2 * i + 1) % 6 : Nat) : Int) := by rw [show Int.tmod ((turnN se (2 * i + 1) : Nat) : Int) 6 = ((turnN se (2 * i + 1) % 6 : Nat) : Int) from rfl, wrap_int (by omega) (by omega)]
   conv => whnf
   refine ⟨[0, 1, 2, 3, 4, 5, 6, 7, 8], [], [], [], ⟨36893488147419103231, [], []⟩, by decide +kernel, ?_⟩
   conv => whnf
   refine ⟨_, getI_nats hlt, ?_⟩
   conv => whnf
   refine byC (c55 gl tl ht F[i]) op55 ?_
   conv => whnf
   refine ⟨[0, 1, 2, 3, 4, 5, 9, 10, 11, 12, 13, 17, 18, 19, 20, 21, 22, 6, 7, 8, 14, 15, 16, 23, 24, 25, 26, 27, 28, 29], [28], [], [], ⟨36893488147419103231, [], []⟩, by decide +kernel, ?_⟩
   conv => whnf
   rw [h150]
   conv => whnf
   refine ⟨_, getI_nats hlt, ?_⟩
   conv => whnf
   refine byC (c55 gl kd hk F[i]) op55 ?_
   conv => whnf
   refine ⟨by decide, ?_⟩
   conv => whnf
   rw [h2i]
   conv => whnf
   refine byC (c55 gl se hs (2 * i)) op55 ?_
   conv => whnf
   refine ⟨by decide, ?_⟩
   conv => whnf
   rw [h2j]
   conv => whnf
   refine byC (c55 gl se hs (2 * i + 1)) op55 ?_
   conv => whnf
   refine ⟨by decide, ?_⟩
   conv => whnf
   refine ⟨?_⟩
   conv => whnf
   refine byC (c55 gl se hs i) op55 ?_
   conv => whnf
   refine ⟨by decide, ?_⟩
   conv => whnf
   refine bcase_iff.2 ⟨fun h7 => ?_, fun h7 => ?_⟩
   · have h7 : turnN se i % 5 = 4 := Int.ofNat.inj (eq_of_beq (show (((turnN se i % 5 : Nat) : Int) == ((4 : Nat) : Int)) = true from h7))
     conv => whnf
     refine ⟨?_⟩
     conv => whnf
     refine ⟨?_⟩
     conv => whnf
     refine ⟨leafT tl kd se F i, by unfold leafT; rw [hg]; first | rw [if_pos h7, hlo, hhi]; rfl | rw [if_neg h7, hkd, hlo, hhi]; rfl, ?_⟩
     conv => whnf
     refine ⟨lim (by have := handT_len tl kd se F i; simp; omega), ?_⟩
     conv => whnf
     refine ⟨?_⟩
     conv => whnf
     refine ⟨⟨118, [8, 61, 62, 1008, 2008, 3008, 4008], []⟩, ?_⟩
     conv => whnf
     rw [hw]
     have hz := hZ1 (i + 1) hlt (by omega)
     rw [show handT tl kd se F (i + 1) = handT tl kd se F i ++ [leafT tl kd se F i] from by unfold handT; rw [rm_succ]] at hz
     exact hz
   have h7 : turnN se i % 5 ≠ 4 := fun e => by have h : (((turnN se i % 5 : Nat) : Int) == ((4 : Nat) : Int)) = false := h7; rw [e] at h; simp at h
   conv => whnf
   refine ⟨?_⟩
   conv => whnf
   refine ⟨leafT tl kd se F i, by unfold leafT; rw [hg]; first | rw [if_pos h7, hlo, hhi]; rfl | rw [if_neg h7, hkd, hlo, hhi]; rfl, ?_⟩
   conv => whnf
   refine ⟨lim (by have := handT_len tl kd se F i; simp; omega), ?_⟩
   conv => whnf
   refine ⟨?_⟩
   conv => whnf
   refine ⟨⟨118, [8, 61, 62, 1008, 2008, 3008, 4008], []⟩, ?_⟩
   conv => whnf
   rw [hw]
   have hz := hZ1 (i + 1) hlt (by omega)
   rw [show handT tl kd se F (i + 1) = handT tl kd se F i ++ [leafT tl kd se F i] from by unfold handT; rw [rm_succ]] at hz
   exact hz
 have hge : i = F.length := by have := of_decide_eq_false h3; rw [natsV_len] at this; omega
 conv => whnf
 refine ⟨?_⟩
 conv => whnf
 rw [hge]
theorem op53 : Opens PR 53 := ⟨_, Tryd.func53, rfl, rfl⟩
theorem c9 (fr tl kd se : List Int) (hfr : Bytes fr) (ht : Bytes tl) (hk : Bytes kd) (hs : Bytes se) (n : Int) (hn : 0 ≤ n ∧ n ≤ 255) (wh : Int) (hwh : 0 ≤ wh ∧ wh ≤ 255) : PCalls PR glT 9 [.agg [.sl (S := S) U.u8 fr none, .sl (S := S) U.u8 tl none, .sl (S := S) U.u8 kd none, .sl (S := S) U.u8 se none], .int .u8 n, .int .u8 wh] fun r => r = vB true := by
 obtain ⟨n, rfl⟩ : ∃ x : Nat, n = (x : Int) := ⟨n.toNat, by omega⟩
 obtain ⟨wh, rfl⟩ : ∃ x : Nat, wh = (x : Int) := ⟨wh.toNat, by omega⟩
 refine fnW_sound (parH_ok glT) Tryd.func9 ?_
 conv => whnf
 refine ⟨?_⟩
 conv => whnf
 refine ⟨?_⟩
 conv => whnf
 refine ⟨by decide, ?_⟩
 conv => whnf
 rw [show Int.tmod (IntKind.i64.wrap (n : Int)) 8 = ((n % 8 : Nat) : Int) from remI (m := 8) (by omega)]
 conv => whnf
 obtain ⟨m, hm⟩ : ∃ m, 1 + n % 8 = m := ⟨_, rfl⟩
 rw [show IntKind.i64.wrap (1 + ((n % 8 : Nat) : Int)) = (m : Int) from by rw [wrap_int (by omega) (by omega)]; omega]
 conv => whnf
 have hm1 : 1 ≤ m := by omega
 have hm8 : m ≤ 8 := by omega
 have h52 := c52 glT fr tl kd se hfr m hm8
 have hFl := truL_len fr m
 generalize truL fr m = F at h52 hFl
 conv => whnf
 subst hFl
 conv => whnf
 have h53 := c53 glT fr tl kd se ht hk hs F hm8
 have hHl := handT_len tl kd se F F.length
 have hV := handT_valid (kd := kd) (se := se) ht F hm1 hm8
 obtain ⟨w, hw⟩ : ∃ w, wh % F.length = w := ⟨_, rfl⟩
 have hwl : w < F.length := by rw [← hw]; exact Nat.mod_lt _ (by omega)
 obtain ⟨k1, k2, k3, lo, hi, k4, k5, k6⟩ := told_all (kd := kd) (se := se) ht hm1 hm8 hwl
 have hgw : F.getD w 0 = F[w] := getD_at hwl
 have htl := tallN_le ht (F.getD w 0)
 rw [hgw] at k1 k3 k4 k5 k6 htl
 conv => whnf
 generalize hH : handT tl kd se F F.length = H at h53 hHl hV k1 k2 k3 k4
 conv => whnf
 obtain ⟨A1, hA1, hA8, h33⟩ := c33v hV
 obtain ⟨A2, m2, hm2, hm28, hA2, h37⟩ := c37w hV
 have hnt := filt_len (fun k => F.getD k 0 != F[w]) F.length
 have htv := turnN_le ht F[w]
 refine byC h52 op52 ?_
 conv => whnf
 refine ⟨?_⟩
 conv => whnf
 refine byC h53 op53 ?_
 conv => whnf
 refine ⟨?_⟩
 conv => whnf
 refine byC h33 op33 ?_
 conv => whnf
 refine ⟨?_⟩
 conv => whnf
 refine byC h37 op37 ?_
 conv => whnf
 refine ⟨?_⟩
 conv => whnf
 refine bcase_iff.2 ⟨fun g5_13 => ?_, fun g5_13 => ?_⟩
 · exfalso
   have g : ((A2.length : Int) != ((natsV F).length : Int)) = true := g5_13
   rw [List.length_map, show A2.length = F.length from by omega] at g
   simp at g
 conv => whnf
 have hml := manyN_le (natsV F) F.length
 conv => whnf
 refine byC (to (c54 glT (natsV F) (by rw [List.length_map]; omega)) (by rw [List.length_map])) op54 ?_
 conv => whnf
 refine bcase_iff.2 ⟨fun h5 => ?_, fun h5 => ?_⟩
 · exfalso
   have g := of_decide_eq_true h5
   omega
 conv => whnf
 refine ⟨?_⟩
 conv => whnf
 rw [natsV_len]
 conv => whnf
 refine ⟨by omega, ?_⟩
 conv => whnf
 rw [remI (x := wh) (m := F.length) (by omega), hw]
 conv => whnf
 refine ⟨_, getI_nats hwl, ?_⟩
 conv => whnf
 refine ⟨?_⟩
 conv => whnf
 refine ⟨?_⟩
 conv => whnf
 refine ⟨⟨115592, [1008], [15, 1008]⟩, ?_⟩
 refine LoopW_ind _ (fun i : Nat => (({ tmps := [.undef, .undef, .undef, .own 3 [], .undef, .undef, .undef, vL (natsV F), .own 8 [], vL A1, .undef, .undef, .undef, .undef, vI ((F[w] : Nat) : Int), .sl (S := S) U.int (natsV (notL F F[w] i)) (some 15), vI i, .undef, .undef, .undef, .undef, .undef, .undef, .undef, .undef, .undef, .undef, .undef, .undef, .undef, .undef, .undef, .undef, .undef, .undef, .undef, .undef, .undef, .undef, .undef, .undef, .undef, .undef, .undef, .undef, .undef, .undef, .undef, .undef, .undef, .undef, .undef, .undef, .undef, .undef, .undef, .undef, .undef, .undef, .undef, .undef, .undef, .undef, .undef, .undef, .undef, .undef, .undef, .undef, .undef, .undef, .undef, .undef, .undef, .undef, .undef, .undef, .undef, .undef, .undef, .undef, .undef, .undef, .undef, .undef, .undef, .undef, .undef, .undef, .undef, .undef, .undef, .undef, .undef, .undef, .undef, .undef, .undef, .undef, .undef, .undef, .undef, .undef, .undef, .undef, .undef, .undef, .undef, .undef, .undef, .undef, .undef, .undef, .undef, .undef, .undef, .undef, .undef, .undef, .undef, .undef, .undef, .undef, .undef, .undef], seg := [(3, .cells [.sl (S := S) U.u8 fr none, .sl (S := S) U.u8 tl none, .sl (S := S) U.u8 kd none, .sl (S := S) U.u8 se none]), (8, .cells [snsV H]), (15, .row U.int false)], up := [] } : St S))) (fun i : Nat => (i ≤ F.length)) (fun i : Nat => (F.length - i)) () ?_ 0 (Nat.zero_le _)
 intro i hi2 Z1 hZ1
 conv => whnf
 refine ⟨?_⟩
 conv => whnf
 refine bcase_iff.2 ⟨fun h10 => ?_, fun h10 => ?_⟩
 · have hlt : i < F.length := by have := of_decide_eq_true h10; rw [natsV_len] at this; omega
   have hwi : IntKind.i64.wrap ((i : Int) + 1) = ((i + 1 : Nat) : Int) := wrap_nat (by omega)
   have hgi : F.getD i 0 = F[i] := getD_at hlt
   conv => whnf
   refine ⟨?_⟩
   conv => whnf
   refine ⟨_, getI_nats hlt, ?_⟩
   conv => whnf
   refine bcase_iff.2 ⟨fun h12 => ?_, fun h12 => ?_⟩
   · have h12 : (F.getD i 0 != F[w]) = true := by rw [hgi]; have h : (((F[i] : Nat) : Int) != ((F[w] : Nat) : Int)) = true := h12; simp only [bne_iff_ne, ne_eq] at h ⊢; omega
     conv => whnf
     refine ⟨?_⟩
     conv => whnf
     refine ⟨_, rfl, ?_⟩
     conv => whnf
     refine ⟨lim (by have := nf_len (fun k => F.getD k 0 != F[w]) i; unfold notL; simp at this ⊢; omega), ?_⟩
     conv => whnf
     refine ⟨?_⟩
     conv => whnf
     refine ⟨⟨115592, [84, 85], []⟩, ?_⟩
     conv => whnf
     rw [hwi]
     have hz := hZ1 (i + 1) hlt (by omega)
     rw [show natsV (notL F F[w] (i + 1)) = natsV (notL F F[w] i) ++ [(i : Int)] from nf_T (p := fun k => F.getD k 0 != F[w]) (i := i) h12] at hz
     exact hz
   have h12 : (F.getD i 0 != F[w]) = false := by rw [hgi]; have h : (((F[i] : Nat) : Int) != ((F[w] : Nat) : Int)) = false := h12; simp only [bne_eq_false_iff_eq] at h ⊢; omega
   conv => whnf
   refine ⟨?_⟩
   conv => whnf
   refine ⟨⟨115592, [84, 85], []⟩, ?_⟩
   conv => whnf
   rw [hwi, show natsV (notL F F[w] i) = natsV (notL F F[w] (i + 1)) from (nf_F (p := fun k => F.getD k 0 != F[w]) (i := i) h12).symm]
   exact hZ1 (i + 1) hlt (by omega)
 have hge : i = F.length := by have := of_decide_eq_false h10; rw [natsV_len] at this; omega
 have hnl : (natsV (notL F F[w] F.length)).length ≤ 8 := by rw [List.length_map]; unfold notL; omega
 conv => whnf
 refine ⟨?_⟩
 conv => whnf
 rw [hge]
 conv => whnf
 refine byC (to (c39 H (natsV (notL F F[w] F.length)) (by omega) (by omega)) (by rw [k3])) op39 ?_
 conv => whnf
 refine ⟨?_⟩
 conv => whnf
 try rw [hge]
 conv => whnf
 refine byC (to (c41 H (natsV (notL F F[w] F.length)) (by omega) (by omega)) (by rw [k4])) op41 ?_
 conv => whnf
 refine ⟨?_⟩
 conv => whnf
 refine byC (c55 glT tl ht F[w]) op55 ?_
 conv => whnf
 refine ⟨?_⟩
 conv => whnf
 refine bcase_iff.2 ⟨fun g17_5 => ?_, fun g17_5 => ?_⟩
 · conv => whnf
   rw [show IntKind.i64.wrap (150 + ((turnN tl F[w] : Nat) : Int)) = (tallN tl F[w] : Int) from by unfold tallN; rw [wrap_int (by omega) (by omega)]; omega]
   conv => whnf
   refine byC (to (c56 glT _ lo hi) (by unfold Go.Ab.Pln.inB; rw [decide_eq_true k5, decide_eq_true k6]; all_goals rfl)) op56 ?_
   conv => whnf
   refine byC c27 op27 ?_
   conv => whnf
   all_goals rfl
 exfalso
 have g : ¬ ((A1.length : Int) ≤ ((natsV (notL F F[w] F.length)).length : Int)) := of_decide_eq_false (by first | exact g17_5 | (rw [← hge]; exact g17_5))
 rw [List.length_map] at g
 omega
end Go.Ab.MkF
namespace Go.Ab.MkF
open Go Go.Ab Go.Proofs Go.Proofs.YtmchcpmkadhmjaaDoor Go.ChangeShapes Go.WideShapes Go.ChangeAt Go.RowKit
theorem post_same {H : Type} {enc : TypeId × Value → H} {P : Program} {f : Func} {s : ChangeSpec} {apart fresh handsOn again : Bool} {W W' : World} {args : Array Value} {v : Value} {ds gs : List (DataW H)} {before pa pv : List MemPlace}
  (hW : DataW.Whole enc P f.params.toList s.vars apart W args.toList ds gs before)
  (hres : ∀ (b : Nat) (sp : Nat → Bool) (hd : Bool), DataW.TrodAll enc P W' b sp hd f.resultTypes.toList (v.resultList f.resultTypes.size) (s.fn H (ds ++ gs)).results [])
  (hargs : ∀ sp : Nat → Bool, (∀ p ∈ before, sp p.block = true) → DataW.TrodAll enc P W' 0 sp true f.params.toList args.toList (s.fn H (ds ++ gs)).args pa)
  (hvars : ∀ sp : Nat → Bool, (∀ p ∈ before, sp p.block = true) → DataW.TrodVars enc P W' sp s.vars (s.fn H (ds ++ gs)).vars pv)
  (hps : before = pa ++ pv) (hk : W.keptBut W' (· ∈ before)) (hfz : ∀ a, a.block < W.heap.size → W'.frozen? a = W.frozen? a)
  (hok : ∀ (j : Nat) (t : TypeId) (r : Value), f.resultTypes[j]? = some t → (v.resultList f.resultTypes.size)[j]? = some r → Value.okWide P W' .any 0 t r) :
  s.post enc P f apart fresh handsOn again W args v W' := by
 have hlt := hW.lt
 have hold : ∀ p ∈ before, (fun b => decide (b < W.heap.size)) p.block = true := fun p hp => by simpa using hlt p hp
 refine ⟨ds, gs, before, [], pa, pv, hW, hres _ _ _, hargs _ hold, hvars _ hold, World.keptBut_mono (fun p hp => ⟨hp, ?_⟩) hk, fun _ => ?_⟩
 · rw [hps, List.mem_append] at hp
   exact Or.inr hp
 obtain ⟨_, _, _, _, _, hz, hn⟩ := hW
 refine ⟨hok, _, _, ([] ++ pa) ++ pv, ⟨[] ++ pa, pv, trodAll_append (hargs _ (fun _ _ => rfl)) (hres _ _ _), hvars _ (fun _ _ => rfl), rfl, ?_, ?_⟩, ?_⟩
 · intro b off hp
   have hp' : MemPlace.cell b off ∈ before := by rw [hps]; simpa using hp
   rw [hfz _ (hlt _ hp')]
   exact hz b off hp'
 · intro ha
   have := hn ha
   rw [hps] at this
   simpa using this
 intro p hp _
 rw [hps]
 simpa using hp
theorem grow_kept {w w' : World} (h : Grow w w') (may : MemPlace → Prop) : w.keptBut w' may := by
 refine ⟨h.os, h.output, fun i hi => ?_⟩
 rw [h.block i hi]
 cases w.heap[i]? with
 | none => trivial
 | some o => cases o <;> simp
theorem grow_fz {w w' : World} (h : Grow w w') (a : Addr) (ha : a.block < w.heap.size) : w'.frozen? a = w.frozen? a := by
 unfold World.frozen?
 rw [h.block _ ha]
theorem gTab : Tryd.prog.globalNamed "math/bits.deBruijn64tab" = some 1 := by kernel_rfl
theorem gTabType : (Tryd.prog.globals[1]?).map (·.type) = some 198 := by kernel_rfl
theorem cells198 : Tryd.prog.cellsOf 198 = 64 := by kernel_rfl
theorem cells5 : Tryd.prog.cellsOf 5 = 1 := by kernel_rfl
theorem laid_glT {W : World} (h : laidMetH Tryd.prog [("math/bits.deBruijn32tab", Rows.laid_math_bits_deBruijn32tab), ("math/bits.deBruijn64tab", Rows.laid_math_bits_deBruijn64tab)] W) : glT.G W := by
 have h1 := laidMetH.filter (fun x => x.1 == "math/bits.deBruijn64tab") h
 have e : ([("math/bits.deBruijn32tab", Rows.laid_math_bits_deBruijn32tab), ("math/bits.deBruijn64tab", Rows.laid_math_bits_deBruijn64tab)] : List (String × DataW Unit)).filter (fun x => x.1 == "math/bits.deBruijn64tab") = [("math/bits.deBruijn64tab", Rows.laid_math_bits_deBruijn64tab)] := by rfl
 rw [e, Go.MakeChecks.laidMetH_plain _ _ _ (by kernel_rfl)] at h1
 have ht : Lib.TabIs Tryd.prog W "math/bits.deBruijn64tab" .u8 (Lib.deBruijn64tab.map fun n : Nat => (n : Int)) := Lib.tabIs_of_head (rest := []) gTab gTabType Tryd.underlying198 Tryd.underlying5 cells5 cells198 h1
 have hc : TabAt 1 Lib.deBruijn64tab W := fun j hj => by
  have := ht.cell gTab j (by simpa using hj)
  rw [this]
  simp [List.getD, hj]
 refine ⟨?_, hc⟩
 have := hc 0 (by decide)
 rcases Nat.lt_or_ge 1 W.heap.size with hlt | hge
 · exact hlt
 exfalso
 have hn : W.heap[1]? = none := Array.getElem?_eq_none hge
 simp [World.cell?, hn] at this
def tab32 : List Int := [0, 1, 28, 2, 29, 14, 24, 3, 30, 22, 20, 15, 25, 17, 4, 8, 31, 27, 13, 23, 21, 19, 16, 7, 26, 12, 18, 6, 11, 5, 10, 9]
def tab64 : List Int := [0, 1, 56, 2, 57, 49, 28, 3, 61, 58, 42, 50, 38, 29, 17, 4, 62, 47, 59, 36, 45, 43, 51, 22, 53, 39, 33, 30, 24, 18, 12, 5, 63, 55, 48, 27, 60, 41, 37, 16, 46, 35, 44, 21, 52, 32, 23, 11, 54, 26, 40, 15, 34, 20, 31, 10, 25, 14, 19, 9, 13, 8, 7, 6]
def setTab (zs : List Int) : Obj → Obj
 | .cells _ t frozen => .cells (zs.map fun n => Value.int .u8 n).toArray t frozen
 | o => o
def tabWorld (w : World) : World := { w with heap := (w.heap.modify 0 (setTab tab32)).modify 1 (setTab tab64) }
end Go.Ab.MkF
namespace Go.Ab.MkF
open Go Go.Ab Go.Proofs
set_option maxRecDepth 100000
theorem kids : Kids Tryd.prog (· < Tryd.prog.types.size) := kids_rows (by kernel_rfl) (by kernel_rfl)
theorem full : ∀ t e, t < Tryd.prog.types.size → Tryd.prog.underlying t = some (.slice e) → 0 < Tryd.prog.cellsOf e := slices_full_of Tryd.prog (by kernel_rfl)
theorem zc5 : Tryd.prog.cellsOf 5 = 1 := by kernel_rfl
theorem zc63 : Tryd.prog.cellsOf 63 = 1 := by kernel_rfl
theorem zc72 : Tryd.prog.cellsOf 72 = 4 := by kernel_rfl
abbrev B63 : Nat := 9223372036854775807
section
variable {H : Type} {enc : TypeId × Value → H} {w : World}
theorem oByte : OpA S enc Tryd.prog w 5 fun cl => ∃ n : Int, cl = Cod.enc (S := S) U.u8 n ∧ IntKind.u8.min ≤ n ∧ n ≤ IntKind.u8.max :=
 (OpA.int Tryd.underlying5).mono fun _ ⟨n, h, h1⟩ => ⟨n, h, h1⟩
theorem oByteV : OpA S enc Tryd.prog w 5 fun cl => ∃ n : Int, cl = [.int .u8 n] ∧ 0 ≤ n ∧ n ≤ 255 := oByte.mono fun _ ⟨n, h, h1⟩ => ⟨n, h, h1⟩
theorem oBytes : OpA S enc Tryd.prog w 63 fun cl => ∃ ys : List Int, cl = [.sl (S := S) U.u8 ys none] ∧ ys.length ≤ B63 ∧ ∀ y ∈ ys, 0 ≤ y ∧ y ≤ 255 :=
 OpA.slice (S := S) (u := U.u8) Tryd.underlying63 zc5 oByte
theorem oPast : OpA S enc Tryd.prog w 72 fun cl => ∃ sk ty dy sh : List Int, cl = [.sl (S := S) U.u8 sk none, .sl (S := S) U.u8 ty none, .sl (S := S) U.u8 dy none, .sl (S := S) U.u8 sh none] ∧
  (sk.length ≤ B63 ∧ ∀ y ∈ sk, 0 ≤ y ∧ y ≤ 255) ∧ (ty.length ≤ B63 ∧ ∀ y ∈ ty, 0 ≤ y ∧ y ≤ 255) ∧ (dy.length ≤ B63 ∧ ∀ y ∈ dy, 0 ≤ y ∧ y ≤ 255) ∧ (sh.length ≤ B63 ∧ ∀ y ∈ sh, 0 ≤ y ∧ y ≤ 255) := by
 refine (OpA.struct (Rs := [_, _, _, _]) Tryd.underlying72 ⟨rfl, _, _, rfl, oBytes, by rw [zc63], _, _, rfl, oBytes, by rw [zc63], _, _, rfl, oBytes, by rw [zc63], _, _, rfl, oBytes, by rw [zc63, zc72], rfl⟩).mono ?_
 rintro cl ⟨a, b, rfl, ⟨sk, rfl, h1⟩, c, d, rfl, ⟨ty, rfl, h2⟩, e, f, rfl, ⟨dy, rfl, h3⟩, g, h, rfl, ⟨sh, rfl, h4⟩, rfl⟩
 exact ⟨sk, ty, dy, sh, rfl, h1, h2, h3, h4⟩
end
abbrev noHand : Value := .agg #[.slice none 0 0]
end Go.Ab.MkF
