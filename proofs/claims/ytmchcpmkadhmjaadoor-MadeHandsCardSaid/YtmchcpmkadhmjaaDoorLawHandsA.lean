/-
  THE MADE FAMILY, PLAIN LAW, PART E: the fewest leaves: what is so of them.
  THE MADE FAMILY, PLAIN LAW, PART F: the fewest copies: what is so of them.
  THE MADE FAMILY, PLAIN LAW, PART H: leaves that are told, as a set.
  THE MADE FAMILY, PLAIN LAW, PART G: of MadeLeaf: one leaf more, or one that is seen less well.
  THE MADE FAMILY, PLAIN LAW, PART I: what some leaves have in common.
  THE MADE FAMILY, PLAIN LAW, PART J: leaves that are told, as the reference looks at them.
  THE MADE FAMILY, PLAIN LAW, PART K: Foreign and Sure, as the reference says them.
  THE MADE FAMILY, PLAIN LAW, PART L: Sources, as the reference says it.
  THE MADE FAMILY, PART RA: the reference: a hand.
  THE MADE FAMILY, PART LH: what the laws of a hand have in common.
  THE MADE FAMILY, PART RD: the reference: what leaves have in common.
  THE MADE FAMILY, PART RE: the reference: Foreign, Sure, Sources.
  THE MADE FAMILY, PART RF: the reference: Sure; the law MadeHands.
  THE MADE FAMILY: WHAT ALL ITS CARDS NEED: from a contract of the engine to the given statements' form.
  THE MADE FAMILY: the arguments of its laws, read as ours.
-/
import Derived.Test.YtmchcpmkadhmjaaDoorCards
import Derived.Test.YtmchcpmkadhmjaaDoorTie
import Derived.WalkKit
import Derived.ProofKit
import Derived.OpenShut
import Derived.Deep.DeepHandedRow
import Derived.Lib.LaidTab
import Derived.LaidSub
import Derived.MakeChecks
import Derived.ChangeBears
import Derived.Test.YtmchcpmkadhmjaaDoorMadeA
import Derived.Test.YtmchcpmkadhmjaaDoorMadeB
import Derived.Test.YtmchcpmkadhmjaaDoorEngD
namespace Go.Ab.MkF
open Go Go.Ab Go.Ab.Pln
theorem bitsL_mem {n c a : Nat} (hc : c ≤ 64) (hn : n < 2 ^ c) : a ∈ bitsL n ↔ n.testBit a = true := by
 rw [bitsL_below hc hn, List.mem_filter, List.mem_range]
 refine ⟨fun h => h.2, fun h => ⟨?_, h⟩⟩
 rcases Nat.lt_or_ge a c with h2 | h2
 · exact h2
 rw [Nat.testBit_lt_two_pow (Nat.lt_of_lt_of_le hn (Nat.pow_le_pow_right (by omega) h2))] at h; cases h
theorem bits_asc {n c : Nat} (hc : c ≤ 64) (hn : n < 2 ^ c) : (bitsL n).Pairwise (· < ·) := by
 rw [bitsL_below hc hn]; exact List.Pairwise.filter _ List.pairwise_lt_range
theorem pw_asc {R : Nat → Nat → Prop} : ∀ {l : List Nat}, l.Pairwise (· < ·) → (l.Pairwise R ↔ ∀ a ∈ l, ∀ b ∈ l, a < b → R a b)
 | [], _ => by simp
 | c :: r, h => by
  obtain ⟨h1, h2⟩ := List.pairwise_cons.1 h
  rw [List.pairwise_cons, pw_asc h2]
  constructor
  · rintro ⟨h3, h4⟩ a ha b hb hab
    rcases List.mem_cons.1 ha with rfl | ha'
    · rcases List.mem_cons.1 hb with rfl | hb'
      · omega
      exact h3 b hb'
    rcases List.mem_cons.1 hb with rfl | hb'
    · have := h1 a ha'; omega
    exact h4 a ha' b hb' hab
  intro h3
  exact ⟨fun b hb => h3 c List.mem_cons_self b (List.mem_cons_of_mem _ hb) (h1 b hb), fun a ha b hb => h3 a (List.mem_cons_of_mem _ ha) b (List.mem_cons_of_mem _ hb)⟩
theorem less_test (a b k : Nat) : (less a b).testBit k = (a.testBit k && !b.testBit k) := by
 unfold less
 rw [Nat.testBit_xor, Nat.testBit_and]
 cases a.testBit k <;> cases b.testBit k <;> rfl
theorem rest_test (n s k : Nat) : (less (2 ^ n - 1) s).testBit k = (decide (k < n) && !s.testBit k) := by rw [less_test, Nat.testBit_two_pow_sub_one]
theorem rest_lt (n s : Nat) : less (2 ^ n - 1) s < 2 ^ n := less_lt' (by have := Nat.two_pow_pos n; omega)
def Acc (hs : List Sn) (s : Nat) : Prop := ∀ a b, a < b → b < hs.length → s.testBit a = false → s.testBit b = false → pairH hs a b = true
theorem clR_none {hs : List Sn} {c set : Nat} (hc : c ≤ 64) (hn : set < 2 ^ c) : clR hs set = none ↔ ∀ a b, a < b → set.testBit a = true → set.testBit b = true → pairH hs a b = true := by
 unfold clR
 rw [clL_none, pw_asc (bits_asc hc hn)]
 constructor
 · exact fun h a b hab h1 h2 => h a ((bitsL_mem hc hn).2 h1) b ((bitsL_mem hc hn).2 h2) hab
 exact fun h a h1 b h2 hab => h a b hab ((bitsL_mem hc hn).1 h1) ((bitsL_mem hc hn).1 h2)
theorem accB_iff {hs : List Sn} (h8 : hs.length ≤ 8) {s : Nat} : accB hs s = true ↔ Acc hs s := by
 unfold accB
 rw [Option.isNone_iff_eq_none, clR_none (c := hs.length) (by omega) (rest_lt _ _)]
 unfold Acc
 constructor
 · intro h a b hab hb h1 h2
   exact h a b hab (by rw [rest_test, h1, decide_eq_true (by omega)]; rfl) (by rw [rest_test, h2, decide_eq_true hb]; rfl)
 intro h a b hab h1 h2
 rw [rest_test, Bool.and_eq_true] at h1 h2
 exact h a b hab (of_decide_eq_true h2.1) (by simpa using h1.2) (by simpa using h2.2)
abbrev leastH (hs : List Sn) : Nat := (fewH hs (2 ^ hs.length)).1
theorem fewH_spec (hs : List Sn) : ∀ s, (∀ x, x < s → accB hs x = true → (fewH hs s).1 ≤ onesN x) ∧ ((fewH hs s).2 = (List.range s).filter fun x => accB hs x && onesN x == (fewH hs s).1) ∧ ((fewH hs s).1 = hs.length ∨ (fewH hs s).2 ≠ [])
 | 0 => ⟨fun x h => absurd h (Nat.not_lt_zero x), rfl, .inl rfl⟩
 | s + 1 => by
  obtain ⟨h1, h2, h3⟩ := fewH_spec hs s
  simp only [fewH]
  split
  · rename_i h
    refine ⟨fun x hx ha => ?_, ?_, h3⟩
    · rcases Nat.lt_succ_iff_lt_or_eq.1 hx with hx | rfl
      · exact h1 x hx ha
      simp [ha] at h; omega
    rw [List.range_succ, List.filter_append, ← h2]
    have : (accB hs s && onesN s == (fewH hs s).1) = false := by
     cases ha : accB hs s with
     | false => rfl
     | true => simp [ha] at h; simp; omega
    simp [this]
  rename_i h
  have ha : accB hs s = true := by cases ha : accB hs s <;> simp [ha] at h ⊢
  have hle : onesN s ≤ (fewH hs s).1 := by simp [ha] at h; exact h
  split
  · rename_i hlt
    refine ⟨fun x hx hax => ?_, ?_, .inr (by simp)⟩
    · rcases Nat.lt_succ_iff_lt_or_eq.1 hx with hx | rfl
      · have := h1 x hx hax; show onesN s ≤ _; omega
      exact Nat.le_refl _
    show [s] = _
    rw [List.range_succ, List.filter_append, List.filter_eq_nil_iff.2]
    · simp [ha]
    intro x hx
    have hx := List.mem_range.1 hx
    intro hc
    rw [Bool.and_eq_true] at hc
    have := h1 x hx hc.1
    have := eq_of_beq hc.2
    omega
  rename_i hlt
  have he : onesN s = (fewH hs s).1 := by omega
  refine ⟨fun x hx hax => ?_, ?_, .inr (by simp)⟩
  · rcases Nat.lt_succ_iff_lt_or_eq.1 hx with hx | rfl
    · exact h1 x hx hax
    show (fewH hs x).1 ≤ _; omega
  show (fewH hs s).2 ++ [s] = _
  rw [List.range_succ, List.filter_append, ← h2]
  simp [ha, he]
theorem ones_full : ∀ n, n ≤ 8 → onesN (2 ^ n - 1) = n := by decide
theorem ones_but0 : ∀ n, n ≤ 8 → onesN (2 ^ n - 1 - 1) = n - 1 := by decide
theorem bits_ones {x : Nat} (h : x < 256) : (bitsL x).length = onesN x := by rw [bitsL_below (c := 8) (by omega) h]; rfl
theorem mem_sets {hs : List Sn} (h8 : hs.length ≤ 8) {x : Nat} : x ∈ setsH hs ↔ x < 2 ^ hs.length ∧ Acc hs x ∧ onesN x = leastH hs := by
 unfold setsH
 rw [(fewH_spec hs _).2.1, List.mem_filter, List.mem_range, Bool.and_eq_true, accB_iff h8, beq_iff_eq]
theorem least_le {hs : List Sn} (h8 : hs.length ≤ 8) {x : Nat} (hx : x < 2 ^ hs.length) (ha : Acc hs x) : leastH hs ≤ onesN x := (fewH_spec hs _).1 x hx ((accB_iff h8).2 ha)
theorem least_lt {hs : List Sn} (h1 : 1 ≤ hs.length) (h8 : hs.length ≤ 8) : leastH hs < hs.length := by
 have hp := Nat.two_pow_pos hs.length
 have h := least_le h8 (x := 2 ^ hs.length - 1 - 1) (by omega) (fun a b hab hb _ h2 => by
  rw [Nat.sub_sub, show 1 + 1 = 1 + 1 from rfl] at h2
  exfalso
  have h3 : (2 ^ hs.length - (1 + 1)).testBit b = (decide (b < hs.length) && !(Nat.testBit 1 b)) := Nat.testBit_two_pow_sub_succ (by have := Nat.pow_le_pow_right (n := 2) (by omega) h1; omega) b
  rw [h3, decide_eq_true hb] at h2
  have : Nat.testBit 1 b = false := by
   rw [show (1 : Nat) = 2 ^ 0 from rfl, Nat.testBit_two_pow]; simp; omega
  rw [this] at h2; cases h2)
 rw [ones_but0 _ h8] at h
 omega
theorem sets_ne {hs : List Sn} (h8 : hs.length ≤ 8) : setsH hs ≠ [] := by
 rcases (fewH_spec hs (2 ^ hs.length)).2.2 with h | h
 · refine List.ne_nil_of_mem (a := 2 ^ hs.length - 1) ((mem_sets h8).2 ⟨by have := Nat.two_pow_pos hs.length; omega, fun a b hab hb h1 _ => ?_, by rw [ones_full _ h8]; exact h.symm⟩)
   rw [Nat.testBit_two_pow_sub_one, decide_eq_true (by omega)] at h1; cases h1
 exact h
theorem forN_mem {hs : List Sn} (h8 : hs.length ≤ 8) : forN hs ∈ setsH hs := minU_mem (List.length_pos_iff.2 (sets_ne h8)) _ (Nat.le_refl _)
theorem p256 {n : Nat} (h : n ≤ 8) : 2 ^ n ≤ 256 := Nat.pow_le_pow_right (n := 2) (by omega) h
theorem forV_len {hs : List Sn} (hV : ValidH hs) : (forV hs).1.length = leastH hs ∧ (forV hs).2 = 0 := by
 have h8 := hV.n8
 unfold forV
 rw [if_pos (chH_valid.2 hV)]
 obtain ⟨h1, h2, h3⟩ := (mem_sets h8).1 (forN_mem h8)
 refine ⟨?_, rfl⟩
 show (natsV (bitsL (forN hs))).length = _
 rw [List.length_map, bits_ones (by have := p256 h8; omega), h3]
end Go.Ab.MkF
namespace Go.Ab.MkF
open Go Go.Ab Go.Ab.Pln
def okJ (hs : List Sn) (L : List Int) (j : Nat) : Bool := (List.range L.length).all fun a => !(L.getD a 0 == (j : Int)) || pairH hs a L.length
def allC (hs : List Sn) : Nat → Nat → List Int → List (Nat × List Int)
 | 0, t, L => [(t, L)]
 | k + 1, t, L => (List.range (t + 1)).flatMap fun j => if okJ hs L j then allC hs k (max t (j + 1)) (L ++ [(j : Int)]) else []
def updS (s : Int × List Int) (q : Nat × List Int) : Int × List Int := if (q.1 : Int) ≥ s.1 then s else ((q.1 : Int), q.2)
theorem allC_ge (hs : List Sn) : ∀ k t L, ∀ q ∈ allC hs k t L, t ≤ q.1
 | 0, t, L, q, h => by
  simp only [allC, List.mem_singleton] at h; subst h; exact Nat.le_refl _
 | k + 1, t, L, q, h => by
  simp only [allC, List.mem_flatMap] at h
  obtain ⟨j, _, h⟩ := h
  split at h
  · have := allC_ge hs k _ _ q h; omega
  cases h
theorem foldS_stop {l : List (Nat × List Int)} {s : Int × List Int} (h : ∀ q ∈ l, (q.1 : Int) ≥ s.1) : l.foldl updS s = s := by
 induction l with
 | nil => rfl
 | cons a r ih =>
  rw [List.foldl_cons]
  unfold updS
  rw [if_pos (h a List.mem_cons_self)]
  exact ih fun q hq => h q (List.mem_cons_of_mem _ hq)
structure Lk (hs : List Sn) (T : List Nat) (L : List Int) : Prop where
 ok : SrcOk L.length T
 val : ∀ a, a < L.length → ∃ j : Nat, j < T.length ∧ L.getD a 0 = (j : Int)
 bit : ∀ j, j < T.length → ∀ a, (T.getD j 0).testBit a = true ↔ a < L.length ∧ L.getD a 0 = (j : Int)
 can : ∀ a b, a < b → b < L.length → L.getD a 0 = L.getD b 0 → pairH hs a b = true
theorem Lk.nil (hs : List Sn) : Lk hs [] [] := ⟨⟨Nat.le_refl _, fun x h => absurd h (by simp)⟩, fun a h => absurd h (Nat.not_lt_zero _), fun j h => absurd h (Nat.not_lt_zero _), fun a b _ h => absurd h (Nat.not_lt_zero _)⟩
theorem getD_app_lt {α : Type} {l : List α} {x d : α} {i : Nat} (h : i < l.length) : (l ++ [x]).getD i d = l.getD i d := by
 rw [getD_at (by simp; omega), getD_at h, List.getElem_append_left h]
theorem getD_app_at {α : Type} {l : List α} {x d : α} : (l ++ [x]).getD l.length d = x := by
 rw [getD_at (by simp)]; simp
theorem getD_app {α : Type} {l : List α} {x d : α} {i : Nat} (h : i < l.length + 1) : (i < l.length ∧ (l ++ [x]).getD i d = l.getD i d) ∨ i = l.length ∧ (l ++ [x]).getD i d = x := by
 rcases Nat.lt_or_eq_of_le (Nat.le_of_lt_succ h) with h | rfl
 · exact .inl ⟨h, getD_app_lt h⟩
 exact .inr ⟨rfl, getD_app_at⟩
theorem Lk.joinBit {hs : List Sn} {T : List Nat} {L : List Int} (h : Lk hs T L) {j : Nat} (hj : j ≤ T.length) (a : Nat) : ((sjoin T j (2 ^ L.length)).getD j 0).testBit a = true ↔ (a < L.length ∧ L.getD a 0 = (j : Int)) ∨ a = L.length := by
 rcases Nat.lt_or_eq_of_le hj with hlt | rfl
 · rw [sjoin_lt hlt, getD_at (by simpa using hlt), List.getElem_set_self, Nat.testBit_or, Nat.testBit_two_pow, Bool.or_eq_true, ← getD_at (d := 0) hlt, h.bit j hlt a, decide_eq_true_eq]
   exact ⟨fun h => h.imp id Eq.symm, fun h => h.imp id Eq.symm⟩
 rw [sjoin_ge, getD_app_at, Nat.testBit_two_pow, decide_eq_true_eq]
 constructor
 · exact fun h => .inr h.symm
 rintro (⟨h1, h2⟩ | h1)
 · obtain ⟨q, hq, h3⟩ := h.val a h1
   omega
 exact h1.symm
theorem Lk.okJ {hs : List Sn} {L : List Int} {j : Nat} : okJ hs L j = true ↔ ∀ a, a < L.length → L.getD a 0 = (j : Int) → pairH hs a L.length = true := by
 unfold Go.Ab.MkF.okJ
 rw [List.all_eq_true]
 constructor
 · intro h a ha he
   have := h a (List.mem_range.2 ha)
   rw [he] at this
   simpa using this
 intro h a ha
 have ha := List.mem_range.1 ha
 by_cases he : L.getD a 0 = (j : Int)
 · rw [h a ha he]; simp
 rw [show (L.getD a 0 == (j : Int)) = false from by simpa using he]; rfl
theorem Lk.join {hs : List Sn} {T : List Nat} {L : List Int} (h : Lk hs T L) {j : Nat} (hj : j ≤ T.length) (ho : Go.Ab.MkF.okJ hs L j = true) : Lk hs (sjoin T j (2 ^ L.length)) (L ++ [(j : Int)]) := by
 have hlen : (L ++ [(j : Int)]).length = L.length + 1 := by simp
 have hT : (sjoin T j (2 ^ L.length)).length = max T.length (j + 1) := by
  rcases Nat.lt_or_eq_of_le hj with hlt | rfl
  · rw [sjoin_lt hlt, List.length_set]; omega
  rw [sjoin_ge, List.length_append]; simp
 refine ⟨by rw [hlen]; exact h.ok.join hj, fun a ha => ?_, fun q hq a => ?_, fun a b hab hb he => ?_⟩
 · rw [hT]
   rw [hlen] at ha
   rcases getD_app (x := (j : Int)) (d := 0) ha with ⟨h1, h2⟩ | ⟨_, h2⟩
   · obtain ⟨q, hq, h3⟩ := h.val a h1
     exact ⟨q, by omega, by rw [h2, h3]⟩
   exact ⟨j, by omega, h2⟩
 · rw [hlen]
   by_cases hjq : q = j
   · subst hjq
     rw [h.joinBit hj a]
     constructor
     · rintro (⟨h1, h2⟩ | rfl)
       · exact ⟨by omega, by rw [getD_app_lt h1]; exact h2⟩
       exact ⟨by omega, getD_app_at⟩
     rintro ⟨h1, h2⟩
     rcases getD_app (x := (q : Int)) (d := 0) h1 with ⟨h3, h4⟩ | ⟨h3, _⟩
     · exact .inl ⟨h3, by rw [← h4]; exact h2⟩
     exact .inr h3
   rw [hT] at hq
   have hql : q < T.length := by omega
   have hg : (sjoin T j (2 ^ L.length)).getD q 0 = T.getD q 0 := by
    rcases Nat.lt_or_eq_of_le hj with hlt | rfl
    · rw [sjoin_lt hlt, getD_at (by simpa using hql), List.getElem_set_ne (Ne.symm hjq), getD_at hql]
    rw [sjoin_ge, getD_app_lt hql]
   rw [hg, h.bit q hql a]
   constructor
   · rintro ⟨h1, h2⟩
     exact ⟨by omega, by rw [getD_app_lt h1]; exact h2⟩
   rintro ⟨h1, h2⟩
   rcases getD_app (x := (j : Int)) (d := 0) h1 with ⟨h3, h4⟩ | ⟨_, h4⟩
   · exact ⟨h3, by rw [← h4]; exact h2⟩
   rw [h4] at h2; omega
 rw [hlen] at hb
 rw [getD_app_lt (by omega)] at he
 rcases getD_app (x := (j : Int)) (d := 0) hb with ⟨h3, h4⟩ | ⟨h3, h4⟩
 · exact h.can a b hab h3 (by rw [← h4]; exact he)
 subst h3
 exact Lk.okJ.1 ho a hab (by rw [he, h4])
theorem Lk.clash {hs : List Sn} {T : List Nat} {L : List Int} (h : Lk hs T L) {j : Nat} (hj : j ≤ T.length) (h8 : L.length < 8) : (clR hs ((sjoin T j (2 ^ L.length)).getD j 0)).isNone = Go.Ab.MkF.okJ hs L j := by
 have hb := h.joinBit hj
 generalize hX : (sjoin T j (2 ^ L.length)).getD j 0 = X at hb
 have hlt : X < 2 ^ (L.length + 1) := by
  have hok := h.ok.join hj
  have hm : X ∈ sjoin T j (2 ^ L.length) := by
   rw [← hX, getD_at (by
    rcases Nat.lt_or_eq_of_le hj with hlt | rfl
    · rw [sjoin_lt hlt, List.length_set]; exact hlt
    rw [sjoin_ge, List.length_append]; simp)]
   exact List.getElem_mem _
  exact (hok.x X hm).2
 rw [Bool.eq_iff_iff, Option.isNone_iff_eq_none, clR_none (c := L.length + 1) (by omega) hlt, Lk.okJ]
 constructor
 · exact fun hc a ha he => hc a L.length ha ((hb a).2 (.inl ⟨ha, he⟩)) ((hb _).2 (.inr rfl))
 intro hc a b hab h1 h2
 rcases (hb a).1 h1 with ⟨h3, h4⟩ | rfl
 · rcases (hb b).1 h2 with ⟨h5, h6⟩ | rfl
   · exact h.can a b hab h5 (by rw [h4, h6])
   exact hc a h3 h4
 rcases (hb b).1 h2 with ⟨h5, h6⟩ | rfl <;> omega
theorem Lk.joinLen {T : List Nat} {j b : Nat} (hj : j ≤ T.length) : (sjoin T j b).length = max T.length (j + 1) := by
 rcases Nat.lt_or_eq_of_le hj with hlt | rfl
 · rw [sjoin_lt hlt, List.length_set]; omega
 rw [sjoin_ge, List.length_append]; simp
theorem foldl_flat {α β γ : Type} (f : α → β → α) (g : γ → List β) : ∀ (l : List γ) (s : α), (l.flatMap g).foldl f s = l.foldl (fun s x => (g x).foldl f s) s
 | [], _ => rfl
 | a :: l, s => by rw [List.flatMap_cons, List.foldl_append, List.foldl_cons, foldl_flat f g l]
theorem foldl_same {α β : Type} {f g : α → β → α} : ∀ {l : List β} {s : α}, (∀ x ∈ l, ∀ s, f s x = g s x) → l.foldl f s = l.foldl g s
 | [], _, _ => rfl
 | a :: l, s, h => by
  rw [List.foldl_cons, List.foldl_cons, h a List.mem_cons_self]
  exact foldl_same fun x hx => h x (List.mem_cons_of_mem _ hx)
theorem srcF_all {hs : List Sn} (h8 : hs.length ≤ 8) : ∀ (k : Nat) (T : List Nat) (L : List Int) (s : Int × List Int), L.length + k = hs.length → Lk hs T L → srcF hs k T L s = (allC hs k T.length L).foldl updS s
 | 0, T, L, s, hk, h => by
  unfold srcF allC
  rfl
 | k + 1, T, L, s, hk, h => by
  by_cases hs1 : (T.length : Int) ≥ s.1
  · rw [srcF_stop hs1, foldS_stop]
    intro q hq
    have := allC_ge hs (k + 1) _ _ q hq
    omega
  rw [srcF_go hs1]
  unfold foldF
  rw [show hs.length - (k + 1) = L.length by omega]
  unfold allC
  rw [foldl_flat]
  refine foldl_same fun j hj s' => ?_
  have hj := List.mem_range.1 hj
  have hjl : j ≤ T.length := by omega
  unfold stepF
  rw [h.clash hjl (by omega)]
  cases ho : Go.Ab.MkF.okJ hs L j with
  | false => rfl
  | true =>
   rw [if_pos rfl, if_pos rfl, srcF_all h8 k _ _ s' (by simp; omega) (h.join hjl ho), Lk.joinLen hjl]
abbrev cols (hs : List Sn) : List (Nat × List Int) := allC hs hs.length 0 []
theorem srcS_eq {hs : List Sn} (h8 : hs.length ≤ 8) : srcS hs = (cols hs).foldl updS (((hs.length + 1 : Nat) : Int), []) := srcF_all h8 _ _ _ _ (by simp) (Lk.nil hs)
structure Col (hs : List Sn) (m : Nat) (f : Nat → Nat) : Prop where
 lt : ∀ a, a < hs.length → f a < m
 can : ∀ a b, a < b → b < hs.length → f a = f b → pairH hs a b = true
theorem allC_len (hs : List Sn) : ∀ k t L, ∀ q ∈ allC hs k t L, q.2.length = L.length + k
 | 0, t, L, q, h => by simp only [allC, List.mem_singleton] at h; subst h; rfl
 | k + 1, t, L, q, h => by
  simp only [allC, List.mem_flatMap] at h
  obtain ⟨j, _, h⟩ := h
  split at h
  · have := allC_len hs k _ _ q h; rw [this, List.length_append]; simp; omega
  cases h
theorem allC_col (hs : List Sn) : ∀ k t L, (∀ a, a < L.length → ∃ j : Nat, j < t ∧ L.getD a 0 = (j : Int)) → (∀ a b, a < b → b < L.length → L.getD a 0 = L.getD b 0 → pairH hs a b = true) →
  ∀ q ∈ allC hs k t L, (∀ a, a < q.2.length → ∃ j : Nat, j < q.1 ∧ q.2.getD a 0 = (j : Int)) ∧ ∀ a b, a < b → b < q.2.length → q.2.getD a 0 = q.2.getD b 0 → pairH hs a b = true
 | 0, t, L, h1, h2, q, h => by simp only [allC, List.mem_singleton] at h; subst h; exact ⟨h1, h2⟩
 | k + 1, t, L, h1, h2, q, h => by
  simp only [allC, List.mem_flatMap] at h
  obtain ⟨j, hj, h⟩ := h
  have hj := List.mem_range.1 hj
  split at h
  · rename_i ho
    refine allC_col hs k _ _ (fun a ha => ?_) (fun a b hab hb he => ?_) q h
    · rw [List.length_append] at ha
      rcases getD_app (x := (j : Int)) (d := 0) ha with ⟨h3, h4⟩ | ⟨h3, h4⟩
      · obtain ⟨i, hi, h5⟩ := h1 a h3
        exact ⟨i, by omega, by rw [h4, h5]⟩
      exact ⟨j, by omega, h4⟩
    rw [List.length_append] at hb
    have hb : b < L.length + 1 := hb
    rw [getD_app_lt (by omega)] at he
    rcases getD_app (x := (j : Int)) (d := 0) hb with ⟨h3, h4⟩ | ⟨h3, h4⟩
    · exact h2 a b hab h3 (by rw [he, h4])
    subst h3
    exact Lk.okJ.1 ho a hab (by rw [he, h4])
  cases h
theorem allC_least {hs : List Sn} {m : Nat} {f : Nat → Nat} (hf : Col hs m f) : ∀ k t L (g : Nat → Nat), L.length + k = hs.length → (∀ j, j < t → g j < m) → (∀ i j, i < j → j < t → g i ≠ g j) →
  (∀ a, a < L.length → ∃ j : Nat, j < t ∧ L.getD a 0 = (j : Int) ∧ g j = f a) → ∃ q ∈ allC hs k t L, q.1 ≤ m
 | 0, t, L, g, hk, h1, h2, h3 => by
  refine ⟨(t, L), by simp [allC], ?_⟩
  have hn : ((List.range t).map g).Nodup := List.pairwise_map.2 (List.Pairwise.imp_of_mem (fun ha hb hab => h2 _ _ hab (List.mem_range.1 hb)) List.pairwise_lt_range)
  have := List.Nodup.length_le_of_subset (l₂ := List.range m) hn fun x hx => by
   obtain ⟨a, ha, rfl⟩ := List.mem_map.1 hx
   exact List.mem_range.2 (h1 a (List.mem_range.1 ha))
  simpa using this
 | k + 1, t, L, g, hk, h1, h2, h3 => by
  have hiL : L.length < hs.length := by omega
  have key : ∀ (j : Nat) (g' : Nat → Nat), j ≤ t → (∀ i, i < max t (j + 1) → g' i < m) → (∀ i i', i < i' → i' < max t (j + 1) → g' i ≠ g' i') → (∀ i, i < t → g' i = g i) → g' j = f L.length →
    ∃ q ∈ allC hs (k + 1) t L, q.1 ≤ m := by
   intro j g' hj h4 h5 h6 h7
   have ho : okJ hs L j = true := Lk.okJ.2 fun a ha he => by
    obtain ⟨i, hi, h8, h9⟩ := h3 a ha
    have : i = j := by omega
    subst this
    exact hf.can a L.length ha hiL (by rw [← h9, ← h6 i hi, h7])
   obtain ⟨q, hq, hqm⟩ := allC_least hf k (max t (j + 1)) (L ++ [(j : Int)]) g' (by simp; omega) h4 h5 fun a ha => by
    rw [List.length_append] at ha
    rcases getD_app (x := (j : Int)) (d := 0) ha with ⟨h8, h9⟩ | ⟨h8, h9⟩
    · obtain ⟨i, hi, h10, h11⟩ := h3 a h8
      exact ⟨i, by omega, by rw [h9, h10], by rw [h6 i hi, h11]⟩
    subst h8
    exact ⟨j, by omega, h9, h7⟩
   refine ⟨q, ?_, hqm⟩
   simp only [allC, List.mem_flatMap]
   exact ⟨j, List.mem_range.2 (by omega), by rw [if_pos ho]; exact hq⟩
  by_cases he : ∃ j, j < t ∧ g j = f L.length
  · obtain ⟨j, hj, hg⟩ := he
    exact key j g (by omega) (by rw [show max t (j + 1) = t by omega]; exact h1) (by rw [show max t (j + 1) = t by omega]; exact h2) (fun _ _ => rfl) hg
  refine key t (fun i => if i < t then g i else f L.length) (Nat.le_refl _) ?_ ?_ ?_ ?_
  · intro i hi
    show (if i < t then g i else f L.length) < m
    split
    · exact h1 i (by assumption)
    exact hf.lt _ hiL
  · intro i i' hii hi'
    show (if i < t then g i else f L.length) ≠ (if i' < t then g i' else f L.length)
    rw [if_pos (by omega)]
    split
    · exact h2 i i' hii (by assumption)
    exact fun e => he ⟨i, by omega, e⟩
  · exact fun i hi => if_pos hi
  exact if_neg (Nat.lt_irrefl _)
theorem cols_least {hs : List Sn} {m : Nat} {f : Nat → Nat} (hf : Col hs m f) : ∃ q ∈ cols hs, q.1 ≤ m := allC_least hf _ _ _ id (by simp) (fun _ h => absurd h (Nat.not_lt_zero _)) (fun _ _ _ h => absurd h (Nat.not_lt_zero _)) (fun _ h => absurd h (Nat.not_lt_zero _))
theorem cols_col {hs : List Sn} {q : Nat × List Int} (hq : q ∈ cols hs) : q.2.length = hs.length ∧ Col hs q.1 fun a => (q.2.getD a 0).toNat := by
 have hl := allC_len hs _ _ _ q hq
 have hl : q.2.length = hs.length := by rw [hl]; simp
 obtain ⟨h1, h2⟩ := allC_col hs _ 0 [] (fun _ h => absurd h (Nat.not_lt_zero _)) (fun _ _ _ h => absurd h (Nat.not_lt_zero _)) q hq
 refine ⟨hl, fun a ha => ?_, fun a b hab hb he => ?_⟩
 · obtain ⟨j, hj, h3⟩ := h1 a (by omega)
   show (q.2.getD a 0).toNat < _
   rw [h3]; exact hj
 obtain ⟨j, _, h3⟩ := h1 a (by omega)
 obtain ⟨i, _, h4⟩ := h1 b (by omega)
 have he : (q.2.getD a 0).toNat = (q.2.getD b 0).toNat := he
 rw [h3, h4] at he
 exact h2 a b hab (by omega) (by rw [h3, h4]; have : j = i := he; omega)
theorem col_own (hs : List Sn) : Col hs hs.length id := ⟨fun _ h => h, fun a b hab _ he => by have : a = b := he; omega⟩
theorem foldS_spec : ∀ (l : List (Nat × List Int)) (s : Int × List Int), (l.foldl updS s = s ∨ ∃ q ∈ l, l.foldl updS s = ((q.1 : Int), q.2)) ∧ (l.foldl updS s).1 ≤ s.1 ∧ ∀ q ∈ l, (l.foldl updS s).1 ≤ q.1
 | [], s => ⟨.inl rfl, Int.le_refl _, fun q h => absurd h (by simp)⟩
 | a :: l, s => by
  obtain ⟨h1, h2, h3⟩ := foldS_spec l (updS s a)
  rw [List.foldl_cons]
  have hu : (updS s a).1 ≤ s.1 ∧ (updS s a).1 ≤ a.1 ∧ (updS s a = s ∨ updS s a = ((a.1 : Int), a.2)) := by
   unfold updS
   split
   · exact ⟨Int.le_refl _, by omega, .inl rfl⟩
   exact ⟨by show (a.1 : Int) ≤ _; omega, Int.le_refl _, .inr rfl⟩
  refine ⟨?_, by omega, fun q hq => ?_⟩
  · rcases h1 with h1 | ⟨q, hq, h1⟩
    · rw [h1]
      rcases hu.2.2 with h | h
      · exact .inl h
      exact .inr ⟨a, List.mem_cons_self, h⟩
    exact .inr ⟨q, List.mem_cons_of_mem _ hq, h1⟩
  rcases List.mem_cons.1 hq with rfl | hq
  · omega
  exact h3 q hq
theorem srcS_spec {hs : List Sn} (h8 : hs.length ≤ 8) : (∃ q ∈ cols hs, srcS hs = ((q.1 : Int), q.2)) ∧ ∀ m f, Col hs m f → (srcS hs).1 ≤ m := by
 rw [srcS_eq h8]
 obtain ⟨h1, h2, h3⟩ := foldS_spec (cols hs) (((hs.length + 1 : Nat) : Int), [])
 have hle : ∀ m f, Col hs m f → ((cols hs).foldl updS (((hs.length + 1 : Nat) : Int), [])).1 ≤ m := fun m f hf => by
  obtain ⟨q, hq, hm⟩ := cols_least hf
  have := h3 q hq
  omega
 refine ⟨?_, hle⟩
 rcases h1 with h1 | h1
 · have := hle _ _ (col_own hs)
   rw [h1] at this
   have this : ((hs.length + 1 : Nat) : Int) ≤ hs.length := this
   omega
 exact h1
theorem srcS_col {hs : List Sn} (h8 : hs.length ≤ 8) : ∃ m : Nat, (srcS hs).1 = m ∧ (srcS hs).2.length = hs.length ∧ ∃ f, Col hs m f := by
 obtain ⟨⟨q, hq, he⟩, _⟩ := srcS_spec h8
 obtain ⟨h1, h2⟩ := cols_col hq
 exact ⟨q.1, by rw [he], by rw [he]; exact h1, _, h2⟩
theorem srcV_ok {hs : List Sn} (hV : ValidH hs) : srcV hs = ((srcS hs).2, (srcS hs).1, 0) := by unfold srcV; rw [if_pos (chH_valid.2 hV)]
end Go.Ab.MkF
namespace Go.Ab.MkF
open Go Go.Ab Go.Ab.Pln
theorem bits_range {n c : Nat} (hc : c ≤ 64) (hn : n < 2 ^ c) {a : Nat} (h : a ∈ bitsL n) : a < c := by
 rw [bitsL_below hc hn] at h
 exact List.mem_range.1 (List.mem_filter.1 h).1
theorem has_bits {X c k : Nat} (hc : c ≤ 64) (hX : X < 2 ^ c) : ((natsV (bitsL X)).any fun x => x == (k : Int)) = X.testBit k := by
 rw [Bool.eq_iff_iff, ← bitsL_mem hc hX, List.any_eq_true]
 constructor
 · rintro ⟨x, hx, he⟩
   obtain ⟨a, ha, rfl⟩ := List.mem_map.1 hx
   have : a = k := by have := eq_of_beq he; omega
   exact this ▸ ha
 exact fun h => ⟨(k : Int), List.mem_map.2 ⟨k, h, rfl⟩, by simp⟩
theorem restU_test (n : Nat) (l : List Nat) (k : Nat) : ∀ i, i ≤ l.length → (restU n (natsV l) i).testBit k = (decide (k < n) && !(l.take i).contains k)
 | 0, _ => by
  show (2 ^ n - 1).testBit k = _
  rw [Nat.testBit_two_pow_sub_one]; simp
 | i + 1, h => by
  rw [restU_succ (by rw [List.length_map]; omega), less_test, restU_test n l k i (by omega), take_succ' (by omega : i < l.length)]
  simp only [List.getElem_map, Int.toNat_natCast, Nat.testBit_two_pow]
  rw [Bool.eq_iff_iff]
  simp only [Bool.and_eq_true, Bool.not_eq_true', decide_eq_true_eq, decide_eq_false_iff_not, List.contains_eq_mem, List.mem_append, List.mem_singleton, not_or]
  constructor
  · rintro ⟨⟨h1, h2⟩, h3⟩; exact ⟨h1, h2, fun e => h3 e.symm⟩
  rintro ⟨h1, h2, h3⟩; exact ⟨⟨h1, h2⟩, fun e => h3 e.symm⟩
theorem restN_set {hs : List Sn} (h8 : hs.length ≤ 8) {X : Nat} (hX : X < 2 ^ hs.length) : restN hs (natsV (bitsL X)) = less (2 ^ hs.length - 1) X := by
 apply Nat.eq_of_testBit_eq
 intro k
 unfold restN
 rw [List.length_map, restU_test _ _ _ _ (Nat.le_refl _), List.take_length, rest_test]
 congr 2
 rw [Bool.eq_iff_iff, List.contains_iff_mem, bitsL_mem (c := hs.length) (by omega) hX]
theorem allU_test {n : Nat} {l : List Nat} {k : Nat} : ∀ i, i ≤ l.length → ((allU n l i).testBit k = true ↔ k < n ∧ ∀ x ∈ l.take i, x.testBit k = true)
 | 0, _ => by
  show (2 ^ n - 1).testBit k = true ↔ _
  rw [Nat.testBit_two_pow_sub_one]; simp
 | i + 1, h => by
  rw [allU_succ (by omega), Nat.testBit_and, Bool.and_eq_true, allU_test i (by omega), take_succ' (by omega : i < l.length)]
  constructor
  · rintro ⟨⟨h1, h2⟩, h3⟩
    refine ⟨h1, fun x hx => ?_⟩
    rcases List.mem_append.1 hx with hx | hx
    · exact h2 x hx
    rw [List.mem_singleton] at hx; subst hx; exact h3
  rintro ⟨h1, h2⟩
  exact ⟨⟨h1, fun x hx => h2 x (List.mem_append_left _ hx)⟩, h2 _ (List.mem_append_right _ (List.mem_singleton.2 rfl))⟩
theorem someU_test {l : List Nat} {k : Nat} : ∀ i, i ≤ l.length → ((someU l i).testBit k = true ↔ ∃ x ∈ l.take i, x.testBit k = true)
 | 0, _ => by
  show (0 : Nat).testBit k = true ↔ _
  simp
 | i + 1, h => by
  rw [someU_succ (by omega), Nat.testBit_or, Bool.or_eq_true, someU_test i (by omega), take_succ' (by omega : i < l.length)]
  constructor
  · rintro (⟨x, hx, h1⟩ | h1)
    · exact ⟨x, List.mem_append_left _ hx, h1⟩
    exact ⟨_, List.mem_append_right _ (List.mem_singleton.2 rfl), h1⟩
  rintro ⟨x, hx, h1⟩
  rcases List.mem_append.1 hx with hx | hx
  · exact .inl ⟨x, hx, h1⟩
  rw [List.mem_singleton] at hx; subst hx; exact .inr h1
abbrev mustH (hs : List Sn) : Nat := allU hs.length (setsH hs) (setsH hs).length
abbrev mayH (hs : List Sn) : Nat := someU (setsH hs) (setsH hs).length
theorem mustH_lt (hs : List Sn) : mustH hs < 2 ^ hs.length := allU_lt _ _ (Nat.le_refl _)
theorem mayH_lt (hs : List Sn) : mayH hs < 2 ^ hs.length := someU_lt (fun x hx => fewH_lt hs _ x hx) _ (Nat.le_refl _)
def someL (b n : Nat) : List Nat := (List.range n).filter b.testBit
end Go.Ab.MkF
namespace Go.Ab.MkF
open Go Go.Ab Go.Ab.Pln
theorem pairX_iff {x y : Sn} : pairX x y = true ↔ (x.1 = y.1 ∨ x.1 * y.1 = 0) ∧ x.2.1 ≤ y.2.2 ∧ y.2.1 ≤ x.2.2 := by
 unfold pairX
 simp [and_assoc]
theorem pairX_comm (x y : Sn) : pairX x y = pairX y x := by
 rw [Bool.eq_iff_iff, pairX_iff, pairX_iff, Int.mul_comm]
 constructor <;> rintro ⟨h1, h2, h3⟩ <;> exact ⟨h1.imp Eq.symm id, h3, h2⟩
structure Blur (x y : Sn) : Prop where
 kind : y.1 = x.1 ∨ y.1 = 0
 lo : y.2.1 ≤ x.2.1
 hi : x.2.2 ≤ y.2.2
theorem Blur.pair {x y z : Sn} (h : Blur x y) (hp : pairX x z = true) : pairX y z = true := by
 rw [pairX_iff] at hp ⊢
 obtain ⟨h1, h2, h3⟩ := hp
 have := h.lo
 have := h.hi
 refine ⟨?_, by omega, by omega⟩
 rcases h.kind with e | e
 · rw [e]; exact h1
 rw [e]; simp
def blurV (x : Sn) (a b : Int) : Sn := (if a > b then 0 else x.1, max 1 (x.2.1 - a), min 600 (x.2.2 + b))
end Go.Ab.MkF
namespace Go.Ab.MkF
open Go Go.Ab Go.Ab.Pln
def comS (hs : List Sn) (s : Int × Int × Int) (x : Nat) : Int × Int × Int := (max s.1 (hs.getD x sn0).1, max s.2.1 (hs.getD x sn0).2.1, min s.2.2 (hs.getD x sn0).2.2)
def comU (hs : List Sn) (l : List Nat) (i : Nat) : Int × Int × Int := (l.take i).foldl (comS hs) (0, 1, 600)
def offB (hs : List Sn) (s : Int × Int × Int) (x : Nat) : Bool := decide ((hs.getD x sn0).1 > 0) && decide (s.1 > 0) && ((hs.getD x sn0).1 != s.1)
def offU (hs : List Sn) (l : List Nat) (i : Nat) : Bool := (List.range i).any fun k => offB hs (comU hs l k) (l.getD k 0)
def comV (hs : List Sn) (l : List Nat) : Int × Int := if offU hs l l.length = true then (1, 0) else (comU hs l l.length).2
theorem comU_succ {hs : List Sn} {l : List Nat} {i : Nat} (h : i < l.length) : comU hs l (i + 1) = comS hs (comU hs l i) l[i] := by unfold comU; rw [take_succ' h, List.foldl_append]; rfl
theorem offU_succ {hs : List Sn} {l : List Nat} {i : Nat} (h : i < l.length) : offU hs l (i + 1) = (offU hs l i || offB hs (comU hs l i) l[i]) := by
 unfold offU; rw [List.range_succ, List.any_append, ← getD_at (d := 0) h]; simp
theorem offU_at {hs : List Sn} {l : List Nat} {i : Nat} (h : i < l.length) (hb : offB hs (comU hs l i) l[i] = true) : offU hs l l.length = true := by
 unfold offU
 exact any_yes h (by rw [getD_at h]; exact hb)
theorem com_lo (hs : List Sn) (l : List Nat) (v : Int) : ∀ i, i ≤ l.length → ((comU hs l i).2.1 ≤ v ↔ 1 ≤ v ∧ ∀ x ∈ l.take i, (hs.getD x sn0).2.1 ≤ v)
 | 0, _ => by show (1 : Int) ≤ v ↔ _; simp
 | i + 1, h => by
  have ih := com_lo hs l v i (by omega)
  rw [comU_succ (by omega), take_succ' (by omega : i < l.length)]
  show max _ _ ≤ v ↔ _
  rw [Int.max_le, ih]
  constructor
  · rintro ⟨⟨h1, h2⟩, h3⟩
    refine ⟨h1, fun x hx => ?_⟩
    rcases List.mem_append.1 hx with hx | hx
    · exact h2 x hx
    rw [List.mem_singleton] at hx; subst hx; exact h3
  rintro ⟨h1, h2⟩
  exact ⟨⟨h1, fun x hx => h2 x (List.mem_append_left _ hx)⟩, h2 _ (List.mem_append_right _ (List.mem_singleton.2 rfl))⟩
theorem com_hi (hs : List Sn) (l : List Nat) (v : Int) : ∀ i, i ≤ l.length → (v ≤ (comU hs l i).2.2 ↔ v ≤ 600 ∧ ∀ x ∈ l.take i, v ≤ (hs.getD x sn0).2.2)
 | 0, _ => by show v ≤ (600 : Int) ↔ _; simp
 | i + 1, h => by
  have ih := com_hi hs l v i (by omega)
  rw [comU_succ (by omega), take_succ' (by omega : i < l.length)]
  show v ≤ min _ _ ↔ _
  rw [Int.le_min, ih]
  constructor
  · rintro ⟨⟨h1, h2⟩, h3⟩
    refine ⟨h1, fun x hx => ?_⟩
    rcases List.mem_append.1 hx with hx | hx
    · exact h2 x hx
    rw [List.mem_singleton] at hx; subst hx; exact h3
  rintro ⟨h1, h2⟩
  exact ⟨⟨h1, fun x hx => h2 x (List.mem_append_left _ hx)⟩, h2 _ (List.mem_append_right _ (List.mem_singleton.2 rfl))⟩
def kinB (a b : Int) : Bool := a == b || a * b == 0
theorem kinB_iff {a b : Int} : kinB a b = true ↔ a = b ∨ a = 0 ∨ b = 0 := by
 unfold kinB
 rw [Bool.or_eq_true, beq_iff_eq, beq_iff_eq, Int.mul_eq_zero]
theorem kmax {K c x : Int} (hK : 0 ≤ K) (hc : 0 ≤ c) (hb : c = 0 ∨ K = 0 ∨ c = K) (h : x = 0 ∨ x = K) : x = 0 ∨ x = max K c := by omega
theorem kmax2 {K c : Int} (_hK : 0 ≤ K) (hc : 0 ≤ c) (hb : c = 0 ∨ K = 0 ∨ c = K) : c = 0 ∨ c = max K c := by omega
theorem com_kind {hs : List Sn} {l : List Nat} (hk : ∀ x ∈ l, 0 ≤ (hs.getD x sn0).1) : ∀ i, i ≤ l.length → 0 ≤ (comU hs l i).1 ∧
  (offU hs l i = false → (∀ x ∈ l.take i, (hs.getD x sn0).1 = 0 ∨ (hs.getD x sn0).1 = (comU hs l i).1) ∧ ((comU hs l i).1 = 0 ∨ ∃ x ∈ l.take i, (hs.getD x sn0).1 = (comU hs l i).1)) ∧
  (offU hs l i = true → ∃ x ∈ l.take i, ∃ y ∈ l.take i, kinB (hs.getD x sn0).1 (hs.getD y sn0).1 = false)
 | 0, _ => ⟨Int.le_refl _, fun _ => ⟨fun x hx => by simp at hx, .inl rfl⟩, fun h => by simp [offU] at h⟩
 | i + 1, h => by
  obtain ⟨h0, h1, h2⟩ := com_kind hk i (by omega)
  have hi : i < l.length := by omega
  have hx0 := hk _ (List.getElem_mem hi)
  have hm : ∀ {x}, x ∈ l.take i → x ∈ l.take (i + 1) := fun hx => by rw [take_succ' hi]; exact List.mem_append_left _ hx
  have hme : l[i] ∈ l.take (i + 1) := by rw [take_succ' hi]; exact List.mem_append_right _ (List.mem_singleton.2 rfl)
  have hc : (comU hs l (i + 1)).1 = max (comU hs l i).1 (hs.getD l[i] sn0).1 := by rw [comU_succ hi]; rfl
  have hof : offB hs (comU hs l i) l[i] = (decide ((hs.getD l[i] sn0).1 > 0) && decide ((comU hs l i).1 > 0) && ((hs.getD l[i] sn0).1 != (comU hs l i).1)) := rfl
  rw [hc, offU_succ hi, hof]
  generalize (comU hs l i).1 = K at *
  generalize hcc : (hs.getD l[i] sn0).1 = c at *
  refine ⟨by omega, fun hf => ?_, fun ht => ?_⟩
  · rw [Bool.or_eq_false_iff] at hf
    obtain ⟨g1, g2⟩ := h1 hf.1
    have hb := hf.2
    have hb2 : c = 0 ∨ K = 0 ∨ c = K := by
     simp at hb
     clear h1 h2 g1 g2
     omega
    refine ⟨fun x hx => ?_, ?_⟩
    · rw [take_succ' hi] at hx
      rcases List.mem_append.1 hx with hx | hx
      · exact kmax h0 hx0 hb2 (g1 x hx)
      rw [List.mem_singleton] at hx; subst hx; rw [hcc]; exact kmax2 h0 hx0 hb2
    rcases Int.lt_or_le K c with hlt | hle
    · exact .inr ⟨l[i], hme, hcc.trans (Int.max_eq_right (Int.le_of_lt hlt)).symm⟩
    rw [Int.max_eq_left hle]
    exact g2.imp id fun ⟨x, hx, e⟩ => ⟨x, hm hx, e⟩
  cases hf : offU hs l i with
  | true =>
   obtain ⟨x, hx, y, hy, hxy⟩ := h2 hf
   exact ⟨x, hm hx, y, hm hy, hxy⟩
  | false =>
   rw [hf, Bool.false_or] at ht
   obtain ⟨_, g2⟩ := h1 hf
   rw [Bool.and_eq_true, Bool.and_eq_true, decide_eq_true_eq, decide_eq_true_eq, bne_iff_ne] at ht
   obtain ⟨⟨ht1, ht2⟩, ht3⟩ := ht
   rcases g2 with e | ⟨x, hx, e⟩
   · exfalso; clear h1 h2; omega
   refine ⟨x, hm hx, l[i], hme, ?_⟩
   rw [Bool.eq_false_iff, Ne, kinB_iff, e, hcc]
   clear h1 h2
   omega
theorem pairH_kin {hs : List Sn} {x y : Nat} : pairH hs x y = true ↔ kinB (hs.getD x sn0).1 (hs.getD y sn0).1 = true ∧ (hs.getD x sn0).2.1 ≤ (hs.getD y sn0).2.2 ∧ (hs.getD y sn0).2.1 ≤ (hs.getD x sn0).2.2 := by
 unfold pairH pairX kinB
 simp [and_assoc]
theorem sn_at {hs : List Sn} (hV : ValidH hs) {x : Nat} (hx : x < hs.length) : (0 ≤ (hs.getD x sn0).1 ∧ (hs.getD x sn0).1 ≤ 2) ∧ 1 ≤ (hs.getD x sn0).2.1 ∧ (hs.getD x sn0).2.1 ≤ (hs.getD x sn0).2.2 ∧ (hs.getD x sn0).2.2 ≤ 600 := by
 rw [getD_at hx]; exact hV.sn hx
theorem one_iff {hs : List Sn} (hV : ValidH hs) {l : List Nat} (hl : ∀ x ∈ l, x < hs.length) : (comV hs l).1 ≤ (comV hs l).2 ↔ ∀ x ∈ l, ∀ y ∈ l, pairH hs x y = true := by
 have hk : ∀ x ∈ l, 0 ≤ (hs.getD x sn0).1 := fun x hx => (sn_at hV (hl x hx)).1.1
 obtain ⟨_, h1, h2⟩ := com_kind hk l.length (Nat.le_refl _)
 rw [List.take_length] at h1 h2
 unfold comV
 cases hf : offU hs l l.length with
 | true =>
  obtain ⟨x, hx, y, hy, hxy⟩ := h2 hf
  constructor
  · intro h
    exact absurd (show (1 : Int) ≤ 0 from h) (by decide)
  intro h
  have := (pairH_kin.1 (h x hx y hy)).1
  rw [hxy] at this; cases this
 | false =>
  obtain ⟨g1, g2⟩ := h1 hf
  have hlo := com_lo hs l (comU hs l l.length).2.2 l.length (Nat.le_refl _)
  have hhi : ∀ v, v ≤ (comU hs l l.length).2.2 ↔ _ := fun v => com_hi hs l v l.length (Nat.le_refl _)
  rw [List.take_length] at hlo
  simp only [List.take_length] at hhi
  show (comU hs l l.length).2.1 ≤ (comU hs l l.length).2.2 ↔ _
  rw [hlo, hhi]
  constructor
  · rintro ⟨_, h3⟩ x hx y hy
    have h4 := ((hhi _).1 (h3 x hx)).2 y hy
    have h5 := ((hhi _).1 (h3 y hy)).2 x hx
    refine pairH_kin.2 ⟨kinB_iff.2 ?_, h4, h5⟩
    rcases g1 x hx with e | e
    · exact .inr (.inl e)
    rcases g1 y hy with e2 | e2
    · exact .inr (.inr e2)
    exact .inl (by rw [e, e2])
  intro h
  refine ⟨⟨by decide, fun x hx => ?_⟩, fun x hx => (hhi _).2 ⟨?_, fun y hy => (pairH_kin.1 (h x hx y hy)).2.1⟩⟩
  · have := sn_at hV (hl x hx); omega
  have := sn_at hV (hl x hx); omega
def oneB (hs : List Sn) (l : List Nat) : Bool := decide ((comV hs l).1 ≤ (comV hs l).2)
theorem pairH_self {hs : List Sn} (hV : ValidH hs) {x : Nat} (hx : x < hs.length) : pairH hs x x = true := by
 have := sn_at hV hx
 exact pairH_kin.2 ⟨kinB_iff.2 (.inl rfl), by omega, by omega⟩
theorem pairH_comm (hs : List Sn) (x y : Nat) : pairH hs x y = pairH hs y x := pairX_comm _ _
theorem one_bits {hs : List Sn} (hV : ValidH hs) {X : Nat} (hX : X < 2 ^ hs.length) : oneB hs (bitsL X) = (clR hs X).isNone := by
 have h8 := hV.n8
 unfold oneB
 rw [Bool.eq_iff_iff, decide_eq_true_eq, one_iff hV (fun x hx => bits_range (c := hs.length) (by omega) hX hx), Option.isNone_iff_eq_none, clR_none (c := hs.length) (by omega) hX]
 constructor
 · exact fun h a b hab ha hb => h a ((bitsL_mem (by omega) hX).2 ha) b ((bitsL_mem (by omega) hX).2 hb)
 intro h x hx y hy
 have hx' := (bitsL_mem (c := hs.length) (by omega) hX).1 hx
 have hy' := (bitsL_mem (c := hs.length) (by omega) hX).1 hy
 rcases Nat.lt_trichotomy x y with hxy | rfl | hxy
 · exact h x y hxy hx' hy'
 · exact pairH_self hV (bits_range (by omega) hX hx)
 rw [pairH_comm]; exact h y x hxy hy' hx'
end Go.Ab.MkF
namespace Go.Ab.MkF
open Go Go.Ab Go.Ab.Pln
def restL (n : Nat) (told : List Int) : List Nat := (List.range n).filter fun k => !(told.any fun x => x == (k : Int))
def tolK (e : Int) (n : Nat) (told : List Int) (i : Nat) : Int := if e ≠ 0 then e else if (told.take i).any (outB 0 ((n : Int) - 1)) then 4 else 0
def ascK (e : Int) (told : List Int) (i : Nat) : Int := if e ≠ 0 then e else if ((List.range i).all fun j => !ascB told j) then 0 else 2
abbrev tolE (hs : List Sn) (told : List Int) : Int := tolK (chHE hs) hs.length told told.length
structure Told (hs : List Sn) (told : List Int) (l : List Nat) : Prop where
 V : ValidH hs
 eq : told = natsV l
 lt : ∀ x ∈ l, x < hs.length
 asc : l.Pairwise (· < ·)
theorem Told.nodup {hs : List Sn} {told : List Int} {l : List Nat} (h : Told hs told l) : l.Nodup := h.asc.imp fun hab => by omega
theorem any_nats (l : List Nat) (k : Nat) : ((natsV l).any fun x => x == (k : Int)) = l.contains k := by
 rw [Bool.eq_iff_iff, List.any_eq_true, List.contains_iff_mem]
 constructor
 · rintro ⟨x, hx, he⟩
   obtain ⟨a, ha, rfl⟩ := List.mem_map.1 hx
   have : a = k := by have := eq_of_beq he; omega
   exact this ▸ ha
 exact fun h => ⟨(k : Int), List.mem_map.2 ⟨k, h, rfl⟩, by simp⟩
theorem Told.rest {hs : List Sn} {told : List Int} {l : List Nat} (h : Told hs told l) : restL hs.length told = bitsL (restN hs told) := by
 have h8 := h.V.n8
 rw [bitsL_below (c := hs.length) (by omega) (restN_lt hs told)]
 unfold restL
 apply List.filter_congr
 intro k hk
 rw [h.eq, any_nats]
 unfold restN
 rw [List.length_map, restU_test _ _ _ _ (Nat.le_refl _), List.take_length, decide_eq_true (List.mem_range.1 hk), Bool.true_and]
theorem Told.len {hs : List Sn} {told : List Int} {l : List Nat} (h : Told hs told l) : told.length ≤ hs.length := by
 rw [h.eq, List.length_map]
 have := List.Nodup.length_le_of_subset (l₂ := List.range hs.length) h.nodup fun x hx => List.mem_range.2 (h.lt x hx)
 simpa using this
theorem Told.all {hs : List Sn} {told : List Int} {l : List Nat} (h : Told hs told l) : told.length = hs.length ↔ restL hs.length told = [] := by
 have hll : told.length = l.length := by rw [h.eq, List.length_map]
 constructor
 · intro he
   unfold restL
   rw [List.filter_eq_nil_iff]
   intro k hk hn
   rw [h.eq, any_nats] at hn
   have hk := List.mem_range.1 hk
   have hnk : k ∉ l := fun hm => by rw [List.contains_iff_mem.2 hm] at hn; cases hn
   have := List.Nodup.length_le_of_subset (l₁ := k :: l) (l₂ := List.range hs.length) (List.nodup_cons.2 ⟨hnk, h.nodup⟩) fun x hx => by
    rcases List.mem_cons.1 hx with rfl | hx
    · exact List.mem_range.2 hk
    exact List.mem_range.2 (h.lt x hx)
   simp at this
   omega
 intro he
 have hle := h.len
 have := List.Nodup.length_le_of_subset (l₁ := List.range hs.length) (l₂ := l) List.nodup_range fun x hx => by
  unfold restL at he
  rw [List.filter_eq_nil_iff] at he
  have := he x hx
  rw [h.eq, any_nats] at this
  simpa using this
 simp at this
 omega
theorem one_rest {hs : List Sn} {told : List Int} {l : List Nat} (h : Told hs told l) : oneB hs (restL hs.length told) = (clR hs (restN hs told)).isNone := by
 rw [h.rest, one_bits h.V (restN_lt hs told)]
end Go.Ab.MkF
namespace Go.Ab.MkF
open Go Go.Ab Go.Ab.Pln
theorem cmB_bef (a b : Nat) : cmB a b = befL (natsV (bitsL a)) (natsV (bitsL b)) := by unfold cmB cmpS; exact cmpL_lt _ _
theorem minU_least {l : List Nat} : ∀ i, i ≤ l.length → ∀ x ∈ l.take i, cmB x (minU cmB l i) = false
 | 0, _, x, hx => by simp at hx
 | i + 1, h, x, hx => by
  have ih := minU_least (l := l) i (by omega)
  rw [minU_succ (by omega)]
  rw [take_succ' (by omega : i < l.length)] at hx
  split
  · rename_i hc
    rw [cmB_bef] at hc ⊢
    rcases List.mem_append.1 hx with hx | hx
    · have := ih x hx
      rw [cmB_bef] at this
      cases hb : befL (natsV (bitsL x)) (natsV (bitsL l[i])) with
      | false => rfl
      | true => rw [befL_trans _ _ _ hb hc] at this; cases this
    rw [List.mem_singleton] at hx; subst hx; exact befL_irr _
  rename_i hc
  rcases List.mem_append.1 hx with hx | hx
  · exact ih x hx
  rw [List.mem_singleton] at hx; subst hx; simpa using hc
theorem asc_bits {l : List Nat} {c : Nat} (hc : c ≤ 64) (h : Asc 0 c l) : bitsL (bitsO l) = l ∧ bitsO l < 2 ^ c := by
 refine ⟨?_, bitsO_lt fun x hx => (h.2 x hx).2⟩
 have h1 := asc_filter h
 have h2 := bitsL_bitsO hc (fun j => l.contains j)
 rw [← h1] at h2
 exact h2
theorem bits_Asc {X c : Nat} (hc : c ≤ 64) (hX : X < 2 ^ c) : Asc 0 c (bitsL X) := by rw [bitsL_below hc hX]; exact filter_asc _
theorem bitsO_bits {X c : Nat} (hc : c ≤ 64) (hX : X < 2 ^ c) : bitsO (bitsL X) = X := by
 apply Nat.eq_of_testBit_eq
 intro k
 rw [bitsO_test, Bool.eq_iff_iff, List.contains_iff_mem, bitsL_mem hc hX]
def fewL (hs : List Sn) (m : Nat) : List (List Nat) := (listsL 0 hs.length m).filter fun l => accB hs (bitsO l)
abbrev fewR (hs : List Sn) : List (List Nat) := fewL hs (leastH hs)
theorem fewL_mem {hs : List Sn} {m : Nat} {l : List Nat} : l ∈ fewL hs m ↔ l.length = m ∧ Asc 0 hs.length l ∧ accB hs (bitsO l) = true := by
 unfold fewL; rw [List.mem_filter, listsL_mem, and_assoc]
theorem asc_ones {hs : List Sn} (h8 : hs.length ≤ 8) {l : List Nat} (h : Asc 0 hs.length l) : onesN (bitsO l) = l.length := by
 obtain ⟨h1, h2⟩ := asc_bits (by omega) h
 have hp := p256 h8
 rw [← bits_ones (by omega), h1]
theorem fewR_sets {hs : List Sn} (h8 : hs.length ≤ 8) {l : List Nat} (h : l ∈ fewR hs) : bitsO l ∈ setsH hs ∧ bitsL (bitsO l) = l := by
 obtain ⟨h1, h2, h3⟩ := fewL_mem.1 h
 exact ⟨(mem_sets h8).2 ⟨(asc_bits (by omega) h2).2, (accB_iff h8).1 h3, by rw [asc_ones h8 h2, h1]⟩, (asc_bits (by omega) h2).1⟩
theorem sets_fewR {hs : List Sn} (h8 : hs.length ≤ 8) {X : Nat} (h : X ∈ setsH hs) : bitsL X ∈ fewR hs := by
 obtain ⟨h1, h2, h3⟩ := (mem_sets h8).1 h
 have hp := p256 h8
 exact fewL_mem.2 ⟨by rw [bits_ones (by omega), h3], bits_Asc (by omega) h1, by rw [bitsO_bits (c := hs.length) (by omega) h1]; exact (accB_iff h8).2 h2⟩
theorem fewL_none {hs : List Sn} (h8 : hs.length ≤ 8) {m : Nat} (h : m < leastH hs) : fewL hs m = [] := by
 rw [List.eq_nil_iff_forall_not_mem]
 intro l hl
 obtain ⟨h1, h2, h3⟩ := fewL_mem.1 hl
 have := least_le h8 (asc_bits (by omega) h2).2 ((accB_iff h8).1 h3)
 rw [asc_ones h8 h2, h1] at this
 omega
theorem fewR_ne {hs : List Sn} (h8 : hs.length ≤ 8) : fewR hs ≠ [] := List.ne_nil_of_mem (sets_fewR h8 (forN_mem h8))
theorem fewR_head {hs : List Sn} (h8 : hs.length ≤ 8) : (fewR hs).getD 0 [] = bitsL (forN hs) := by
 have hs1 : (fewR hs).Pairwise fun a c => befL (natsV a) (natsV c) = true := (listsL_sorted _ _ _).filter _
 obtain ⟨a, r, hr⟩ := List.exists_cons_of_ne_nil (fewR_ne h8)
 rw [hr] at hs1 ⊢
 show a = _
 have ha : a ∈ fewR hs := by rw [hr]; exact List.mem_cons_self
 obtain ⟨g1, g2⟩ := fewR_sets h8 ha
 have hm := minU_least (l := setsH hs) _ (Nat.le_refl _) (bitsO a) (by rw [List.take_length]; exact g1)
 rw [cmB_bef, g2] at hm
 have hF := sets_fewR h8 (forN_mem h8)
 rw [hr] at hF
 rcases List.mem_cons.1 hF with e | hF
 · exact e.symm
 have h3 := (List.pairwise_cons.1 hs1).1 _ hF
 exact absurd (h3.symm.trans hm) (by simp)
theorem forV_ref {hs : List Sn} (hV : ValidH hs) : forV hs = (natsV ((fewR hs).getD 0 []), 0) := by
 unfold forV
 rw [if_pos (chH_valid.2 hV), fewR_head hV.n8]
def mustL (hs : List Sn) (i : Nat) : List Nat := (List.range i).filter fun k => (fewR hs).all fun l => l.contains k
def mayL (hs : List Sn) (i : Nat) : List Nat := (List.range i).filter fun k => (fewR hs).any fun l => l.contains k
theorem must_ref {hs : List Sn} (h8 : hs.length ≤ 8) : bitsL (mustH hs) = mustL hs hs.length := by
 rw [bitsL_below (c := hs.length) (by omega) (mustH_lt hs)]
 apply List.filter_congr
 intro k hk
 have hk := List.mem_range.1 hk
 rw [Bool.eq_iff_iff, allU_test _ (Nat.le_refl _), List.take_length, List.all_eq_true]
 constructor
 · rintro ⟨_, h⟩ l hl
   obtain ⟨g1, g2⟩ := fewR_sets h8 hl
   have := h _ g1
   rw [bitsO_test] at this
   exact this
 intro h
 refine ⟨hk, fun x hx => ?_⟩
 have := h _ (sets_fewR h8 hx)
 rw [List.contains_iff_mem] at this
 exact (bitsL_mem (c := hs.length) (by omega) ((mem_sets h8).1 hx).1).1 this
theorem may_ref {hs : List Sn} (h8 : hs.length ≤ 8) : bitsL (mayH hs) = mayL hs hs.length := by
 rw [bitsL_below (c := hs.length) (by omega) (mayH_lt hs)]
 apply List.filter_congr
 intro k hk
 rw [Bool.eq_iff_iff, someU_test _ (Nat.le_refl _), List.take_length, List.any_eq_true]
 constructor
 · rintro ⟨x, hx, h⟩
   exact ⟨_, sets_fewR h8 hx, List.contains_iff_mem.2 ((bitsL_mem (c := hs.length) (by omega) ((mem_sets h8).1 hx).1).2 h)⟩
 rintro ⟨l, hl, h⟩
 obtain ⟨g1, g2⟩ := fewR_sets h8 hl
 exact ⟨_, g1, by rw [bitsO_test]; exact h⟩
theorem sureV_ref {hs : List Sn} (hV : ValidH hs) : sureV hs = (natsV (mustL hs hs.length), natsV (mayL hs hs.length), 0) := by
 unfold sureV
 rw [if_pos (chH_valid.2 hV), ← must_ref hV.n8, ← may_ref hV.n8]
theorem lists_told {hs : List Sn} (hV : ValidH hs) {l : List Nat} (h : Asc 0 hs.length l) : Told hs (natsV l) l := ⟨hV, rfl, fun x hx => (h.2 x hx).2, h.1⟩
theorem lists_one {hs : List Sn} (hV : ValidH hs) {l : List Nat} (h : Asc 0 hs.length l) : oneB hs (restL hs.length (natsV l)) = accB hs (bitsO l) := by
 have h8 := hV.n8
 obtain ⟨h1, h2⟩ := asc_bits (c := hs.length) (by omega) h
 rw [one_rest (lists_told hV h)]
 unfold accB
 rw [← restN_set h8 h2, h1]
end Go.Ab.MkF
namespace Go.Ab.MkF
open Go Go.Ab Go.Ab.Pln
def refS (hs : List Sn) (most : Nat) : Nat → Nat → List Int → Option (List Int)
 | 0, _, L => some L
 | k + 1, t, L => (List.range (min most (t + 1))).findSome? fun j => if okJ hs L j then refS hs most k (max t (j + 1)) (L ++ [(j : Int)]) else none
theorem findSome_congr {α β : Type} {f g : α → Option β} : ∀ {l : List α}, (∀ x ∈ l, f x = g x) → l.findSome? f = l.findSome? g
 | [], _ => rfl
 | a :: l, h => by
  rw [List.findSome?_cons, List.findSome?_cons, h a List.mem_cons_self, findSome_congr fun x hx => h x (List.mem_cons_of_mem _ hx)]
theorem allC_far {hs : List Sn} {most k t : Nat} {L : List Int} (h : most < t) : (allC hs k t L).find? (fun q => decide (q.1 ≤ most)) = none :=
 List.find?_eq_none.2 fun q hq => by
  have := allC_ge hs k t L q hq
  simp; omega
theorem refS_all (hs : List Sn) (most : Nat) : ∀ (k t : Nat) (L : List Int), t ≤ most → refS hs most k t L = ((allC hs k t L).find? fun q => decide (q.1 ≤ most)).map fun q => q.2
 | 0, t, L, h => by
  unfold refS allC
  simp [h]
 | k + 1, t, L, h => by
  unfold refS allC
  rw [List.find?_flatMap, List.map_findSome?]
  have key : ∀ j, j < min most (t + 1) → (if okJ hs L j then refS hs most k (max t (j + 1)) (L ++ [(j : Int)]) else none) =
    ((Option.map fun q => q.2) ∘ fun j => (if okJ hs L j = true then allC hs k (max t (j + 1)) (L ++ [(j : Int)]) else []).find? fun q => decide (q.1 ≤ most)) j := fun j hj => by
   show _ = Option.map (fun q : Nat × List Int => q.2) (List.find? (fun q => decide (q.1 ≤ most)) (if okJ hs L j = true then allC hs k (max t (j + 1)) (L ++ [(j : Int)]) else []))
   cases okJ hs L j with
   | false => rfl
   | true =>
    rw [if_pos rfl, if_pos rfl]
    exact refS_all hs most k _ _ (by omega)
  rcases Nat.lt_or_ge t most with hlt | hge
  · rw [show min most (t + 1) = t + 1 by omega] at key ⊢
    exact findSome_congr fun j hj => key j (List.mem_range.1 hj)
  obtain rfl : t = most := by omega
  rw [show min t (t + 1) = t by omega] at key ⊢
  rw [List.range_succ, List.findSome?_append, findSome_congr fun j hj => key j (List.mem_range.1 hj)]
  have hn : List.findSome? ((Option.map fun q : Nat × List Int => q.2) ∘ fun j => (if okJ hs L j = true then allC hs k (max t (j + 1)) (L ++ [(j : Int)]) else []).find? fun q => decide (q.1 ≤ t)) [t] = none := by
   rw [List.findSome?_eq_none_iff]
   intro x hx
   rw [List.mem_singleton] at hx
   subst hx
   have : ((if okJ hs L x = true then allC hs k (max x (x + 1)) (L ++ [(x : Int)]) else []).find? fun q => decide (q.1 ≤ x)) = none := by
    split
    · exact allC_far (by omega)
    rfl
   show Option.map (fun q : Nat × List Int => q.2) ((if okJ hs L x = true then allC hs k (max x (x + 1)) (L ++ [(x : Int)]) else []).find? fun q => decide (q.1 ≤ x)) = none
   rw [this]; rfl
  rw [hn, Option.or_none]
theorem foldS_first {m : Nat} : ∀ (l : List (Nat × List Int)) (s : Int × List Int), (m : Int) < s.1 → (∀ q ∈ l, m ≤ q.1) → (∃ q ∈ l, q.1 = m) → ∃ q, l.find? (fun q => decide (q.1 ≤ m)) = some q ∧ l.foldl updS s = ((m : Int), q.2)
 | [], _, _, _, ⟨q, hq, _⟩ => by cases hq
 | a :: l, s, hs, hl, ⟨q, hq, he⟩ => by
  have ha := hl a List.mem_cons_self
  by_cases h : a.1 = m
  · refine ⟨a, by rw [List.find?_cons_of_pos (by simp; omega)], ?_⟩
    rw [List.foldl_cons]
    have hu : updS s a = ((m : Int), a.2) := by unfold updS; rw [if_neg (by omega), h]
    rw [hu, foldS_stop]
    intro q hq
    have := hl q (List.mem_cons_of_mem _ hq)
    show (q.1 : Int) ≥ m
    omega
  have hu : (m : Int) < (updS s a).1 := by
   unfold updS
   split
   · exact hs
   · show (m : Int) < a.1; omega
  rw [List.foldl_cons, List.find?_cons_of_neg (by simp; omega)]
  refine foldS_first l _ hu (fun q hq => hl q (List.mem_cons_of_mem _ hq)) ⟨q, ?_, he⟩
  rcases List.mem_cons.1 hq with rfl | hq
  · exact absurd he h
  exact hq
theorem srcS_ref {hs : List Sn} (h1 : 1 ≤ hs.length) (h8 : hs.length ≤ 8) : ∃ (m : Nat) (l : List Int), srcS hs = ((m : Int), l) ∧ 1 ≤ m ∧ m ≤ hs.length ∧ refS hs m hs.length 0 [] = some l ∧ l ≠ [] ∧ ∀ m', m' < m → refS hs m' hs.length 0 [] = none := by
 obtain ⟨⟨q, hq, he⟩, hle⟩ := srcS_spec h8
 have hmin : ∀ q' ∈ cols hs, q.1 ≤ q'.1 := fun q' hq' => by
  have := hle _ _ (cols_col hq').2
  rw [he] at this
  have this : (q.1 : Int) ≤ q'.1 := this
  omega
 have hle2 := hle _ _ (col_own hs)
 rw [he] at hle2
 have hle2 : (q.1 : Int) ≤ hs.length := hle2
 obtain ⟨q0, hf, h2⟩ := foldS_first (m := q.1) (cols hs) (((hs.length + 1 : Nat) : Int), []) (by show (q.1 : Int) < ((hs.length + 1 : Nat) : Int); omega) hmin ⟨q, hq, rfl⟩
 have hq0 := List.mem_of_find?_eq_some hf
 have hl0 := (cols_col hq0).1
 refine ⟨q.1, q0.2, by rw [srcS_eq h8]; exact h2, ?_, by omega, ?_, fun e => by rw [e] at hl0; simp at hl0; omega, fun m' hm' => ?_⟩
 · have := (cols_col hq).2.lt 0 (by omega); omega
 · rw [refS_all hs q.1 _ 0 [] (Nat.zero_le _), hf]; rfl
 rw [refS_all hs m' _ 0 [] (Nat.zero_le _)]
 have : (allC hs hs.length 0 []).find? (fun q => decide (q.1 ≤ m')) = none := List.find?_eq_none.2 fun q' hq' => by
  have := hmin q' hq'
  simp; omega
 rw [this]; rfl
def manyN (L : List Int) (i : Nat) : Nat := ((List.range i).filter fun k => !((L.take k).any fun x => x == L.getD k 0)).length
theorem manyN_succ (L : List Int) (i : Nat) : manyN L (i + 1) = manyN L i + if ((L.take i).any fun x => x == L.getD i 0) = true then 0 else 1 := by
 unfold manyN
 rw [List.range_succ, List.filter_append, List.length_append, List.filter_cons, List.filter_nil]
 cases (L.take i).any fun x => x == L.getD i 0 <;> rfl
theorem manyN_app (L : List Int) (x : Int) : ∀ i, i ≤ L.length → manyN (L ++ [x]) i = manyN L i
 | 0, _ => rfl
 | i + 1, h => by
  rw [manyN_succ, manyN_succ, manyN_app L x i (by omega), List.take_append_of_le_length (by omega), getD_app_lt (by omega)]
structure Rg (hs : List Sn) (t : Nat) (L : List Int) : Prop where
 val : ∀ a, a < L.length → ∃ j : Nat, j < t ∧ L.getD a 0 = (j : Int)
 onto : ∀ j, j < t → ∃ a, a < L.length ∧ L.getD a 0 = (j : Int)
 can : ∀ a b, a < b → b < L.length → L.getD a 0 = L.getD b 0 → pairH hs a b = true
 many : manyN L L.length = t
 le : t ≤ L.length
theorem Rg.nil (hs : List Sn) : Rg hs 0 [] := ⟨fun _ h => absurd h (Nat.not_lt_zero _), fun _ h => absurd h (Nat.not_lt_zero _), fun _ _ _ h => absurd h (Nat.not_lt_zero _), rfl, Nat.le_refl _⟩
theorem Rg.add {hs : List Sn} {t : Nat} {L : List Int} (h : Rg hs t L) {j : Nat} (hj : j ≤ t) (ho : okJ hs L j = true) : Rg hs (max t (j + 1)) (L ++ [(j : Int)]) := by
 have hlen : (L ++ [(j : Int)]).length = L.length + 1 := by simp
 refine ⟨fun a ha => ?_, fun q hq => ?_, fun a b hab hb he => ?_, ?_, by rw [hlen]; have := h.le; omega⟩
 · rw [hlen] at ha
   rcases getD_app (x := (j : Int)) (d := 0) ha with ⟨h1, h2⟩ | ⟨_, h2⟩
   · obtain ⟨q, hq, h3⟩ := h.val a h1
     exact ⟨q, by omega, by rw [h2, h3]⟩
   exact ⟨j, by omega, h2⟩
 · rw [hlen]
   rcases Nat.lt_or_ge q t with h1 | h1
   · obtain ⟨a, ha, h2⟩ := h.onto q h1
     exact ⟨a, by omega, by rw [getD_app_lt ha, h2]⟩
   exact ⟨L.length, by omega, by rw [getD_app_at]; omega⟩
 · rw [hlen] at hb
   rw [getD_app_lt (by omega)] at he
   rcases getD_app (x := (j : Int)) (d := 0) hb with ⟨h3, h4⟩ | ⟨h3, h4⟩
   · exact h.can a b hab h3 (by rw [← h4]; exact he)
   subst h3
   exact Lk.okJ.1 ho a hab (by rw [he, h4])
 rw [hlen, manyN_succ, manyN_app L _ _ (Nat.le_refl _), h.many, getD_app_at, List.take_append_of_le_length (Nat.le_refl _), List.take_length]
 have hany : (L.any fun x => x == (j : Int)) = decide (j < t) := by
  rw [Bool.eq_iff_iff, List.any_eq_true, decide_eq_true_eq]
  constructor
  · rintro ⟨x, hx, he⟩
    obtain ⟨a, ha, rfl⟩ := List.getElem_of_mem hx
    obtain ⟨q, hq, h3⟩ := h.val a ha
    rw [getD_at ha] at h3
    have := eq_of_beq he
    omega
  intro hlt
  obtain ⟨a, ha, h3⟩ := h.onto j hlt
  rw [getD_at ha] at h3
  exact ⟨_, List.getElem_mem ha, by rw [h3]; simp⟩
 rw [hany]
 by_cases hlt : j < t
 · rw [if_pos (decide_eq_true hlt)]; omega
 rw [if_neg (by simpa using hlt)]; omega
def clsL (L : List Int) (n i : Nat) : List Nat := (List.range i).filter fun k => L.getD k 0 == (n : Int)
def splB (hs : List Sn) (L : List Int) (i : Nat) : Bool := (List.range i).all fun n => oneB hs (clsL L n L.length)
theorem spl_ok {hs : List Sn} (hV : ValidH hs) {t : Nat} {L : List Int} (h : Rg hs t L) {j : Nat} (hj : j ≤ t) (hL : L.length < hs.length) : splB hs (L ++ [(j : Int)]) (L.length + 1) = okJ hs L j := by
 have hlen : (L ++ [(j : Int)]).length = L.length + 1 := by simp
 have hcl : ∀ {n x}, x ∈ clsL (L ++ [(j : Int)]) n (L.length + 1) ↔ x < L.length + 1 ∧ (L ++ [(j : Int)]).getD x 0 = (n : Int) := fun {n x} => by
  unfold clsL; rw [List.mem_filter, List.mem_range, beq_iff_eq]
 have hone : ∀ n, oneB hs (clsL (L ++ [(j : Int)]) n (L.length + 1)) = true ↔ ∀ x ∈ clsL (L ++ [(j : Int)]) n (L.length + 1), ∀ y ∈ clsL (L ++ [(j : Int)]) n (L.length + 1), pairH hs x y = true := fun n => by
  unfold oneB
  rw [decide_eq_true_eq, one_iff hV fun x hx => by have := (hcl.1 hx).1; omega]
 rw [Bool.eq_iff_iff, Lk.okJ]
 unfold splB
 rw [List.all_eq_true, hlen]
 constructor
 · intro hall a ha he
   have h1 := (hone j).1 (hall j (List.mem_range.2 (by have := h.le; omega)))
   exact h1 a (hcl.2 ⟨by omega, by rw [getD_app_lt ha]; exact he⟩) L.length (hcl.2 ⟨by omega, getD_app_at⟩)
 intro hok n _
 refine (hone n).2 fun x hx y hy => ?_
 obtain ⟨hx1, hx2⟩ := hcl.1 hx
 obtain ⟨hy1, hy2⟩ := hcl.1 hy
 rcases getD_app (x := (j : Int)) (d := 0) hx1 with ⟨hx3, hx4⟩ | ⟨hx3, hx4⟩ <;> rcases getD_app (x := (j : Int)) (d := 0) hy1 with ⟨hy3, hy4⟩ | ⟨hy3, hy4⟩
 · rcases Nat.lt_trichotomy x y with hxy | rfl | hxy
   · exact h.can x y hxy hy3 (by rw [← hx4, ← hy4, hx2, hy2])
   · exact pairH_self hV (by omega)
   rw [pairH_comm]; exact h.can y x hxy hx3 (by rw [← hx4, ← hy4, hx2, hy2])
 · subst hy3
   exact hok x hx3 (by rw [← hx4, hx2, ← hy2, hy4])
 · subst hx3
   rw [pairH_comm]
   exact hok y hy3 (by rw [← hy4, hy2, ← hx2, hx4])
 subst hx3; subst hy3
 exact pairH_self hV (by omega)
end Go.Ab.MkF
namespace Go.Ab.MkF
open Go Go.Ab Go.Ab.Pln Go.Proofs
set_option maxHeartbeats 1000000
set_option maxRecDepth 100000
noncomputable abbrev parH (gl : Gl) : Par S Unit := { par gl with hd := true }
theorem parH_ok (gl : Gl) (En : Env Unit) : ParOk PR gl (parH gl) En := { par_ok gl En with }
theorem join {p q : Prop} (h : Hold p → q) (hp : p) : q := h ⟨hp⟩
def inB (n a b : Int) : Bool := decide (a ≤ n) && decide (n ≤ b)
theorem inB_out (n a b : Int) : inB n a b = !outB a b n := by
 unfold inB outB
 rw [Bool.eq_iff_iff]
 simp [Int.not_lt]
def rgE (a b lo hi : Int) : Int := if (decide (min a b < lo) || decide (max a b > hi)) = true then 7 else if b < a then 2 else 0
theorem sn_eq (x : Sn) : snE x = if inB x.1 0 2 = true then rgE x.2.1 x.2.2 1 600 else 7 := by
 unfold snE rgE
 rw [inB_out]
 have h2 : [x.2.1, x.2.2].any (outB 1 600) = (decide (min x.2.1 x.2.2 < 1) || decide (max x.2.1 x.2.2 > 600)) := by
  rw [Bool.eq_iff_iff]
  simp [outB]
  omega
 have h1 : [x.1].any (outB 0 2) = outB 0 2 x.1 := by simp
 rw [h1, h2]
 cases outB 0 2 x.1 <;> simp
theorem c72 (gl : Gl) (n a b : Int) : PCalls PR gl 72 [vI n, vI a, vI b] fun r => r = vB (inB n a b) := by
 refine fnW_sound (par_ok gl) Tryd.func72 ?_
 conv => whnf
 refine bcase_iff.2 ⟨fun g1_3 => ?_, fun g1_3 => ?_⟩
 · have g : decide (a ≤ n) = true := g1_3
   conv => whnf
   unfold inB
   rw [g]
   rfl
 have g : decide (a ≤ n) = false := g1_3
 conv => whnf
 unfold inB
 rw [g]
 rfl
theorem op72 : Opens PR 72 := ⟨_, Tryd.func72, rfl, rfl⟩
theorem c101 (gl : Gl) (a b lo hi : Int) : PCalls PR gl 101 [.agg [vI a, vI b], vI lo, vI hi] fun r => r = vI (rgE a b lo hi) := by
 refine fnW_sound (par_ok gl) Tryd.func101 ?_
 conv => whnf
 refine bcase_iff.2 ⟨fun g1_7 => ?_, fun g1_7 => ?_⟩
 · rw [← min_lt] at g1_7
   have g : decide (min a b < lo) = true := g1_7
   conv => whnf
   unfold rgE
   rw [g, if_pos (by rfl)]
 rw [← min_lt] at g1_7
 have g : decide (min a b < lo) = false := g1_7
 conv => whnf
 refine bcase_iff.2 ⟨fun h1 => ?_, fun h1 => ?_⟩
 · rw [← max_gt] at h1
   have h1 : decide (max a b > hi) = true := h1
   conv => whnf
   unfold rgE
   rw [g, h1, if_pos (by rfl)]
 rw [← max_gt] at h1
 have h1 : decide (max a b > hi) = false := h1
 conv => whnf
 refine bcase_iff.2 ⟨fun h3 => ?_, fun h3 => ?_⟩
 · have h3 : b < a := of_decide_eq_true h3
   conv => whnf
   unfold rgE
   rw [g, h1, if_neg (by simp), if_pos h3]
 have h3 : ¬ b < a := of_decide_eq_false h3
 conv => whnf
 unfold rgE
 rw [g, h1, if_neg (by simp), if_neg h3]
theorem op101 : Opens PR 101 := ⟨_, Tryd.func101, rfl, rfl⟩
theorem c32 (gl : Gl) (hs : List Sn) (hl : hs.length ≤ 9223372036854775807) : PCalls PR gl 32 [.agg [snsV hs]] fun r => r = .tup [vI (chH hs).1, vI (chH hs).2] := by
 refine fnW_sound (par_ok gl) Tryd.func32 ?_
 conv => whnf
 refine byC (c72 gl _ _ _) op72 ?_
 conv => whnf
 refine bcase_iff.2 ⟨fun h1 => ?_, fun h1 => ?_⟩
 · have h1 : [(hs.length : Int)].any (outB 1 8) = true := by have h1 : (!inB (hs.length : Int) 1 8) = true := h1; rw [inB_out] at h1; simpa using h1
   conv => whnf
   unfold chH
   rw [if_pos h1]
 have h1 : [(hs.length : Int)].any (outB 1 8) = false := by have h1 : (!inB (hs.length : Int) 1 8) = false := h1; rw [inB_out] at h1; simpa using h1
 conv => whnf
 refine ⟨⟨18, [], []⟩, ?_⟩
 refine LoopW_ind _ (fun i : Nat => (({ tmps := [.undef, .own 1 [], .undef, .undef, vI i, .undef, .undef, .undef, .undef, .undef, .undef, .undef, .undef, .undef, .undef, .undef, .undef, .undef, .undef, .undef, .undef, .undef, .undef, .undef, .undef, .undef, .undef, .undef, .undef, .undef, .undef, .undef, .undef, .undef, .undef], seg := [(1, .cells [snsV hs])], up := [] } : St S))) (fun i : Nat => (i ≤ hs.length ∧ ∀ j, j < i → snF hs j = 0)) (fun i : Nat => (hs.length - i)) () ?_ 0 ⟨Nat.zero_le _, fun j h => absurd h (Nat.not_lt_zero j)⟩
 intro i hinv Z1 hZ1
 obtain ⟨hi, hd⟩ := hinv
 conv => whnf
 refine bcase_iff.2 ⟨fun h4 => ?_, fun h4 => ?_⟩
 · have hlt : i < hs.length := by have := of_decide_eq_true h4; omega
   have hw : IntKind.i64.wrap ((i : Int) + 1) = ((i + 1 : Nat) : Int) := wrap_nat (by omega)
   conv => whnf
   have hsn : snF hs i = if inB hs[i].1 0 2 = true then rgE hs[i].2.1 hs[i].2.2 1 600 else 7 := by unfold snF; rw [getD_at hlt, sn_eq]
   refine ⟨_, getI_nat hlt, ?_⟩
   conv => whnf
   refine byC (c101 gl _ _ _ _) op101 ?_
   conv => whnf
   refine byC (c72 gl _ _ _) op72 ?_
   conv => whnf
   refine bcase_iff.2 ⟨fun h8 => ?_, fun h8 => ?_⟩
   · have h8 : inB hs[i].1 0 2 = false := by have h8 : (!inB hs[i].1 0 2) = true := h8; simpa using h8
     rw [h8, if_neg (by simp)] at hsn
     conv => whnf
     unfold chH
     rw [h1, if_neg (by simp), firstR_at hlt hd (by rw [hsn]; decide), hsn]
   have h8 : inB hs[i].1 0 2 = true := by have h8 : (!inB hs[i].1 0 2) = false := h8; simpa using h8
   rw [h8, if_pos rfl] at hsn
   conv => whnf
   refine bcase_iff.2 ⟨fun h10 => ?_, fun h10 => ?_⟩
   · have h10 : snF hs i ≠ 0 := by rw [hsn]; have h10 : (rgE hs[i].2.1 hs[i].2.2 1 600 != 0) = true := h10; simpa using h10
     conv => whnf
     unfold chH
     rw [h1, if_neg (by simp), firstR_at hlt hd h10, hsn]
   have h10 : snF hs i = 0 := by rw [hsn]; have h10 : (rgE hs[i].2.1 hs[i].2.2 1 600 != 0) = false := h10; simpa using h10
   conv => whnf
   refine ⟨⟨18, [5, 1005, 2005, 3005, 4005], []⟩, ?_⟩
   conv => whnf
   rw [hw]
   exact hZ1 (i + 1) ⟨hlt, up_succ hd h10⟩ (by omega)
 have hge : i = hs.length := by have := of_decide_eq_false h4; omega
 conv => whnf
 subst hge
 unfold chH
 rw [h1, if_neg (by simp), firstR_no hd]
theorem op32 : Opens PR 32 := ⟨_, Tryd.func32, rfl, rfl⟩
end Go.Ab.MkF
namespace Go.Ab.MkF
open Go Go.Ab Go.Ab.Pln Go.Proofs
set_option maxHeartbeats 1000000
set_option maxRecDepth 100000
theorem maxE (a b : Int) : (if a > b then a else b) = max b a := by rw [Int.max_def]; split <;> split <;> omega
theorem minE (a b : Int) : (if a < b then a else b) = min b a := by rw [Int.min_def]; split <;> split <;> omega
structure SetL (n X : Nat) (L : List Int) : Prop where
 lt : X < 2 ^ n
 n8 : n ≤ 8
 eq : L = natsV (bitsL X)
theorem SetL.len {n X : Nat} {L : List Int} (h : SetL n X L) : L.length = (bitsL X).length := by rw [h.eq, List.length_map]
theorem SetL.get {n X i : Nat} {L : List Int} (h : SetL n X L) (hi : i < L.length) : ∃ k : Nat, getI L (i : Int) = some (k : Int) ∧ X.testBit k = true ∧ k < n := by
 obtain ⟨h1, h2, rfl⟩ := h
 rw [List.length_map] at hi
 have hm := List.getElem_mem hi
 exact ⟨(bitsL X)[i], getI_nats hi, (bitsL_mem (by omega) h1).1 hm, bits_range (by omega) h1 hm⟩
theorem SetL.has {n X : Nat} {L : List Int} (h : SetL n X L) (k : Nat) : (L.any fun x => x == (k : Int)) = X.testBit k := by rw [h.eq]; exact has_bits (c := n) (by have := h.n8; omega) h.lt
theorem notT {b : Bool} (h : (!b) = true) : b = false := by cases b; rfl; cases h
theorem nePs {n : Int} (h : (n != n) = true) : False := by simp at h
theorem eqPs {n : Int} (h : (n == n) = false) : False := by simp at h
end Go.Ab.MkF
namespace Go.Ab.MkF
open Go Go.Ab Go.Ab.Pln Go.Proofs
set_option maxHeartbeats 1000000
set_option maxRecDepth 100000
theorem natsV_at {l : List Nat} {i : Nat} (h : i < l.length) : getI (natsV l) (i : Int) = some ((l[i] : Nat) : Int) := getI_nats h
theorem c116 (gl : Gl) (hs : List Sn) (l : List Nat) (hx : ∀ x ∈ l, x < hs.length) (hll : l.length ≤ 1000) : PCalls PR gl 116 [.agg [snsV hs], vL (natsV l)] fun r => r = .agg [vI (comV hs l).1, vI (comV hs l).2] := by
 refine fnW_sound (parH_ok gl) Tryd.func116 ?_
 conv => whnf
 refine ⟨?_⟩
 conv => whnf
 refine ⟨?_⟩
 conv => whnf
 refine ⟨?_⟩
 conv => whnf
 refine ⟨?_⟩
 conv => whnf
 refine ⟨⟨246, [], []⟩, ?_⟩
 refine LoopW_ind _ (fun i : Nat => (({ tmps := [.undef, vL (natsV l), .own 2 [], .undef, .own 4 [], .own 5 [], vI (comU hs l i).1, vI i, .undef, .undef, .undef, .undef, .undef, .undef, .undef, .undef, .undef, .undef, .undef, .undef, .undef, .undef, .undef, .undef, .undef, .undef, .undef, .undef, .undef, .undef, .undef, .undef, .undef, .undef, .undef, .undef, .undef, .undef, .undef, .undef, .undef, .undef, .undef, .undef, .undef, .undef, .undef, .undef, .undef, .undef, .undef, .undef, .undef, .undef, .undef, .undef], seg := [(2, .cells [snsV hs]), (4, .cells [vI 0, vI 0]), (5, .cells [vI (comU hs l i).2.1, vI (comU hs l i).2.2])], up := [] } : St S))) (fun i : Nat => (i ≤ l.length ∧ offU hs l i = false)) (fun i : Nat => (l.length - i)) () ?_ 0 ⟨Nat.zero_le _, rfl⟩
 intro i hinv Z1 hZ1
 obtain ⟨hi, hof0⟩ := hinv
 conv => whnf
 refine ⟨?_⟩
 conv => whnf
 refine bcase_iff.2 ⟨fun h4 => ?_, fun h4 => ?_⟩
 · have hlt : i < l.length := by have := of_decide_eq_true h4; rw [natsV_len] at this; omega
   have hw : IntKind.i64.wrap ((i : Int) + 1) = ((i + 1 : Nat) : Int) := wrap_nat (by omega)
   have hy := hx _ (List.getElem_mem hlt)
   have hys : hs.getD l[i] sn0 = hs[l[i]] := getD_at hy
   have hob := offU_succ (hs := hs) hlt
   rw [hof0, Bool.false_or] at hob
   conv => whnf
   refine ⟨[0, 1, 2, 3, 4, 5, 6, 7, 8, 9], [8], [], [], ⟨72057594037927935, [], []⟩, by decide +kernel, ?_⟩
   conv => whnf
   refine ⟨_, natsV_at hlt, ?_⟩
   conv => whnf
   refine ⟨_, getI_nat hy, ?_⟩
   conv => whnf
   refine ⟨?_⟩
   conv => whnf
   refine bcase_iff.2 ⟨fun g7_3 => ?_, fun g7_3 => ?_⟩
   · have g3 : decide (hs[l[i]].1 > 0) = true := g7_3
     conv => whnf
     refine bcase_iff.2 ⟨fun g7_7 => ?_, fun g7_7 => ?_⟩
     · have g7 : decide ((comU hs l i).1 > 0) = true := g7_7
       conv => whnf
       refine bcase_iff.2 ⟨fun h7 => ?_, fun h7 => ?_⟩
       · have hb : offB hs (comU hs l i) l[i] = true := by unfold offB; rw [hys, g3, g7]; exact h7
         conv => whnf
         refine ⟨?_⟩
         conv => whnf
         unfold comV
         rw [if_pos (offU_at hlt hb)]
       have hb : offB hs (comU hs l i) l[i] = false := by unfold offB; rw [hys, g3, g7]; exact h7
       conv => whnf
       refine ⟨?_⟩
       conv => whnf
       refine ⟨?_⟩
       conv => whnf
       refine ⟨?_⟩
       conv => whnf
       refine ⟨⟨246, [8, 1008, 2008, 3008, 4008], []⟩, ?_⟩
       conv => whnf
       rw [hw, maxE, maxE, minE]
       have hz := hZ1 (i + 1) ⟨hlt, by rw [hob, hb]⟩ (by omega)
       rw [comU_succ hlt] at hz
       unfold comS at hz
       rw [hys] at hz
       exact hz
     have g7 : decide ((comU hs l i).1 > 0) = false := g7_7
     have hb : offB hs (comU hs l i) l[i] = false := by unfold offB; rw [hys, g3, g7]; rfl
     conv => whnf
     refine ⟨?_⟩
     conv => whnf
     refine ⟨?_⟩
     conv => whnf
     refine ⟨?_⟩
     conv => whnf
     refine ⟨⟨246, [8, 1008, 2008, 3008, 4008], []⟩, ?_⟩
     conv => whnf
     rw [hw, maxE, maxE, minE]
     have hz := hZ1 (i + 1) ⟨hlt, by rw [hob, hb]⟩ (by omega)
     rw [comU_succ hlt] at hz
     unfold comS at hz
     rw [hys] at hz
     exact hz
   have g3 : decide (hs[l[i]].1 > 0) = false := g7_3
   have hb : offB hs (comU hs l i) l[i] = false := by unfold offB; rw [hys, g3]; rfl
   conv => whnf
   refine ⟨?_⟩
   conv => whnf
   refine ⟨?_⟩
   conv => whnf
   refine ⟨?_⟩
   conv => whnf
   refine ⟨⟨246, [8, 1008, 2008, 3008, 4008], []⟩, ?_⟩
   conv => whnf
   rw [hw, maxE, maxE, minE]
   have hz := hZ1 (i + 1) ⟨hlt, by rw [hob, hb]⟩ (by omega)
   rw [comU_succ hlt] at hz
   unfold comS at hz
   rw [hys] at hz
   exact hz
 have hge : i = l.length := by have := of_decide_eq_false h4; rw [natsV_len] at this; omega
 conv => whnf
 refine ⟨?_⟩
 conv => whnf
 subst hge
 unfold comV
 rw [hof0, if_neg (by simp)]
theorem op116 : Opens PR 116 := ⟨_, Tryd.func116, rfl, rfl⟩
theorem c61 (gl : Gl) (hs : List Sn) (l : List Nat) (hx : ∀ x ∈ l, x < hs.length) (hll : l.length ≤ 1000) : PCalls PR gl 61 [.agg [snsV hs], vL (natsV l)] fun r => r = vB (oneB hs l) := by
 refine fnW_sound (par_ok gl) Tryd.func61 ?_
 conv => whnf
 refine byC (c116 gl hs l hx hll) op116 ?_
 conv => whnf
 rfl
theorem op61 : Opens PR 61 := ⟨_, Tryd.func61, rfl, rfl⟩
theorem c115 (gl : Gl) (hs : List Sn) (h8 : hs.length ≤ 8) (told : List Int) (ht : told.length ≤ 9223372036854775807) : PCalls PR gl 115 [.agg [snsV hs], vL told] fun r => r = vL (natsV (restL hs.length told)) := by
 refine fnW_sound (par_ok gl) Tryd.func115 ?_
 conv => whnf
 refine ⟨⟨102, [4], [4, 5]⟩, ?_⟩
 refine LoopW_ind _ (fun i : Nat => (({ tmps := [.undef, vL told, .own 2 [], .undef, .undef, .sl (S := S) U.int (natsV (restL i told)) (some 5), vI i, .undef, .undef, .undef, .undef, .undef, .undef, .undef, .undef, .undef, .undef, .undef, .undef, .undef, .undef, .undef, .undef], seg := [(2, .cells [snsV hs]), (5, .row U.int false)], up := [] } : St S))) (fun i : Nat => (i ≤ hs.length)) (fun i : Nat => (hs.length - i)) () ?_ 0 (Nat.zero_le _)
 intro i hi Z1 hZ1
 conv => whnf
 refine bcase_iff.2 ⟨fun h3 => ?_, fun h3 => ?_⟩
 · have hlt : i < hs.length := by have := of_decide_eq_true h3; omega
   have hw : IntKind.i64.wrap ((i : Int) + 1) = ((i + 1 : Nat) : Int) := wrap_nat (by omega)
   conv => whnf
   refine byC (c60 gl told ht i) op60 ?_
   conv => whnf
   refine bcase_iff.2 ⟨fun h5 => ?_, fun h5 => ?_⟩
   · have h5 : (!(told.any fun x => x == (i : Int))) = true := h5
     conv => whnf
     refine ⟨_, rfl, ?_⟩
     conv => whnf
     refine ⟨lim (by have := nf_len (fun k => !(told.any fun x => x == (k : Int))) i; unfold restL; simp at this ⊢; omega), ?_⟩
     conv => whnf
     refine ⟨⟨102, [20, 21], []⟩, ?_⟩
     conv => whnf
     rw [hw]
     have hz := hZ1 (i + 1) hlt (by omega)
     rw [show natsV (restL (i + 1) told) = natsV (restL i told) ++ [(i : Int)] from nf_T h5] at hz
     exact hz
   have h5 : (!(told.any fun x => x == (i : Int))) = false := h5
   conv => whnf
   refine ⟨⟨102, [20, 21], []⟩, ?_⟩
   conv => whnf
   rw [hw, show natsV (restL i told) = natsV (restL (i + 1) told) from (nf_F h5).symm]
   exact hZ1 (i + 1) hlt (by omega)
 have hge : i = hs.length := by have := of_decide_eq_false h3; omega
 conv => whnf
 rw [hge]
theorem op115 : Opens PR 115 := ⟨_, Tryd.func115, rfl, rfl⟩
end Go.Ab.MkF
namespace Go.Ab.MkF
open Go Go.Ab Go.Ab.Pln Go.Proofs
set_option maxHeartbeats 1000000
set_option maxRecDepth 100000
noncomputable abbrev parX (gl : Gl) : Par S Unit := { par gl with hd := true, nx := true }
theorem parX_ok (gl : Gl) (En : Env Unit) : ParOk PR gl (parX gl) En := { par_ok gl En with }
def optV : Option (List Int) → AV S
 | none => .nil0
 | some l => vL l
theorem manyN_le (L : List Int) : ∀ i, manyN L i ≤ i
 | 0 => Nat.le_refl _
 | i + 1 => by rw [manyN_succ]; have := manyN_le L i; split <;> omega
theorem refS_len {hs : List Sn} {most : Nat} : ∀ {k t : Nat} {L l : List Int}, refS hs most k t L = some l → l.length = L.length + k
 | 0, _, L, l, h => by unfold refS at h; cases h; rfl
 | k + 1, t, L, l, h => by
  unfold refS at h
  obtain ⟨j, _, h⟩ := List.exists_of_findSome?_eq_some h
  split at h
  · rw [refS_len h, List.length_append]; simp; omega
  cases h
def stepR (hs : List Sn) (most k t : Nat) (L : List Int) (j : Nat) : Option (List Int) := if okJ hs L j then refS hs most k (max t (j + 1)) (L ++ [(j : Int)]) else none
theorem find_hit {f : Nat → Option (List Int)} {l : List Int} : ∀ {n j : Nat}, j < n → (∀ i, i < j → f i = none) → f j = some l → (List.range n).findSome? f = some l
 | 0, _, h, _, _ => absurd h (Nat.not_lt_zero _)
 | n + 1, j, h, hn, hj => by
  rw [List.range_succ, List.findSome?_append]
  rcases Nat.lt_or_eq_of_le (Nat.le_of_lt_succ h) with h1 | rfl
  · rw [find_hit h1 hn hj]; rfl
  rw [List.findSome?_eq_none_iff.2 fun x hx => hn x (List.mem_range.1 hx), List.findSome?_cons, hj]; rfl
theorem refS_hit {hs : List Sn} {most k t : Nat} {L l : List Int} {j : Nat} (hj : j < min most (t + 1)) (hn : ∀ i, i < j → stepR hs most k t L i = none) (h : stepR hs most k t L j = some l) : refS hs most (k + 1) t L = some l := by
 unfold refS; exact find_hit hj hn h
theorem refS_no {hs : List Sn} {most k t : Nat} {L : List Int} {j : Nat} (hj : min most (t + 1) ≤ j) (hn : ∀ i, i < j → stepR hs most k t L i = none) : refS hs most (k + 1) t L = none := by
 unfold refS; exact List.findSome?_eq_none_iff.2 fun x hx => hn x (by have := List.mem_range.1 hx; omega)
theorem filt_len (p : Nat → Bool) (i : Nat) : ((List.range i).filter p).length ≤ i := by
 have := List.length_filter_le p (List.range i)
 rwa [List.length_range] at this
theorem c54 (gl : Gl) (L : List Int) (hl : L.length ≤ 1000000) : PCalls PR gl 54 [vL L] fun r => r = vI ((manyN L L.length : Nat) : Int) := by
 refine fnW_sound (parH_ok gl) Tryd.func54 ?_
 conv => whnf
 refine ⟨?_⟩
 conv => whnf
 refine ⟨?_⟩
 conv => whnf
 refine ⟨?_⟩
 conv => whnf
 refine ⟨⟨25, [], []⟩, ?_⟩
 refine LoopW_ind _ (fun i : Nat => (({ tmps := [vL L, .undef, .undef, vI ((manyN L i : Nat) : Int), vI i, .undef, .undef, .undef, .undef, .undef, .undef, .undef, .undef, .undef, .undef, .undef, .undef, .undef, .undef, .undef, .undef, .undef, .undef], seg := [], up := [] } : St S))) (fun i : Nat => (i ≤ L.length)) (fun i : Nat => (L.length - i)) () ?_ 0 (Nat.zero_le _)
 intro i hi Z1 hZ1
 conv => whnf
 refine ⟨?_⟩
 conv => whnf
 refine bcase_iff.2 ⟨fun h3 => ?_, fun h3 => ?_⟩
 · have hlt : i < L.length := by have := of_decide_eq_true h3; omega
   have hw : IntKind.i64.wrap ((i : Int) + 1) = ((i + 1 : Nat) : Int) := wrap_nat (by omega)
   have hmi := manyN_le L i
   have hsu := manyN_succ L i
   rw [getD_at hlt] at hsu
   conv => whnf
   refine ⟨[0, 1, 2, 3, 4, 5, 6, 7, 8], [], [], [], ⟨8388607, [], []⟩, by decide +kernel, ?_⟩
   conv => whnf
   refine ⟨Int.natCast_nonneg _, ?_⟩
   conv => whnf
   refine ⟨Nat.zero_le _, hi, ?_⟩
   conv => whnf
   refine ⟨_, getI_nat hlt, ?_⟩
   conv => whnf
   refine byC (c60 gl (L.take i) (by simp; omega) L[i]) op60 ?_
   conv => whnf
   refine bcase_iff.2 ⟨fun h5 => ?_, fun h5 => ?_⟩
   · have h5 := notT h5
     rw [h5, if_neg (by simp)] at hsu
     have hw2 : IntKind.i64.wrap (((manyN L i : Nat) : Int) + 1) = ((manyN L (i + 1) : Nat) : Int) := by rw [hsu]; exact wrap_nat (by omega)
     conv => whnf
     refine ⟨?_⟩
     conv => whnf
     refine ⟨?_⟩
     conv => whnf
     refine ⟨⟨25, [], []⟩, ?_⟩
     conv => whnf
     rw [hw, hw2]
     exact hZ1 (i + 1) hlt (by omega)
   have h5 : ((L.take i).any fun x => x == L[i]) = true := by cases h : (L.take i).any fun x => x == L[i] with | true => rfl | false => rw [h] at h5; cases h5
   rw [h5, if_pos rfl] at hsu
   conv => whnf
   refine ⟨?_⟩
   conv => whnf
   refine ⟨⟨25, [], []⟩, ?_⟩
   conv => whnf
   rw [hw, show manyN L i = manyN L (i + 1) from by omega]
   exact hZ1 (i + 1) hlt (by omega)
 have hge : i = L.length := by have := of_decide_eq_false h3; omega
 conv => whnf
 refine ⟨?_⟩
 conv => whnf
 rw [hge]
theorem op54 : Opens PR 54 := ⟨_, Tryd.func54, rfl, rfl⟩
theorem c141 (gl : Gl) (hs : List Sn) (h8 : hs.length ≤ 8) (L : List Int) (hL : L.length ≤ hs.length) : PCalls PR gl 141 [.agg [snsV hs], vL L] fun r => r = vB (splB hs L L.length) := by
 refine fnW_sound (parH_ok gl) Tryd.func141 ?_
 conv => whnf
 refine ⟨?_⟩
 conv => whnf
 refine ⟨?_⟩
 conv => whnf
 refine loop_q fun Q1 hQ1 => ?_
 refine ⟨⟨38, [], []⟩, ?_⟩
 refine LoopW_ind _ (fun n : Nat => (({ tmps := [.undef, vL L, .own 2 [], .undef, .undef, vI n, .undef, .undef, .undef, .undef, .undef, .undef, .undef, .undef, .undef, .undef, .undef, .undef, .undef, .undef, .undef, .undef, .undef, .undef, .undef, .undef, .undef, .undef, .undef, .undef, .undef, .undef, .undef, .undef], seg := [(2, .cells [snsV hs])], up := [] } : St S))) (fun n : Nat => (n ≤ L.length ∧ ∀ k, k < n → oneB hs (clsL L k L.length) = true)) (fun n : Nat => (L.length - n)) () ?_ 0 ⟨Nat.zero_le _, fun k h => absurd h (Nat.not_lt_zero k)⟩
 intro n hinv Z1 hZ1
 obtain ⟨hn, hd⟩ := hinv
 conv => whnf
 refine ⟨?_⟩
 conv => whnf
 refine bcase_iff.2 ⟨fun h2 => ?_, fun h2 => ?_⟩
 · have hln : n < L.length := by have := of_decide_eq_true h2; omega
   have hwn : IntKind.i64.wrap ((n : Int) + 1) = ((n + 1 : Nat) : Int) := wrap_nat (by omega)
   conv => whnf
   refine ⟨?_⟩
   conv => whnf
   refine ⟨?_⟩
   conv => whnf
   refine loop_q fun Q2 hQ2 => ?_
   refine ⟨⟨230, [], [6]⟩, ?_⟩
   refine LoopW_ind _ (fun i : Nat => (({ tmps := [.undef, vL L, .own 2 [], .undef, .undef, vI n, .sl (S := S) U.int (natsV (clsL L n i)) (some 6), vI i, .undef, .undef, .undef, .undef, .undef, .undef, .undef, .undef, .undef, .undef, .undef, .undef, .undef, .undef, .undef, .undef, .undef, .undef, .undef, .undef, .undef, .undef, .undef, .undef, .undef, .undef], seg := [(2, .cells [snsV hs]), (6, .row U.int false)], up := [] } : St S))) (fun i : Nat => (i ≤ L.length)) (fun i : Nat => (L.length - i)) () ?_ 0 (Nat.zero_le _)
   intro i hi Z2 hZ2
   conv => whnf
   refine ⟨?_⟩
   conv => whnf
   refine bcase_iff.2 ⟨fun h6 => ?_, fun h6 => ?_⟩
   · have hlt : i < L.length := by have := of_decide_eq_true h6; omega
     have hw : IntKind.i64.wrap ((i : Int) + 1) = ((i + 1 : Nat) : Int) := wrap_nat (by omega)
     conv => whnf
     refine ⟨?_⟩
     conv => whnf
     refine ⟨_, getI_nat hlt, ?_⟩
     conv => whnf
     refine bcase_iff.2 ⟨fun h8b => ?_, fun h8b => ?_⟩
     · have h8b : (L.getD i 0 == (n : Int)) = true := by rw [getD_at hlt]; exact h8b
       conv => whnf
       refine ⟨?_⟩
       conv => whnf
       refine ⟨_, rfl, ?_⟩
       conv => whnf
       refine ⟨lim (by have := nf_len (fun k => L.getD k 0 == (n : Int)) i; unfold clsL; simp at this ⊢; omega), ?_⟩
       conv => whnf
       refine ⟨?_⟩
       conv => whnf
       refine ⟨⟨230, [28, 29], []⟩, ?_⟩
       conv => whnf
       rw [hw]
       have hz := hZ2 (i + 1) hlt (by omega)
       rw [show natsV (clsL L n (i + 1)) = natsV (clsL L n i) ++ [(i : Int)] from nf_T h8b] at hz
       exact hz
     have h8b : (L.getD i 0 == (n : Int)) = false := by rw [getD_at hlt]; exact h8b
     conv => whnf
     refine ⟨?_⟩
     conv => whnf
     refine ⟨⟨230, [28, 29], []⟩, ?_⟩
     conv => whnf
     rw [hw, show natsV (clsL L n i) = natsV (clsL L n (i + 1)) from (nf_F h8b).symm]
     exact hZ2 (i + 1) hlt (by omega)
   have hge : i = L.length := by have := of_decide_eq_false h6; omega
   have hcx : ∀ x ∈ (clsL L n L.length), x < hs.length := fun x hx => by have := List.mem_range.1 (List.mem_filter.1 hx).1; omega
   have hcl := filt_len (fun k => L.getD k 0 == (n : Int)) L.length
   conv => whnf
   refine (hQ2 _ _ _).mpr ?_
   conv => whnf
   refine ⟨?_⟩
   conv => whnf
   rw [hge]
   conv => whnf
   refine byC (c61 gl hs (clsL L n L.length) hcx (by unfold clsL; omega)) op61 ?_
   conv => whnf
   refine bcase_iff.2 ⟨fun h10 => ?_, fun h10 => ?_⟩
   · have h10 := notT h10
     conv => whnf
     refine ⟨?_⟩
     conv => whnf
     refine (hQ1 _ _ _).mpr ?_
     conv => whnf
     unfold splB
     rw [all_no (p := fun n => oneB hs (clsL L n L.length)) hln h10]
   have h10 : oneB hs (clsL L n L.length) = true := by cases h : oneB hs (clsL L n L.length) with | true => rfl | false => rw [h] at h10; cases h10
   conv => whnf
   refine ⟨?_⟩
   conv => whnf
   refine ⟨⟨38, [6, 28, 29, 900006], []⟩, ?_⟩
   conv => whnf
   rw [hwn]
   exact hZ1 (n + 1) ⟨hln, up_succ hd h10⟩ (by omega)
 have hgn : n = L.length := by have := of_decide_eq_false h2; omega
 conv => whnf
 refine (hQ1 _ _ _).mpr ?_
 conv => whnf
 refine ⟨?_⟩
 conv => whnf
 rw [hgn] at hd
 unfold splB
 rw [all_yes (p := fun n => oneB hs (clsL L n L.length)) hd]
theorem op141 : Opens PR 141 := ⟨_, Tryd.func141, rfl, rfl⟩
theorem c112z (gl : Gl) (hs : List Sn) (most t : Nat) (L : List Int) (hk : L.length = hs.length) : PCalls PR gl 112 [.agg [snsV hs], vL L, vI most] fun r => r = optV (refS hs most 0 t L) := by
 refine fnW_sound (parX_ok gl) Tryd.func112 ?_
 conv => whnf
 refine ⟨?_⟩
 conv => whnf
 refine ⟨true, ?_⟩
 conv => whnf
 refine ⟨?_⟩
 conv => whnf
 refine bcase_iff.2 ⟨fun h1 => ?_, fun h1 => ?_⟩
 · conv => whnf
   refine ⟨?_⟩
   conv => whnf
   rfl
 exfalso
 have h1 : ((L.length : Int) == (hs.length : Int)) = false := h1
 rw [hk] at h1
 simp at h1
theorem op112 : Opens PR 112 := ⟨_, Tryd.func112, rfl, rfl⟩
theorem c112s (gl : Gl) (hs : List Sn) (hV : ValidH hs) (most : Nat) (hm : most ≤ 8) (t : Nat) (L : List Int) (hR : Rg hs t L) (ht : t ≤ most) (k : Nat) (hk : L.length + (k + 1) = hs.length) (IH : ∀ (t' : Nat) (L' : List Int), Rg hs t' L' → L'.length + k = hs.length → t' ≤ most → PCalls PR gl 112 [.agg [snsV hs], vL L', vI most] fun r => r = optV (refS hs most k t' L')) : PCalls PR gl 112 [.agg [snsV hs], vL L, vI most] fun r => r = optV (refS hs most (k + 1) t L) := by
 refine fnW_sound (parX_ok gl) Tryd.func112 ?_
 conv => whnf
 refine ⟨?_⟩
 conv => whnf
 refine ⟨true, ?_⟩
 conv => whnf
 refine ⟨?_⟩
 conv => whnf
 refine bcase_iff.2 ⟨fun h1 => ?_, fun h1 => ?_⟩
 · exfalso
   have h1 := Int.ofNat.inj (eq_of_beq (show ((L.length : Int) == (hs.length : Int)) = true from h1))
   omega
 have hn8 := hV.n8
 conv => whnf
 refine ⟨?_⟩
 conv => whnf
 refine ⟨⟨142, [], []⟩, ?_⟩
 refine LoopW_ind _ (fun j : Nat => (({ tmps := [.undef, vL L, vI most, .own 3 [], .undef, .undef, .undef, vI j, .undef, .undef, .undef, .undef, .undef, .undef, .undef, .undef, .undef, .undef, .undef, .undef, .undef, .undef, .undef, .undef, .undef, .undef, .undef, .undef, .undef, .undef, .undef, .undef, .undef, .undef, .undef, .undef, .undef, .undef, .undef, .undef, .undef, .undef, .undef], seg := [(3, .cells [snsV hs])], up := [] } : St S))) (fun j : Nat => (j ≤ min most (t + 1) ∧ ∀ i, i < j → stepR hs most k t L i = none)) (fun j : Nat => (min most (t + 1) - j)) () ?_ 0 ⟨Nat.zero_le _, fun k h => absurd h (Nat.not_lt_zero k)⟩
 intro j hinv Z1 hZ1
 obtain ⟨hj, hd⟩ := hinv
 conv => whnf
 refine ⟨?_⟩
 conv => whnf
 refine byC (to (c54 gl L (by omega)) (by rw [hR.many])) op54 ?_
 conv => whnf
 refine bcase_iff.2 ⟨fun h4 => ?_, fun h4 => ?_⟩
 · have h4 := of_decide_eq_true h4
   rw [wrap_nat (n := t) (by omega), minE] at h4
   have hjl : j < min most (t + 1) := by omega
   have hw : IntKind.i64.wrap ((j : Int) + 1) = ((j + 1 : Nat) : Int) := wrap_nat (by omega)
   conv => whnf
   refine ⟨?_⟩
   conv => whnf
   refine ⟨lim (show L.length ≤ 1000000000 by omega), false, ?_⟩
   conv => whnf
   refine ⟨_, rfl, ?_⟩
   conv => whnf
   refine ⟨lim (show L.length + 1 ≤ 1000000000 by omega), ?_⟩
   conv => whnf
   refine ⟨?_⟩
   conv => whnf
   have hsp : PCalls PR gl 141 [.agg [snsV hs], vL (L ++ [(j : Int)])] fun r => r = vB (okJ hs L j) := to (c141 gl hs hn8 (L ++ [(j : Int)]) (by simp; omega)) (by rw [show (L ++ [(j : Int)]).length = L.length + 1 from by simp, spl_ok hV hR (by omega) (by omega)])
   rcases ho : okJ hs L j with _ | _
   · rw [ho] at hsp
     have hst : stepR hs most k t L j = none := by unfold stepR; rw [ho]; rfl
     refine byC hsp op141 ?_
     conv => whnf
     refine ⟨?_⟩
     conv => whnf
     refine ⟨⟨142, [28, 30, 31], []⟩, ?_⟩
     conv => whnf
     rw [hw]
     exact hZ1 (j + 1) ⟨hjl, up_succ hd hst⟩ (by omega)
   rw [ho] at hsp
   have hst : stepR hs most k t L j = refS hs most k (max t (j + 1)) (L ++ [(j : Int)]) := by unfold stepR; rw [ho]; rfl
   refine byC hsp op141 ?_
   conv => whnf
   refine ⟨?_⟩
   conv => whnf
   have hih := IH (max t (j + 1)) (L ++ [(j : Int)]) (hR.add (by omega) ho) (by simp; omega) (by omega)
   rcases hq : refS hs most k (max t (j + 1)) (L ++ [(j : Int)]) with _ | l
   · rw [hq] at hih hst
     refine byC hih op112 ?_
     conv => whnf
     refine ⟨?_⟩
     conv => whnf
     first | refine ⟨hne, ?_⟩ | skip
     conv => whnf
     refine ⟨?_⟩
     conv => whnf
     refine ⟨⟨142, [28, 30, 31], []⟩, ?_⟩
     conv => whnf
     rw [hw]
     exact hZ1 (j + 1) ⟨hjl, up_succ hd hst⟩ (by omega)
   have hll := refS_len hq
   have hne : l ≠ [] := fun e => by rw [e] at hll; simp at hll; omega
   rw [hq] at hih hst
   refine byC hih op112 ?_
   conv => whnf
   refine ⟨?_⟩
   conv => whnf
   first | refine ⟨hne, ?_⟩ | skip
   conv => whnf
   refine ⟨?_⟩
   conv => whnf
   first | rw [refS_hit hjl hd hst] | rw [refS_no hjl hd]
   all_goals rfl
 have h4 := of_decide_eq_false h4
 rw [wrap_nat (n := t) (by omega), minE] at h4
 have hjl : min most (t + 1) ≤ j := by omega
 conv => whnf
 refine ⟨?_⟩
 conv => whnf
 refine ⟨true, ?_⟩
 conv => whnf
 first | rw [refS_hit hjl hd hst] | rw [refS_no hjl hd]
 all_goals rfl
theorem c112 (gl : Gl) (hs : List Sn) (hV : ValidH hs) (most : Nat) (hm : most ≤ 8) : ∀ (k t : Nat) (L : List Int), Rg hs t L → L.length + k = hs.length → t ≤ most → PCalls PR gl 112 [.agg [snsV hs], vL L, vI most] fun r => r = optV (refS hs most k t L)
 | 0, t, L, _, hk, _ => c112z gl hs most t L hk
 | k + 1, t, L, hR, hk, ht => c112s gl hs hV most hm t L hR ht k hk fun t' L' h1 h2 h3 => c112 gl hs hV most hm k t' L' h1 h2 h3
theorem c38 (hs : List Sn) (hl : hs.length ≤ 9223372036854775807) : PCalls PR glT 38 [.agg [snsV hs]] fun r => r = .tup [vL (srcV hs).1, vI (srcV hs).2.1, vI (srcV hs).2.2] := by
 refine fnW_sound (parH_ok glT) Tryd.func38 ?_
 conv => whnf
 refine ⟨?_⟩
 conv => whnf
 refine ⟨?_⟩
 conv => whnf
 rcases Classical.em (chHE hs = 0) with hk | hk
 · have hV := chH_valid.1 hk
   have h8 := hV.n8
   have h1 := hV.n1
   obtain ⟨M, sl, hsv, hM1, hMn, hfit, hsl, hno⟩ := srcS_ref h1 h8
   have hsv2 := srcV_ok hV
   rw [hsv] at hsv2
   refine byC (to (c32 glT hs hl) (by rw [show (chH hs).2 = 0 from hk] : AV.tup (S := S) [vI (chH hs).1, vI (chH hs).2] = .tup [vI (chH hs).1, vI 0])) op32 ?_
   conv => whnf
   refine ⟨?_⟩
   conv => whnf
   refine ⟨?_⟩
   conv => whnf
   refine ⟨⟨130, [2], [2]⟩, ?_⟩
   refine LoopW_ind _ (fun m : Nat => (({ tmps := [.undef, .own 1 [], .undef, .undef, .undef, .undef, .undef, vI m, .undef, .undef, .undef, .undef, .undef, .undef, .undef, .undef, .undef, .undef, .undef, .undef, .undef, .undef, .undef, .undef, .undef, .undef, .undef, .undef, .undef, .undef, .undef], seg := [(1, .cells [snsV hs])], up := [] } : St S))) (fun m : Nat => (1 ≤ m ∧ m ≤ M)) (fun m : Nat => (M - m)) () ?_ 1 ⟨Nat.le_refl _, hM1⟩
   intro m hinv Z1 hZ1
   obtain ⟨hm1, hmM⟩ := hinv
   conv => whnf
   refine ⟨?_⟩
   conv => whnf
   refine bcase_iff.2 ⟨fun h5 => ?_, fun h5 => ?_⟩
   · have hw : IntKind.i64.wrap ((m : Int) + 1) = ((m + 1 : Nat) : Int) := wrap_nat (by omega)
     conv => whnf
     refine ⟨?_⟩
     conv => whnf
     have h112 := c112 glT hs hV m (by omega) hs.length 0 [] (Rg.nil hs) (by simp) (Nat.zero_le _)
     rcases Nat.lt_or_eq_of_le hmM with hlt | rfl
     · rw [hno m hlt] at h112
       refine byC h112 op112 ?_
       conv => whnf
       refine ⟨?_⟩
       conv => whnf
       first | refine ⟨hsl, ?_⟩ | skip
       conv => whnf
       refine ⟨?_⟩
       conv => whnf
       refine ⟨⟨130, [], []⟩, ?_⟩
       conv => whnf
       rw [hw]
       exact hZ1 (m + 1) ⟨by omega, by omega⟩ (by omega)
     rw [hfit] at h112
     refine byC h112 op112 ?_
     conv => whnf
     refine ⟨?_⟩
     conv => whnf
     first | refine ⟨hsl, ?_⟩ | skip
     conv => whnf
     refine ⟨?_⟩
     conv => whnf
     rw [hsv2]
   exfalso
   have h5 := of_decide_eq_false h5
   omega
 refine byC (c32 glT hs hl) op32 ?_
 conv => whnf
 refine ⟨?_⟩
 conv => whnf
 refine bcase_iff.2 ⟨fun h2 => ?_, fun h2 => ?_⟩
 · conv => whnf
   refine ⟨?_⟩
   conv => whnf
   unfold srcV
   rw [if_neg hk]
 exfalso
 have g : (chHE hs != 0) = false := h2
 exact hk (by simpa using g)
theorem op38 : Opens PR 38 := ⟨_, Tryd.func38, rfl, rfl⟩
theorem fewU {hs : List Sn} {m i : Nat} (h : i < (listsL 0 hs.length m).length) : ((listsL 0 hs.length m).take (i + 1)).filter (fun l => accB hs (bitsO l)) = ((listsL 0 hs.length m).take i).filter (fun l => accB hs (bitsO l)) ++ if accB hs (bitsO (listsL 0 hs.length m)[i]) = true then [(listsL 0 hs.length m)[i]] else [] := by
 rw [take_succ' h, List.filter_append, List.filter_cons, List.filter_nil]
theorem c107 (gl : Gl) (hs : List Sn) (hV : ValidH hs) : PCalls PR gl 107 [.agg [snsV hs]] fun r => r = .sl (S := S) U.ints ((fewR hs).map natsV) none := by
 refine fnW_sound (parH_ok gl) Tryd.func107 ?_
 conv => whnf
 refine ⟨?_⟩
 conv => whnf
 refine ⟨?_⟩
 conv => whnf
 refine loop_q fun Q1 hQ1 => ?_
 refine ⟨⟨10, [2], [2]⟩, ?_⟩
 refine LoopW_ind _ (fun m : Nat => (({ tmps := [.undef, .own 1 [], .undef, vI m, .undef, .undef, .undef, .undef, .undef, .undef, .undef, .undef, .undef, .undef, .undef, .undef, .undef, .undef, .undef, .undef, .undef, .undef, .undef, .undef, .undef, .undef, .undef, .undef, .undef, .undef, .undef, .undef, .undef, .undef, .undef, .undef, .undef, .undef, .undef, .undef, .undef, .undef, .undef, .undef], seg := [(1, .cells [snsV hs])], up := [] } : St S))) (fun m : Nat => (m ≤ leastH hs)) (fun m : Nat => (leastH hs - m)) () ?_ 0 (Nat.zero_le _)
 intro m hm Z1 hZ1
 conv => whnf
 refine ⟨?_⟩
 conv => whnf
 refine bcase_iff.2 ⟨fun h2 => ?_, fun h2 => ?_⟩
 · have hltm : m < hs.length := by have := of_decide_eq_true h2; omega
   have hn8 := hV.n8
   have hwm : IntKind.i64.wrap ((m : Int) + 1) = ((m + 1 : Nat) : Int) := wrap_nat (by omega)
   conv => whnf
   refine ⟨?_⟩
   conv => whnf
   have h8 := hV.n8
   have hll := lists_len12 (b := hs.length) (by omega) m 0
   refine byC (c139 gl hs.length (by omega) m 0 (by omega) (by omega)) op139 ?_
   conv => whnf
   refine ⟨?_⟩
   conv => whnf
   refine ⟨?_⟩
   conv => whnf
   refine loop_q fun Q2 hQ2 => ?_
   refine ⟨⟨122, [], [5]⟩, ?_⟩
   refine LoopW_ind _ (fun i : Nat => (({ tmps := [.undef, .own 1 [], .undef, vI m, .sl (S := S) U.ints ((listsL 0 hs.length m).map natsV) none, .sl (S := S) U.ints ((((listsL 0 hs.length m).take i).filter fun l => accB hs (bitsO l)).map natsV) (some 5), vI i, .undef, .undef, .undef, .undef, .undef, .undef, .undef, .undef, .undef, .undef, .undef, .undef, .undef, .undef, .undef, .undef, .undef, .undef, .undef, .undef, .undef, .undef, .undef, .undef, .undef, .undef, .undef, .undef, .undef, .undef, .undef, .undef, .undef, .undef, .undef, .undef, .undef], seg := [(1, .cells [snsV hs]), (5, .row U.ints false)], up := [] } : St S))) (fun i : Nat => (i ≤ (listsL 0 hs.length m).length)) (fun i : Nat => ((listsL 0 hs.length m).length - i)) () ?_ 0 (Nat.zero_le _)
   intro i hi Z2 hZ2
   conv => whnf
   refine ⟨?_⟩
   conv => whnf
   refine bcase_iff.2 ⟨fun h7 => ?_, fun h7 => ?_⟩
   · have hlt : i < (listsL 0 hs.length m).length := by have := of_decide_eq_true h7; rw [List.length_map] at this; omega
     have hw : IntKind.i64.wrap ((i : Int) + 1) = ((i + 1 : Nat) : Int) := wrap_nat (by omega)
     have hlm : i < ((listsL 0 hs.length m).map natsV).length := by rw [List.length_map]; exact hlt
     have hget : ((listsL 0 hs.length m).map natsV)[i] = natsV (listsL 0 hs.length m)[i] := List.getElem_map ..
     have has := ((listsL_mem m 0 hs.length _).1 (List.getElem_mem hlt)).2
     have hrn := filt_len (fun k => !((natsV (listsL 0 hs.length m)[i]).any fun x => x == (k : Int))) hs.length
     have hrx : ∀ x ∈ restL hs.length (natsV (listsL 0 hs.length m)[i]), x < hs.length := fun x hx => List.mem_range.1 (List.mem_filter.1 hx).1
     have hln : (natsV (listsL 0 hs.length m)[i]).length ≤ 9223372036854775807 := by rw [List.length_map, ((listsL_mem m 0 hs.length _).1 (List.getElem_mem hlt)).1]; omega
     have hfu := fewU hlt
     conv => whnf
     refine ⟨[0, 1, 2, 3, 4, 5, 6, 7], [], [], [], ⟨17592186044415, [], []⟩, by decide +kernel, ?_⟩
     conv => whnf
     refine ⟨natsV (listsL 0 hs.length m)[i], by rw [getI_nat hlm, hget], ?_⟩
     conv => whnf
     refine byC (c115 gl hs h8 _ hln) op115 ?_
     conv => whnf
     have h61 : PCalls PR gl 61 [.agg [snsV hs], vL (natsV (restL hs.length (natsV (listsL 0 hs.length m)[i])))] fun r => r = vB (accB hs (bitsO (listsL 0 hs.length m)[i])) := to (c61 gl hs _ hrx (by unfold restL; omega)) (by rw [lists_one hV has])
     rcases hq : accB hs (bitsO (listsL 0 hs.length m)[i]) with _ | _
     · rw [hq] at h61 hfu
       refine byC h61 op61 ?_
       conv => whnf
       refine ⟨?_⟩
       conv => whnf
       refine ⟨⟨122, [38, 39], []⟩, ?_⟩
       conv => whnf
       rw [hw]
       have hz := hZ2 (i + 1) hlt (by omega)
       rw [hfu, if_neg (by simp), List.append_nil] at hz
       exact hz
     rw [hq] at h61 hfu
     refine byC h61 op61 ?_
     conv => whnf
     refine ⟨?_⟩
     conv => whnf
     refine ⟨natsV (listsL 0 hs.length m)[i], by rw [getI_nat hlm, hget], ?_⟩
     conv => whnf
     refine ⟨_, rfl, ?_⟩
     conv => whnf
     refine ⟨lim (by have := List.length_filter_le (fun l => accB hs (bitsO l)) ((listsL 0 hs.length m).take i); simp at this ⊢; omega), ?_⟩
     conv => whnf
     refine ⟨?_⟩
     conv => whnf
     refine ⟨⟨122, [38, 39], []⟩, ?_⟩
     conv => whnf
     rw [hw]
     have hz := hZ2 (i + 1) hlt (by omega)
     rw [hfu, if_pos rfl, List.map_append] at hz
     exact hz
   have hge : i = (listsL 0 hs.length m).length := by have := of_decide_eq_false h7; rw [List.length_map] at this; omega
   rw [hge, List.take_length]
   conv => whnf
   refine (hQ2 _ _ _).mpr ?_
   conv => whnf
   refine ⟨?_⟩
   conv => whnf
   refine bcase_iff.2 ⟨fun h11 => ?_, fun h11 => ?_⟩
   · have h11 : ((fewL hs m).map natsV).length > 0 := Int.ofNat_lt.1 (of_decide_eq_true h11)
     have hme : m = leastH hs := by
      rcases Nat.lt_or_eq_of_le hm with h | h
      · rw [fewL_none h8 h] at h11; simp at h11
      exact h
     conv => whnf
     refine ⟨?_⟩
     conv => whnf
     refine (hQ1 _ _ _).mpr ?_
     conv => whnf
     exact congrArg (fun l => AV.sl (S := S) U.ints (l.map natsV) none) (show fewL hs m = fewR hs from by rw [hme])
   have h11 : ¬ (((fewL hs m).map natsV).length : Int) > 0 := of_decide_eq_false h11
   have hme : m < leastH hs := by
    rcases Nat.lt_or_eq_of_le hm with h | h
    · exact h
    exfalso; rw [h] at h11; have := List.length_pos_iff.2 (show fewL hs (leastH hs) ≠ [] from fewR_ne h8); rw [List.length_map] at h11; omega
   conv => whnf
   refine ⟨?_⟩
   conv => whnf
   refine ⟨⟨10, [5, 38, 39, 900005], []⟩, ?_⟩
   conv => whnf
   rw [hwm]
   exact hZ1 (m + 1) hme (by omega)
 exfalso
 have h2 := of_decide_eq_false h2
 have := least_lt hV.n1 hV.n8
 omega
theorem op107 : Opens PR 107 := ⟨_, Tryd.func107, rfl, rfl⟩
theorem c34 (hs : List Sn) (hl : hs.length ≤ 9223372036854775807) : PCalls PR glT 34 [.agg [snsV hs]] fun r => r = .tup [vL (forV hs).1, vI (forV hs).2] := by
 refine fnW_sound (parH_ok glT) Tryd.func34 ?_
 conv => whnf
 refine ⟨?_⟩
 conv => whnf
 refine ⟨?_⟩
 conv => whnf
 rcases Classical.em (chHE hs = 0) with hk | hk
 · have hV := chH_valid.1 hk
   have h8 := hV.n8
   have h1 := hV.n1
   refine byC (to (c32 glT hs hl) (by rw [show (chH hs).2 = 0 from hk] : AV.tup (S := S) [vI (chH hs).1, vI (chH hs).2] = .tup [vI (chH hs).1, vI 0])) op32 ?_
   conv => whnf
   refine ⟨?_⟩
   conv => whnf
   refine ⟨?_⟩
   conv => whnf
   refine byC (c107 glT hs hV) op107 ?_
   conv => whnf
   have hne := fewR_ne h8
   have hl0 : 0 < ((fewR hs).map natsV).length := by rw [List.length_map]; exact List.length_pos_iff.2 hne
   have hg0 : ((fewR hs).map natsV)[0] = natsV ((fewR hs).getD 0 []) := by rw [List.getElem_map, getD_at (List.length_pos_iff.2 hne)]
   refine ⟨natsV ((fewR hs).getD 0 []), by rw [show (0 : Int) = ((0 : Nat) : Int) from rfl, getI_nat hl0, hg0], ?_⟩
   conv => whnf
   rw [forV_ref hV]
   all_goals rfl
 refine byC (c32 glT hs hl) op32 ?_
 conv => whnf
 refine ⟨?_⟩
 conv => whnf
 refine bcase_iff.2 ⟨fun h2 => ?_, fun h2 => ?_⟩
 · conv => whnf
   refine ⟨?_⟩
   conv => whnf
   unfold forV
   rw [if_neg hk]
 exfalso
 have g : (chHE hs != 0) = false := h2
 exact hk (by simpa using g)
theorem op34 : Opens PR 34 := ⟨_, Tryd.func34, rfl, rfl⟩
end Go.Ab.MkF
namespace Go.Ab.MkF
open Go Go.Ab Go.Ab.Pln Go.Proofs
set_option maxHeartbeats 1000000
set_option maxRecDepth 100000
def cntL (hs : List Sn) (i k : Nat) : Nat := (((fewR hs).take k).filter fun l => l.contains i).length
theorem cntL_succ {hs : List Sn} {i k : Nat} (h : k < (fewR hs).length) : cntL hs i (k + 1) = cntL hs i k + if ((fewR hs)[k]).contains i = true then 1 else 0 := by
 unfold cntL
 rw [take_succ' h, List.filter_append, List.length_append, List.filter_cons, List.filter_nil]
 cases ((fewR hs)[k]).contains i <;> rfl
theorem cntL_le (hs : List Sn) (i k : Nat) : cntL hs i k ≤ k := by
 unfold cntL
 exact Nat.le_trans (List.length_filter_le _ _) (by simp; omega)
theorem cntL_all {hs : List Sn} {i : Nat} : (cntL hs i (fewR hs).length == (fewR hs).length) = (fewR hs).all fun l => l.contains i := by
 unfold cntL
 rw [List.take_length, Bool.eq_iff_iff, beq_iff_eq, List.length_filter_eq_length_iff, List.all_eq_true]
theorem cntL_any {hs : List Sn} {i : Nat} : decide (cntL hs i (fewR hs).length > 0) = (fewR hs).any fun l => l.contains i := by
 unfold cntL
 rw [List.take_length, Bool.eq_iff_iff, decide_eq_true_eq, List.any_eq_true]
 constructor
 · intro h
   obtain ⟨x, hx⟩ := List.exists_mem_of_length_pos h
   exact ⟨x, (List.mem_filter.1 hx).1, (List.mem_filter.1 hx).2⟩
 rintro ⟨x, hx, h⟩
 exact List.length_pos_of_mem (List.mem_filter.2 ⟨hx, h⟩)
theorem c36 (hs : List Sn) (hl : hs.length ≤ 9223372036854775807) : PCalls PR glT 36 [.agg [snsV hs]] fun r => r = .tup [vL (sureV hs).1, vL (sureV hs).2.1, vI (sureV hs).2.2] := by
 refine fnW_sound (parH_ok glT) Tryd.func36 ?_
 conv => whnf
 refine ⟨?_⟩
 conv => whnf
 refine ⟨?_⟩
 conv => whnf
 rcases Classical.em (chHE hs = 0) with hk | hk
 · have hV := chH_valid.1 hk
   have h8 := hV.n8
   have h1 := hV.n1
   have hfl : (fewR hs).length ≤ 4096 := Nat.le_trans (List.length_filter_le _ _) (lists_len12 (b := hs.length) (by omega) _ _)
   refine byC (to (c32 glT hs hl) (by rw [show (chH hs).2 = 0 from hk] : AV.tup (S := S) [vI (chH hs).1, vI (chH hs).2] = .tup [vI (chH hs).1, vI 0])) op32 ?_
   conv => whnf
   refine ⟨?_⟩
   conv => whnf
   refine ⟨?_⟩
   conv => whnf
   refine byC (c107 glT hs hV) op107 ?_
   conv => whnf
   refine ⟨?_⟩
   conv => whnf
   refine ⟨?_⟩
   conv => whnf
   refine loop_q fun Q1 hQ1 => ?_
   refine ⟨⟨1922, [2, 3], [2, 3, 8, 9]⟩, ?_⟩
   refine LoopW_ind _ (fun i : Nat => (({ tmps := [.undef, .own 1 [], .undef, .undef, .undef, .undef, .undef, .sl (S := S) U.ints ((fewR hs).map natsV) none, .sl (S := S) U.int (natsV (mustL hs i)) (some 8), .sl (S := S) U.int (natsV (mayL hs i)) (some 9), vI i, .undef, .undef, .undef, .undef, .undef, .undef, .undef, .undef, .undef, .undef, .undef, .undef, .undef, .undef, .undef, .undef, .undef, .undef, .undef, .undef, .undef, .undef, .undef, .undef, .undef, .undef, .undef, .undef, .undef, .undef, .undef, .undef, .undef, .undef, .undef, .undef, .undef, .undef, .undef, .undef, .undef, .undef, .undef, .undef, .undef, .undef, .undef, .undef, .undef], seg := [(1, .cells [snsV hs]), (8, .row U.int false), (9, .row U.int false)], up := [] } : St S))) (fun i : Nat => (i ≤ hs.length)) (fun i : Nat => (hs.length - i)) () ?_ 0 (Nat.zero_le _)
   intro i hi Z1 hZ1
   conv => whnf
   refine ⟨?_⟩
   conv => whnf
   refine bcase_iff.2 ⟨fun h7 => ?_, fun h7 => ?_⟩
   · have hlt : i < hs.length := by have := of_decide_eq_true h7; omega
     have hw : IntKind.i64.wrap ((i : Int) + 1) = ((i + 1 : Nat) : Int) := wrap_nat (by omega)
     conv => whnf
     refine ⟨?_⟩
     conv => whnf
     refine ⟨?_⟩
     conv => whnf
     refine loop_q fun Q2 hQ2 => ?_
     refine ⟨⟨8066, [], []⟩, ?_⟩
     refine LoopW_ind _ (fun k : Nat => (({ tmps := [.undef, .own 1 [], .undef, .undef, .undef, .undef, .undef, .sl (S := S) U.ints ((fewR hs).map natsV) none, .sl (S := S) U.int (natsV (mustL hs i)) (some 8), .sl (S := S) U.int (natsV (mayL hs i)) (some 9), vI i, vI ((cntL hs i k : Nat) : Int), vI k, .undef, .undef, .undef, .undef, .undef, .undef, .undef, .undef, .undef, .undef, .undef, .undef, .undef, .undef, .undef, .undef, .undef, .undef, .undef, .undef, .undef, .undef, .undef, .undef, .undef, .undef, .undef, .undef, .undef, .undef, .undef, .undef, .undef, .undef, .undef, .undef, .undef, .undef, .undef, .undef, .undef, .undef, .undef, .undef, .undef, .undef, .undef], seg := [(1, .cells [snsV hs]), (8, .row U.int false), (9, .row U.int false)], up := [] } : St S))) (fun k : Nat => (k ≤ (fewR hs).length)) (fun k : Nat => ((fewR hs).length - k)) () ?_ 0 (Nat.zero_le _)
     intro k hk2 Z2 hZ2
     conv => whnf
     refine ⟨?_⟩
     conv => whnf
     refine bcase_iff.2 ⟨fun h11 => ?_, fun h11 => ?_⟩
     · have hlk : k < (fewR hs).length := by have := of_decide_eq_true h11; rw [List.length_map] at this; omega
       have hwk : IntKind.i64.wrap ((k : Int) + 1) = ((k + 1 : Nat) : Int) := wrap_nat (by omega)
       have hkm : k < ((fewR hs).map natsV).length := by rw [List.length_map]; exact hlk
       have hkg : ((fewR hs).map natsV)[k] = natsV (fewR hs)[k] := List.getElem_map ..
       have hcl := cntL_le hs i k
       have hcs := cntL_succ (i := i) hlk
       have hln : (natsV (fewR hs)[k]).length ≤ 9223372036854775807 := by rw [List.length_map, (fewL_mem.1 (List.getElem_mem hlk)).1]; have := least_lt h1 h8; omega
       conv => whnf
       refine ⟨?_⟩
       conv => whnf
       refine ⟨natsV (fewR hs)[k], by rw [getI_nat hkm, hkg], ?_⟩
       conv => whnf
       refine byC (to (c60 glT _ hln i) (by rw [any_nats])) op60 ?_
       conv => whnf
       refine bcase_iff.2 ⟨fun h13 => ?_, fun h13 => ?_⟩
       · have h13 : ((fewR hs)[k]).contains i = true := h13
         rw [h13, if_pos rfl] at hcs
         have hwc : IntKind.i64.wrap (((cntL hs i k : Nat) : Int) + 1) = ((cntL hs i (k + 1) : Nat) : Int) := by rw [hcs]; exact wrap_nat (by omega)
         conv => whnf
         refine ⟨?_⟩
         conv => whnf
         refine ⟨?_⟩
         conv => whnf
         refine ⟨⟨8066, [], []⟩, ?_⟩
         conv => whnf
         rw [hwk, hwc]
         exact hZ2 (k + 1) hlk (by omega)
       have h13 : ((fewR hs)[k]).contains i = false := h13
       rw [h13, if_neg (by simp)] at hcs
       conv => whnf
       refine ⟨?_⟩
       conv => whnf
       refine ⟨⟨8066, [], []⟩, ?_⟩
       conv => whnf
       rw [hwk, show cntL hs i k = cntL hs i (k + 1) from by omega]
       exact hZ2 (k + 1) hlk (by omega)
     have hgk : k = (fewR hs).length := by have := of_decide_eq_false h11; rw [List.length_map] at this; omega
     conv => whnf
     refine (hQ2 _ _ _).mpr ?_
     conv => whnf
     refine ⟨?_⟩
     conv => whnf
     refine bcase_iff.2 ⟨fun h15 => ?_, fun h15 => ?_⟩
     · have h15 : (fun k => (fewR hs).all fun l => l.contains k) i = true := by show ((fewR hs).all fun l => l.contains i) = true; rw [← cntL_all, beq_iff_eq]; have h := h15; rw [hgk, List.length_map] at h; exact Int.ofNat.inj (eq_of_beq h)
       conv => whnf
       refine ⟨?_⟩
       conv => whnf
       refine ⟨_, rfl, ?_⟩
       conv => whnf
       refine ⟨lim (by have := nf_len (fun k => (fewR hs).all fun l => l.contains k) i; unfold mustL; simp at this ⊢; omega), ?_⟩
       conv => whnf
       refine ⟨?_⟩
       conv => whnf
       refine bcase_iff.2 ⟨fun h17 => ?_, fun h17 => ?_⟩
       · have h17 : (fun k => (fewR hs).any fun l => l.contains k) i = true := by show ((fewR hs).any fun l => l.contains i) = true; rw [← cntL_any, decide_eq_true_eq]; have h := of_decide_eq_true h17; rw [hgk] at h; exact Int.ofNat_lt.1 h
         conv => whnf
         refine ⟨?_⟩
         conv => whnf
         refine ⟨_, rfl, ?_⟩
         conv => whnf
         refine ⟨lim (by have := nf_len (fun k => (fewR hs).any fun l => l.contains k) i; unfold mayL; simp at this ⊢; omega), ?_⟩
         conv => whnf
         refine ⟨?_⟩
         conv => whnf
         refine ⟨⟨1922, [50, 51, 56, 57], []⟩, ?_⟩
         conv => whnf
         rw [hw]
         have hz := hZ1 (i + 1) hlt (by omega)
         rw [show natsV (mustL hs (i + 1)) = natsV (mustL hs i) ++ [(i : Int)] from nf_T h15, show natsV (mayL hs (i + 1)) = natsV (mayL hs i) ++ [(i : Int)] from nf_T h17] at hz
         exact hz
       have h17 : (fun k => (fewR hs).any fun l => l.contains k) i = false := by show ((fewR hs).any fun l => l.contains i) = false; rw [← cntL_any, decide_eq_false_iff_not]; have h := of_decide_eq_false h17; rw [hgk] at h; exact fun e => h (Int.ofNat_lt.2 e)
       conv => whnf
       refine ⟨?_⟩
       conv => whnf
       refine ⟨⟨1922, [50, 51, 56, 57], []⟩, ?_⟩
       conv => whnf
       rw [hw]
       have hz := hZ1 (i + 1) hlt (by omega)
       rw [show natsV (mustL hs (i + 1)) = natsV (mustL hs i) ++ [(i : Int)] from nf_T h15, show natsV (mayL hs (i + 1)) = natsV (mayL hs i) from nf_F h17] at hz
       exact hz
     have h15 : (fun k => (fewR hs).all fun l => l.contains k) i = false := by show ((fewR hs).all fun l => l.contains i) = false; rw [← cntL_all]; have h := h15; rw [hgk, List.length_map] at h; rw [Bool.eq_false_iff]; intro e; rw [eq_of_beq e] at h; simp at h
     conv => whnf
     refine ⟨?_⟩
     conv => whnf
     refine bcase_iff.2 ⟨fun h17 => ?_, fun h17 => ?_⟩
     · have h17 : (fun k => (fewR hs).any fun l => l.contains k) i = true := by show ((fewR hs).any fun l => l.contains i) = true; rw [← cntL_any, decide_eq_true_eq]; have h := of_decide_eq_true h17; rw [hgk] at h; exact Int.ofNat_lt.1 h
       conv => whnf
       refine ⟨?_⟩
       conv => whnf
       refine ⟨_, rfl, ?_⟩
       conv => whnf
       refine ⟨lim (by have := nf_len (fun k => (fewR hs).any fun l => l.contains k) i; unfold mayL; simp at this ⊢; omega), ?_⟩
       conv => whnf
       refine ⟨?_⟩
       conv => whnf
       refine ⟨⟨1922, [50, 51, 56, 57], []⟩, ?_⟩
       conv => whnf
       rw [hw]
       have hz := hZ1 (i + 1) hlt (by omega)
       rw [show natsV (mustL hs (i + 1)) = natsV (mustL hs i) from nf_F h15, show natsV (mayL hs (i + 1)) = natsV (mayL hs i) ++ [(i : Int)] from nf_T h17] at hz
       exact hz
     have h17 : (fun k => (fewR hs).any fun l => l.contains k) i = false := by show ((fewR hs).any fun l => l.contains i) = false; rw [← cntL_any, decide_eq_false_iff_not]; have h := of_decide_eq_false h17; rw [hgk] at h; exact fun e => h (Int.ofNat_lt.2 e)
     conv => whnf
     refine ⟨?_⟩
     conv => whnf
     refine ⟨⟨1922, [50, 51, 56, 57], []⟩, ?_⟩
     conv => whnf
     rw [hw]
     have hz := hZ1 (i + 1) hlt (by omega)
     rw [show natsV (mustL hs (i + 1)) = natsV (mustL hs i) from nf_F h15, show natsV (mayL hs (i + 1)) = natsV (mayL hs i) from nf_F h17] at hz
     exact hz
   have hge : i = hs.length := by have := of_decide_eq_false h7; omega
   conv => whnf
   refine (hQ1 _ _ _).mpr ?_
   conv => whnf
   refine ⟨?_⟩
   conv => whnf
   rw [sureV_ref hV, hge]
 refine byC (c32 glT hs hl) op32 ?_
 conv => whnf
 refine ⟨?_⟩
 conv => whnf
 refine bcase_iff.2 ⟨fun h2 => ?_, fun h2 => ?_⟩
 · conv => whnf
   refine ⟨?_⟩
   conv => whnf
   unfold sureV
   rw [if_neg hk]
 exfalso
 have g : (chHE hs != 0) = false := h2
 exact hk (by simpa using g)
theorem op36 : Opens PR 36 := ⟨_, Tryd.func36, rfl, rfl⟩
theorem forV_le (hs : List Sn) : (forV hs).1.length ≤ 1000 := by
 by_cases h : chHE hs = 0
 · have hV := chH_valid.1 h
   rw [(forV_len hV).1]
   have := least_lt hV.n1 hV.n8
   have := hV.n8
   omega
 unfold forV; rw [if_neg h]; exact Nat.zero_le _
theorem sureV_le (hs : List Sn) : (sureV hs).1.length ≤ 1000 ∧ (sureV hs).2.1.length ≤ 1000 := by
 by_cases h : chHE hs = 0
 · have hV := chH_valid.1 h
   have h8 := hV.n8
   rw [sureV_ref hV]
   have h1 := filt_len (fun k => (fewR hs).all fun l => l.contains k) hs.length
   have h2 := filt_len (fun k => (fewR hs).any fun l => l.contains k) hs.length
   constructor
   · show (natsV (mustL hs hs.length)).length ≤ 1000
     rw [List.length_map]; unfold mustL; omega
   show (natsV (mayL hs hs.length)).length ≤ 1000
   rw [List.length_map]; unfold mayL; omega
 unfold sureV; rw [if_neg h]; exact ⟨Nat.zero_le _, Nat.zero_le _⟩
theorem srcV_le (hs : List Sn) : (srcV hs).1.length ≤ 1000 := by
 by_cases h : chHE hs = 0
 · have hV := chH_valid.1 h
   have h8 := hV.n8
   obtain ⟨m, _, h2, _⟩ := srcS_col h8
   rw [srcV_ok hV]
   show (srcS hs).2.length ≤ 1000
   omega
 unfold srcV; rw [if_neg h]; exact Nat.zero_le _
theorem c5 (hs : List Sn) (hl : hs.length ≤ 9223372036854775807) : PCalls PR glT 5 [.agg [snsV hs]] fun r => r = vB true := by
 refine fnW_sound (parH_ok glT) Tryd.func5 ?_
 conv => whnf
 refine ⟨?_⟩
 conv => whnf
 refine ⟨?_⟩
 conv => whnf
 have h33 := c33 hs hl
 have h34 := c34 hs hl
 have h35 := c35 hs hl
 have h36 := c36 hs hl
 have h37 := c37 hs hl
 have h38 := c38 hs hl
 have b1 := forV_le hs
 have b2 := sureV_le hs
 have b3 := srcV_le hs
 have h31 := c31 glT hs hl
 have h32 := c32 glT hs hl
 generalize chH hs = C at h31 h32
 conv => whnf
 generalize forV hs = F at h33 h34 b1
 conv => whnf
 generalize sureV hs = U at h35 h36 b2
 conv => whnf
 generalize srcV hs = R at h37 h38 b3
 conv => whnf
 obtain ⟨c1, c2⟩ := C
 obtain ⟨f1, f2⟩ := F
 obtain ⟨u1, u2, u3⟩ := U
 obtain ⟨r1, r2, r3⟩ := R
 have b1 : f1.length ≤ 1000 := b1
 have b2 : u1.length ≤ 1000 ∧ u2.length ≤ 1000 := b2
 have b3 : r1.length ≤ 1000 := b3
 refine byC h31 op31 ?_
 conv => whnf
 refine ⟨?_⟩
 conv => whnf
 refine byC h32 op32 ?_
 conv => whnf
 refine ⟨?_⟩
 conv => whnf
 refine bcase_iff.2 ⟨fun g3_3 => ?_, fun g3_3 => ?_⟩
 · exfalso
   exact nePs g3_3
 conv => whnf
 refine bcase_iff.2 ⟨fun h3 => ?_, fun h3 => ?_⟩
 · exfalso
   exact nePs h3
 conv => whnf
 refine ⟨?_⟩
 conv => whnf
 refine byC h33 op33 ?_
 conv => whnf
 refine ⟨?_⟩
 conv => whnf
 refine byC h34 op34 ?_
 conv => whnf
 refine ⟨?_⟩
 conv => whnf
 refine byC (to (c20 glT f1 f1 (by omega)) (by rw [decide_eq_true rfl])) op20 ?_
 conv => whnf
 refine bcase_iff.2 ⟨fun h7 => ?_, fun h7 => ?_⟩
 · exfalso
   exact nePs h7
 conv => whnf
 refine ⟨?_⟩
 conv => whnf
 refine byC h35 op35 ?_
 conv => whnf
 refine ⟨?_⟩
 conv => whnf
 refine byC h36 op36 ?_
 conv => whnf
 refine ⟨?_⟩
 conv => whnf
 refine byC (to (c20 glT u1 u1 (by omega)) (by rw [decide_eq_true rfl])) op20 ?_
 conv => whnf
 refine byC (to (c20 glT u2 u2 (by omega)) (by rw [decide_eq_true rfl])) op20 ?_
 conv => whnf
 refine bcase_iff.2 ⟨fun h11 => ?_, fun h11 => ?_⟩
 · exfalso
   exact nePs h11
 conv => whnf
 refine ⟨?_⟩
 conv => whnf
 refine byC h37 op37 ?_
 conv => whnf
 refine ⟨?_⟩
 conv => whnf
 refine byC h38 op38 ?_
 conv => whnf
 refine ⟨?_⟩
 conv => whnf
 refine byC (to (c20 glT r1 r1 (by omega)) (by rw [decide_eq_true rfl])) op20 ?_
 conv => whnf
 refine bcase_iff.2 ⟨fun g15_8 => ?_, fun g15_8 => ?_⟩
 · conv => whnf
   refine bcase_iff.2 ⟨fun g15_13 => ?_, fun g15_13 => ?_⟩
   · conv => whnf
     refine byC c27 op27 ?_
     conv => whnf
     all_goals rfl
   exfalso
   exact eqPs g15_13
 exfalso
 exact eqPs g15_8
end Go.Ab.MkF
namespace Go.Ab.MkF
open Go Go.Ab Go.Proofs Go.Proofs.YtmchcpmkadhmjaaDoor Go.ChangeShapes Go.WideShapes Go.ChangeAt Go.RowKit
theorem post_same {H : Type} {enc : TypeId × Value → H} {P : Program} {f : Func} {s : ChangeSpec} {apart fresh handsOn again : Bool} {W W' : World} {args : Array Value} {v : Value} {ds gs : List (DataW H)} {before pa pv : List MemPlace}
  (hW : DataW.Whole enc P f.params.toList s.vars apart W args.toList ds gs before)
  (hres : ∀ (b : Nat) (sp : Nat → Bool) (hd : Bool), DataW.TrodAll enc P W' b sp hd f.resultTypes.toList (v.resultList f.resultTypes.size) (s.fn H (ds ++ gs)).results [])
  (hargs : ∀ sp : Nat → Bool, (∀ p ∈ before, sp p.block = true) → DataW.TrodAll enc P W' 0 sp true f.params.toList args.toList (s.fn H (ds ++ gs)).args pa)
  (hvars : ∀ sp : Nat → Bool, (∀ p ∈ before, sp p.block = true) → DataW.TrodVars enc P W' sp s.vars (s.fn H (ds ++ gs)).vars pv)
  (hps : before = pa ++ pv) (hk : W.keptBut W' (· ∈ before)) (hfz : ∀ a, a.block < W.heap.size → W'.frozen? a = W.frozen? a)
  (hok : ∀ (j : Nat) (t : TypeId) (r : Value), f.resultTypes[j]? = some t → (v.resultList f.resultTypes.size)[j]? = some r → Value.okWide P W' .any 0 t r) :
  s.post enc P f apart fresh handsOn again W args v W' := by
 have hlt := hW.lt
 have hold : ∀ p ∈ before, (fun b => decide (b < W.heap.size)) p.block = true := fun p hp => by simpa using hlt p hp
 refine ⟨ds, gs, before, [], pa, pv, hW, hres _ _ _, hargs _ hold, hvars _ hold, World.keptBut_mono (fun p hp => ⟨hp, ?_⟩) hk, fun _ => ?_⟩
 · rw [hps, List.mem_append] at hp
   exact Or.inr hp
 obtain ⟨_, _, _, _, _, hz, hn⟩ := hW
 refine ⟨hok, _, _, ([] ++ pa) ++ pv, ⟨[] ++ pa, pv, trodAll_append (hargs _ (fun _ _ => rfl)) (hres _ _ _), hvars _ (fun _ _ => rfl), rfl, ?_, ?_⟩, ?_⟩
 · intro b off hp
   have hp' : MemPlace.cell b off ∈ before := by rw [hps]; simpa using hp
   rw [hfz _ (hlt _ hp')]
   exact hz b off hp'
 · intro ha
   have := hn ha
   rw [hps] at this
   simpa using this
 intro p hp _
 rw [hps]
 simpa using hp
theorem grow_kept {w w' : World} (h : Grow w w') (may : MemPlace → Prop) : w.keptBut w' may := by
 refine ⟨h.os, h.output, fun i hi => ?_⟩
 rw [h.block i hi]
 cases w.heap[i]? with
 | none => trivial
 | some o => cases o <;> simp
theorem grow_fz {w w' : World} (h : Grow w w') (a : Addr) (ha : a.block < w.heap.size) : w'.frozen? a = w.frozen? a := by
 unfold World.frozen?
 rw [h.block _ ha]
theorem gTab : Tryd.prog.globalNamed "math/bits.deBruijn64tab" = some 1 := by kernel_rfl
theorem gTabType : (Tryd.prog.globals[1]?).map (·.type) = some 198 := by kernel_rfl
theorem cells198 : Tryd.prog.cellsOf 198 = 64 := by kernel_rfl
theorem cells5 : Tryd.prog.cellsOf 5 = 1 := by kernel_rfl
theorem laid_glT {W : World} (h : laidMetH Tryd.prog [("math/bits.deBruijn32tab", Rows.laid_math_bits_deBruijn32tab), ("math/bits.deBruijn64tab", Rows.laid_math_bits_deBruijn64tab)] W) : glT.G W := by
 have h1 := laidMetH.filter (fun x => x.1 == "math/bits.deBruijn64tab") h
 have e : ([("math/bits.deBruijn32tab", Rows.laid_math_bits_deBruijn32tab), ("math/bits.deBruijn64tab", Rows.laid_math_bits_deBruijn64tab)] : List (String × DataW Unit)).filter (fun x => x.1 == "math/bits.deBruijn64tab") = [("math/bits.deBruijn64tab", Rows.laid_math_bits_deBruijn64tab)] := by rfl
 rw [e, Go.MakeChecks.laidMetH_plain _ _ _ (by kernel_rfl)] at h1
 have ht : Lib.TabIs Tryd.prog W "math/bits.deBruijn64tab" .u8 (Lib.deBruijn64tab.map fun n : Nat => (n : Int)) := Lib.tabIs_of_head (rest := []) gTab gTabType Tryd.underlying198 Tryd.underlying5 cells5 cells198 h1
 have hc : TabAt 1 Lib.deBruijn64tab W := fun j hj => by
  have := ht.cell gTab j (by simpa using hj)
  rw [this]
  simp [List.getD, hj]
 refine ⟨?_, hc⟩
 have := hc 0 (by decide)
 rcases Nat.lt_or_ge 1 W.heap.size with hlt | hge
 · exact hlt
 exfalso
 have hn : W.heap[1]? = none := Array.getElem?_eq_none hge
 simp [World.cell?, hn] at this
def tab32 : List Int := [0, 1, 28, 2, 29, 14, 24, 3, 30, 22, 20, 15, 25, 17, 4, 8, 31, 27, 13, 23, 21, 19, 16, 7, 26, 12, 18, 6, 11, 5, 10, 9]
def tab64 : List Int := [0, 1, 56, 2, 57, 49, 28, 3, 61, 58, 42, 50, 38, 29, 17, 4, 62, 47, 59, 36, 45, 43, 51, 22, 53, 39, 33, 30, 24, 18, 12, 5, 63, 55, 48, 27, 60, 41, 37, 16, 46, 35, 44, 21, 52, 32, 23, 11, 54, 26, 40, 15, 34, 20, 31, 10, 25, 14, 19, 9, 13, 8, 7, 6]
def setTab (zs : List Int) : Obj → Obj
 | .cells _ t frozen => .cells (zs.map fun n => Value.int .u8 n).toArray t frozen
 | o => o
def tabWorld (w : World) : World := { w with heap := (w.heap.modify 0 (setTab tab32)).modify 1 (setTab tab64) }
end Go.Ab.MkF
namespace Go.Ab.MkF
open Go Go.Ab Go.Proofs
set_option maxRecDepth 100000
theorem kids : Kids Tryd.prog (· < Tryd.prog.types.size) := kids_rows (by kernel_rfl) (by kernel_rfl)
theorem full : ∀ t e, t < Tryd.prog.types.size → Tryd.prog.underlying t = some (.slice e) → 0 < Tryd.prog.cellsOf e := slices_full_of Tryd.prog (by kernel_rfl)
theorem zc3 : Tryd.prog.cellsOf 3 = 1 := by kernel_rfl
theorem zc46 : Tryd.prog.cellsOf 46 = 1 := by kernel_rfl
theorem zc48 : Tryd.prog.cellsOf 48 = 1 := by kernel_rfl
theorem zc57 : Tryd.prog.cellsOf 57 = 2 := by kernel_rfl
theorem zc84 : Tryd.prog.cellsOf 84 = 3 := by kernel_rfl
abbrev B63 : Nat := 9223372036854775807
section
variable {H : Type} {enc : TypeId × Value → H} {w : World}
theorem oInt : OpA S enc Tryd.prog w 3 fun cl => ∃ n : Int, cl = Cod.enc (S := S) U.int n ∧ IntKind.i64.min ≤ n ∧ n ≤ IntKind.i64.max :=
 (OpA.int Tryd.underlying3).mono fun _ ⟨n, h, h1⟩ => ⟨n, h, h1⟩
theorem oSpan : OpA S enc Tryd.prog w 57 fun cl => ∃ a b : Int, cl = [vI a, vI b] := by
 refine (OpA.struct (Rs := [_, _]) Tryd.underlying57 ⟨rfl, _, _, rfl, oInt, by rw [zc3], _, _, rfl, oInt, by rw [zc3, zc57], rfl⟩).mono ?_
 rintro cl ⟨a, b, rfl, ⟨n, rfl, _⟩, e, f, rfl, ⟨m, rfl, _⟩, rfl⟩
 exact ⟨n, m, rfl⟩
theorem oSn : OpA S enc Tryd.prog w 84 fun cl => ∃ y : Sn, cl = Cod.enc (S := S) U.seen y ∧ True := by
 refine (OpA.struct (Rs := [_, _]) Tryd.underlying84 ⟨rfl, _, _, rfl, oInt, by rw [zc3], _, _, rfl, oSpan, by rw [zc3, zc57, zc84], rfl⟩).mono ?_
 rintro cl ⟨a, b, rfl, ⟨n, rfl, _⟩, e, f, rfl, ⟨m, k, rfl⟩, rfl⟩
 exact ⟨(n, m, k), rfl, trivial⟩
theorem oSns : OpA S enc Tryd.prog w 46 fun cl => ∃ ys : List Sn, cl = [snsV ys] ∧ ys.length ≤ B63 ∧ ∀ y ∈ ys, True :=
 OpA.slice (S := S) (u := U.seen) Tryd.underlying46 zc84 oSn
theorem oHand : OpA S enc Tryd.prog w 48 fun cl => ∃ ys : List Sn, cl = [snsV ys] ∧ ys.length ≤ B63 := by
 refine (OpA.struct (Rs := [_]) Tryd.underlying48 ⟨rfl, _, _, rfl, oSns, by rw [zc46, zc48], rfl⟩).mono ?_
 rintro cl ⟨a, b, rfl, ⟨ys, rfl, h, _⟩, rfl⟩
 exact ⟨ys, rfl, h⟩
end
abbrev noHand : Value := .agg #[.slice none 0 0]
end Go.Ab.MkF
