/-
  THE MADE FAMILY, PLAIN LAW, PART E: the fewest leaves: what is so of them.
  THE MADE FAMILY, PLAIN LAW, PART F: the fewest copies: what is so of them.
  THE MADE FAMILY, PLAIN LAW, PART H: leaves that are told, as a set.
  THE MADE FAMILY, PLAIN LAW, PART G: of MadeLeaf: one leaf more, or one that is seen less well.
  THE MADE FAMILY, PART RA: the reference: a hand.
  THE MADE FAMILY, PART LH: what the laws of a hand have in common.
  THE MADE FAMILY, PART LB: MadeLeaf.
  THE MADE FAMILY: WHAT ALL ITS CARDS NEED: from a contract of the engine to the given statements' form.
  THE MADE FAMILY: the arguments of its laws, read as ours.
-/
import Derived.Test.YtmchcpmkadhmjaaDoorCards
import Derived.Test.YtmchcpmkadhmjaaDoorTie
import Derived.WalkKit
import Derived.ProofKit
import Derived.OpenShut
import Derived.Deep.DeepHandedRow
import Derived.Lib.LaidTab
import Derived.LaidSub
import Derived.MakeChecks
import Derived.ChangeBears
import Derived.Test.YtmchcpmkadhmjaaDoorMadeB
import Derived.Test.YtmchcpmkadhmjaaDoorMadeA
import Derived.Test.YtmchcpmkadhmjaaDoorEngD
namespace Go.Ab.MkF
open Go Go.Ab Go.Ab.Pln
theorem bitsL_mem {n c a : Nat} (hc : c ≤ 64) (hn : n < 2 ^ c) : a ∈ bitsL n ↔ n.testBit a = true := by
 rw [bitsL_below hc hn, List.mem_filter, List.mem_range]
 refine ⟨fun h => h.2, fun h => ⟨?_, h⟩⟩
 rcases Nat.lt_or_ge a c with h2 | h2
 · exact h2
 rw [Nat.testBit_lt_two_pow (Nat.lt_of_lt_of_le hn (Nat.pow_le_pow_right (by omega) h2))] at h; cases h
theorem bits_asc {n c : Nat} (hc : c ≤ 64) (hn : n < 2 ^ c) : (bitsL n).Pairwise (· < ·) := by
 rw [bitsL_below hc hn]; exact List.Pairwise.filter _ List.pairwise_lt_range
theorem pw_asc {R : Nat → Nat → Prop} : ∀ {l : List Nat}, l.Pairwise (· < ·) → (l.Pairwise R ↔ ∀ a ∈ l, ∀ b ∈ l, a < b → R a b)
 | [], _ => by simp
 | c :: r, h => by
  obtain ⟨h1, h2⟩ := List.pairwise_cons.1 h
  rw [List.pairwise_cons, pw_asc h2]
  constructor
  · rintro ⟨h3, h4⟩ a ha b hb hab
    rcases List.mem_cons.1 ha with rfl | ha'
    · rcases List.mem_cons.1 hb with rfl | hb'
      · omega
      exact h3 b hb'
    rcases List.mem_cons.1 hb with rfl | hb'
    · have := h1 a ha'; omega
    exact h4 a ha' b hb' hab
  intro h3
  exact ⟨fun b hb => h3 c List.mem_cons_self b (List.mem_cons_of_mem _ hb) (h1 b hb), fun a ha b hb => h3 a (List.mem_cons_of_mem _ ha) b (List.mem_cons_of_mem _ hb)⟩
theorem less_test (a b k : Nat) : (less a b).testBit k = (a.testBit k && !b.testBit k) := by
 unfold less
 rw [Nat.testBit_xor, Nat.testBit_and]
 cases a.testBit k <;> cases b.testBit k <;> rfl
theorem rest_test (n s k : Nat) : (less (2 ^ n - 1) s).testBit k = (decide (k < n) && !s.testBit k) := by rw [less_test, Nat.testBit_two_pow_sub_one]
theorem rest_lt (n s : Nat) : less (2 ^ n - 1) s < 2 ^ n := less_lt' (by have := Nat.two_pow_pos n; omega)
def Acc (hs : List Sn) (s : Nat) : Prop := ∀ a b, a < b → b < hs.length → s.testBit a = false → s.testBit b = false → pairH hs a b = true
theorem clR_none {hs : List Sn} {c set : Nat} (hc : c ≤ 64) (hn : set < 2 ^ c) : clR hs set = none ↔ ∀ a b, a < b → set.testBit a = true → set.testBit b = true → pairH hs a b = true := by
 unfold clR
 rw [clL_none, pw_asc (bits_asc hc hn)]
 constructor
 · exact fun h a b hab h1 h2 => h a ((bitsL_mem hc hn).2 h1) b ((bitsL_mem hc hn).2 h2) hab
 exact fun h a h1 b h2 hab => h a b hab ((bitsL_mem hc hn).1 h1) ((bitsL_mem hc hn).1 h2)
theorem accB_iff {hs : List Sn} (h8 : hs.length ≤ 8) {s : Nat} : accB hs s = true ↔ Acc hs s := by
 unfold accB
 rw [Option.isNone_iff_eq_none, clR_none (c := hs.length) (by omega) (rest_lt _ _)]
 unfold Acc
 constructor
 · intro h a b hab hb h1 h2
   exact h a b hab (by rw [rest_test, h1, decide_eq_true (by omega)]; rfl) (by rw [rest_test, h2, decide_eq_true hb]; rfl)
 intro h a b hab h1 h2
 rw [rest_test, Bool.and_eq_true] at h1 h2
 exact h a b hab (of_decide_eq_true h2.1) (by simpa using h1.2) (by simpa using h2.2)
abbrev leastH (hs : List Sn) : Nat := (fewH hs (2 ^ hs.length)).1
theorem fewH_spec (hs : List Sn) : ∀ s, (∀ x, x < s → accB hs x = true → (fewH hs s).1 ≤ onesN x) ∧ ((fewH hs s).2 = (List.range s).filter fun x => accB hs x && onesN x == (fewH hs s).1) ∧ ((fewH hs s).1 = hs.length ∨ (fewH hs s).2 ≠ [])
 | 0 => ⟨fun x h => absurd h (Nat.not_lt_zero x), rfl, .inl rfl⟩
 | s + 1 => by
  obtain ⟨h1, h2, h3⟩ := fewH_spec hs s
  simp only [fewH]
  split
  · rename_i h
    refine ⟨fun x hx ha => ?_, ?_, h3⟩
    · rcases Nat.lt_succ_iff_lt_or_eq.1 hx with hx | rfl
      · exact h1 x hx ha
      simp [ha] at h; omega
    rw [List.range_succ, List.filter_append, ← h2]
    have : (accB hs s && onesN s == (fewH hs s).1) = false := by
     cases ha : accB hs s with
     | false => rfl
     | true => simp [ha] at h; simp; omega
    simp [this]
  rename_i h
  have ha : accB hs s = true := by cases ha : accB hs s <;> simp [ha] at h ⊢
  have hle : onesN s ≤ (fewH hs s).1 := by simp [ha] at h; exact h
  split
  · rename_i hlt
    refine ⟨fun x hx hax => ?_, ?_, .inr (by simp)⟩
    · rcases Nat.lt_succ_iff_lt_or_eq.1 hx with hx | rfl
      · have := h1 x hx hax; show onesN s ≤ _; omega
      exact Nat.le_refl _
    show [s] = _
    rw [List.range_succ, List.filter_append, List.filter_eq_nil_iff.2]
    · simp [ha]
    intro x hx
    have hx := List.mem_range.1 hx
    intro hc
    rw [Bool.and_eq_true] at hc
    have := h1 x hx hc.1
    have := eq_of_beq hc.2
    omega
  rename_i hlt
  have he : onesN s = (fewH hs s).1 := by omega
  refine ⟨fun x hx hax => ?_, ?_, .inr (by simp)⟩
  · rcases Nat.lt_succ_iff_lt_or_eq.1 hx with hx | rfl
    · exact h1 x hx hax
    show (fewH hs x).1 ≤ _; omega
  show (fewH hs s).2 ++ [s] = _
  rw [List.range_succ, List.filter_append, ← h2]
  simp [ha, he]
theorem ones_full : ∀ n, n ≤ 8 → onesN (2 ^ n - 1) = n := by decide
theorem ones_but0 : ∀ n, n ≤ 8 → onesN (2 ^ n - 1 - 1) = n - 1 := by decide
theorem bits_ones {x : Nat} (h : x < 256) : (bitsL x).length = onesN x := by rw [bitsL_below (c := 8) (by omega) h]; rfl
theorem mem_sets {hs : List Sn} (h8 : hs.length ≤ 8) {x : Nat} : x ∈ setsH hs ↔ x < 2 ^ hs.length ∧ Acc hs x ∧ onesN x = leastH hs := by
 unfold setsH
 rw [(fewH_spec hs _).2.1, List.mem_filter, List.mem_range, Bool.and_eq_true, accB_iff h8, beq_iff_eq]
theorem least_le {hs : List Sn} (h8 : hs.length ≤ 8) {x : Nat} (hx : x < 2 ^ hs.length) (ha : Acc hs x) : leastH hs ≤ onesN x := (fewH_spec hs _).1 x hx ((accB_iff h8).2 ha)
theorem least_lt {hs : List Sn} (h1 : 1 ≤ hs.length) (h8 : hs.length ≤ 8) : leastH hs < hs.length := by
 have hp := Nat.two_pow_pos hs.length
 have h := least_le h8 (x := 2 ^ hs.length - 1 - 1) (by omega) (fun a b hab hb _ h2 => by
  rw [Nat.sub_sub, show 1 + 1 = 1 + 1 from rfl] at h2
  exfalso
  have h3 : (2 ^ hs.length - (1 + 1)).testBit b = (decide (b < hs.length) && !(Nat.testBit 1 b)) := Nat.testBit_two_pow_sub_succ (by have := Nat.pow_le_pow_right (n := 2) (by omega) h1; omega) b
  rw [h3, decide_eq_true hb] at h2
  have : Nat.testBit 1 b = false := by
   rw [show (1 : Nat) = 2 ^ 0 from rfl, Nat.testBit_two_pow]; simp; omega
  rw [this] at h2; cases h2)
 rw [ones_but0 _ h8] at h
 omega
theorem sets_ne {hs : List Sn} (h8 : hs.length ≤ 8) : setsH hs ≠ [] := by
 rcases (fewH_spec hs (2 ^ hs.length)).2.2 with h | h
 · refine List.ne_nil_of_mem (a := 2 ^ hs.length - 1) ((mem_sets h8).2 ⟨by have := Nat.two_pow_pos hs.length; omega, fun a b hab hb h1 _ => ?_, by rw [ones_full _ h8]; exact h.symm⟩)
   rw [Nat.testBit_two_pow_sub_one, decide_eq_true (by omega)] at h1; cases h1
 exact h
theorem forN_mem {hs : List Sn} (h8 : hs.length ≤ 8) : forN hs ∈ setsH hs := minU_mem (List.length_pos_iff.2 (sets_ne h8)) _ (Nat.le_refl _)
theorem p256 {n : Nat} (h : n ≤ 8) : 2 ^ n ≤ 256 := Nat.pow_le_pow_right (n := 2) (by omega) h
theorem forV_len {hs : List Sn} (hV : ValidH hs) : (forV hs).1.length = leastH hs ∧ (forV hs).2 = 0 := by
 have h8 := hV.n8
 unfold forV
 rw [if_pos (chH_valid.2 hV)]
 obtain ⟨h1, h2, h3⟩ := (mem_sets h8).1 (forN_mem h8)
 refine ⟨?_, rfl⟩
 show (natsV (bitsL (forN hs))).length = _
 rw [List.length_map, bits_ones (by have := p256 h8; omega), h3]
end Go.Ab.MkF
namespace Go.Ab.MkF
open Go Go.Ab Go.Ab.Pln
def okJ (hs : List Sn) (L : List Int) (j : Nat) : Bool := (List.range L.length).all fun a => !(L.getD a 0 == (j : Int)) || pairH hs a L.length
def allC (hs : List Sn) : Nat → Nat → List Int → List (Nat × List Int)
 | 0, t, L => [(t, L)]
 | k + 1, t, L => (List.range (t + 1)).flatMap fun j => if okJ hs L j then allC hs k (max t (j + 1)) (L ++ [(j : Int)]) else []
def updS (s : Int × List Int) (q : Nat × List Int) : Int × List Int := if (q.1 : Int) ≥ s.1 then s else ((q.1 : Int), q.2)
theorem allC_ge (hs : List Sn) : ∀ k t L, ∀ q ∈ allC hs k t L, t ≤ q.1
 | 0, t, L, q, h => by
  simp only [allC, List.mem_singleton] at h; subst h; exact Nat.le_refl _
 | k + 1, t, L, q, h => by
  simp only [allC, List.mem_flatMap] at h
  obtain ⟨j, _, h⟩ := h
  split at h
  · have := allC_ge hs k _ _ q h; omega
  cases h
theorem foldS_stop {l : List (Nat × List Int)} {s : Int × List Int} (h : ∀ q ∈ l, (q.1 : Int) ≥ s.1) : l.foldl updS s = s := by
 induction l with
 | nil => rfl
 | cons a r ih =>
  rw [List.foldl_cons]
  unfold updS
  rw [if_pos (h a List.mem_cons_self)]
  exact ih fun q hq => h q (List.mem_cons_of_mem _ hq)
structure Lk (hs : List Sn) (T : List Nat) (L : List Int) : Prop where
 ok : SrcOk L.length T
 val : ∀ a, a < L.length → ∃ j : Nat, j < T.length ∧ L.getD a 0 = (j : Int)
 bit : ∀ j, j < T.length → ∀ a, (T.getD j 0).testBit a = true ↔ a < L.length ∧ L.getD a 0 = (j : Int)
 can : ∀ a b, a < b → b < L.length → L.getD a 0 = L.getD b 0 → pairH hs a b = true
theorem Lk.nil (hs : List Sn) : Lk hs [] [] := ⟨⟨Nat.le_refl _, fun x h => absurd h (by simp)⟩, fun a h => absurd h (Nat.not_lt_zero _), fun j h => absurd h (Nat.not_lt_zero _), fun a b _ h => absurd h (Nat.not_lt_zero _)⟩
theorem getD_app_lt {α : Type} {l : List α} {x d : α} {i : Nat} (h : i < l.length) : (l ++ [x]).getD i d = l.getD i d := by
 rw [getD_at (by simp; omega), getD_at h, List.getElem_append_left h]
theorem getD_app_at {α : Type} {l : List α} {x d : α} : (l ++ [x]).getD l.length d = x := by
 rw [getD_at (by simp)]; simp
theorem getD_app {α : Type} {l : List α} {x d : α} {i : Nat} (h : i < l.length + 1) : (i < l.length ∧ (l ++ [x]).getD i d = l.getD i d) ∨ i = l.length ∧ (l ++ [x]).getD i d = x := by
 rcases Nat.lt_or_eq_of_le (Nat.le_of_lt_succ h) with h | rfl
 · exact .inl ⟨h, getD_app_lt h⟩
 exact .inr ⟨rfl, getD_app_at⟩
theorem Lk.joinBit {hs : List Sn} {T : List Nat} {L : List Int} (h : Lk hs T L) {j : Nat} (hj : j ≤ T.length) (a : Nat) : ((sjoin T j (2 ^ L.length)).getD j 0).testBit a = true ↔ (a < L.length ∧ L.getD a 0 = (j : Int)) ∨ a = L.length := by
 rcases Nat.lt_or_eq_of_le hj with hlt | rfl
 · rw [sjoin_lt hlt, getD_at (by simpa using hlt), List.getElem_set_self, Nat.testBit_or, Nat.testBit_two_pow, Bool.or_eq_true, ← getD_at (d := 0) hlt, h.bit j hlt a, decide_eq_true_eq]
   exact ⟨fun h => h.imp id Eq.symm, fun h => h.imp id Eq.symm⟩
 rw [sjoin_ge, getD_app_at, Nat.testBit_two_pow, decide_eq_true_eq]
 constructor
 · exact fun h => .inr h.symm
 rintro (⟨h1, h2⟩ | h1)
 · obtain ⟨q, hq, h3⟩ := h.val a h1
   omega
 exact h1.symm
theorem Lk.okJ {hs : List Sn} {L : List Int} {j : Nat} : okJ hs L j = true ↔ ∀ a, a < L.length → L.getD a 0 = (j : Int) → pairH hs a L.length = true := by
 unfold Go.Ab.MkF.okJ
 rw [List.all_eq_true]
 constructor
 · intro h a ha he
   have := h a (List.mem_range.2 ha)
   rw [he] at this
   simpa using this
 intro h a ha
 have ha := List.mem_range.1 ha
 by_cases he : L.getD a 0 = (j : Int)
 · rw [h a ha he]; simp
 rw [show (L.getD a 0 == (j : Int)) = false from by simpa using he]; rfl
theorem Lk.join {hs : List Sn} {T : List Nat} {L : List Int} (h : Lk hs T L) {j : Nat} (hj : j ≤ T.length) (ho : Go.Ab.MkF.okJ hs L j = true) : Lk hs (sjoin T j (2 ^ L.length)) (L ++ [(j : Int)]) := by
 have hlen : (L ++ [(j : Int)]).length = L.length + 1 := by simp
 have hT : (sjoin T j (2 ^ L.length)).length = max T.length (j + 1) := by
  rcases Nat.lt_or_eq_of_le hj with hlt | rfl
  · rw [sjoin_lt hlt, List.length_set]; omega
  rw [sjoin_ge, List.length_append]; simp
 refine ⟨by rw [hlen]; exact h.ok.join hj, fun a ha => ?_, fun q hq a => ?_, fun a b hab hb he => ?_⟩
 · rw [hT]
   rw [hlen] at ha
   rcases getD_app (x := (j : Int)) (d := 0) ha with ⟨h1, h2⟩ | ⟨_, h2⟩
   · obtain ⟨q, hq, h3⟩ := h.val a h1
     exact ⟨q, by omega, by rw [h2, h3]⟩
   exact ⟨j, by omega, h2⟩
 · rw [hlen]
   by_cases hjq : q = j
   · subst hjq
     rw [h.joinBit hj a]
     constructor
     · rintro (⟨h1, h2⟩ | rfl)
       · exact ⟨by omega, by rw [getD_app_lt h1]; exact h2⟩
       exact ⟨by omega, getD_app_at⟩
     rintro ⟨h1, h2⟩
     rcases getD_app (x := (q : Int)) (d := 0) h1 with ⟨h3, h4⟩ | ⟨h3, _⟩
     · exact .inl ⟨h3, by rw [← h4]; exact h2⟩
     exact .inr h3
   rw [hT] at hq
   have hql : q < T.length := by omega
   have hg : (sjoin T j (2 ^ L.length)).getD q 0 = T.getD q 0 := by
    rcases Nat.lt_or_eq_of_le hj with hlt | rfl
    · rw [sjoin_lt hlt, getD_at (by simpa using hql), List.getElem_set_ne (Ne.symm hjq), getD_at hql]
    rw [sjoin_ge, getD_app_lt hql]
   rw [hg, h.bit q hql a]
   constructor
   · rintro ⟨h1, h2⟩
     exact ⟨by omega, by rw [getD_app_lt h1]; exact h2⟩
   rintro ⟨h1, h2⟩
   rcases getD_app (x := (j : Int)) (d := 0) h1 with ⟨h3, h4⟩ | ⟨_, h4⟩
   · exact ⟨h3, by rw [← h4]; exact h2⟩
   rw [h4] at h2; omega
 rw [hlen] at hb
 rw [getD_app_lt (by omega)] at he
 rcases getD_app (x := (j : Int)) (d := 0) hb with ⟨h3, h4⟩ | ⟨h3, h4⟩
 · exact h.can a b hab h3 (by rw [← h4]; exact he)
 subst h3
 exact Lk.okJ.1 ho a hab (by rw [he, h4])
theorem Lk.clash {hs : List Sn} {T : List Nat} {L : List Int} (h : Lk hs T L) {j : Nat} (hj : j ≤ T.length) (h8 : L.length < 8) : (clR hs ((sjoin T j (2 ^ L.length)).getD j 0)).isNone = Go.Ab.MkF.okJ hs L j := by
 have hb := h.joinBit hj
 generalize hX : (sjoin T j (2 ^ L.length)).getD j 0 = X at hb
 have hlt : X < 2 ^ (L.length + 1) := by
  have hok := h.ok.join hj
  have hm : X ∈ sjoin T j (2 ^ L.length) := by
   rw [← hX, getD_at (by
    rcases Nat.lt_or_eq_of_le hj with hlt | rfl
    · rw [sjoin_lt hlt, List.length_set]; exact hlt
    rw [sjoin_ge, List.length_append]; simp)]
   exact List.getElem_mem _
  exact (hok.x X hm).2
 rw [Bool.eq_iff_iff, Option.isNone_iff_eq_none, clR_none (c := L.length + 1) (by omega) hlt, Lk.okJ]
 constructor
 · exact fun hc a ha he => hc a L.length ha ((hb a).2 (.inl ⟨ha, he⟩)) ((hb _).2 (.inr rfl))
 intro hc a b hab h1 h2
 rcases (hb a).1 h1 with ⟨h3, h4⟩ | rfl
 · rcases (hb b).1 h2 with ⟨h5, h6⟩ | rfl
   · exact h.can a b hab h5 (by rw [h4, h6])
   exact hc a h3 h4
 rcases (hb b).1 h2 with ⟨h5, h6⟩ | rfl <;> omega
theorem Lk.joinLen {T : List Nat} {j b : Nat} (hj : j ≤ T.length) : (sjoin T j b).length = max T.length (j + 1) := by
 rcases Nat.lt_or_eq_of_le hj with hlt | rfl
 · rw [sjoin_lt hlt, List.length_set]; omega
 rw [sjoin_ge, List.length_append]; simp
theorem foldl_flat {α β γ : Type} (f : α → β → α) (g : γ → List β) : ∀ (l : List γ) (s : α), (l.flatMap g).foldl f s = l.foldl (fun s x => (g x).foldl f s) s
 | [], _ => rfl
 | a :: l, s => by rw [List.flatMap_cons, List.foldl_append, List.foldl_cons, foldl_flat f g l]
theorem foldl_same {α β : Type} {f g : α → β → α} : ∀ {l : List β} {s : α}, (∀ x ∈ l, ∀ s, f s x = g s x) → l.foldl f s = l.foldl g s
 | [], _, _ => rfl
 | a :: l, s, h => by
  rw [List.foldl_cons, List.foldl_cons, h a List.mem_cons_self]
  exact foldl_same fun x hx => h x (List.mem_cons_of_mem _ hx)
theorem srcF_all {hs : List Sn} (h8 : hs.length ≤ 8) : ∀ (k : Nat) (T : List Nat) (L : List Int) (s : Int × List Int), L.length + k = hs.length → Lk hs T L → srcF hs k T L s = (allC hs k T.length L).foldl updS s
 | 0, T, L, s, hk, h => by
  unfold srcF allC
  rfl
 | k + 1, T, L, s, hk, h => by
  by_cases hs1 : (T.length : Int) ≥ s.1
  · rw [srcF_stop hs1, foldS_stop]
    intro q hq
    have := allC_ge hs (k + 1) _ _ q hq
    omega
  rw [srcF_go hs1]
  unfold foldF
  rw [show hs.length - (k + 1) = L.length by omega]
  unfold allC
  rw [foldl_flat]
  refine foldl_same fun j hj s' => ?_
  have hj := List.mem_range.1 hj
  have hjl : j ≤ T.length := by omega
  unfold stepF
  rw [h.clash hjl (by omega)]
  cases ho : Go.Ab.MkF.okJ hs L j with
  | false => rfl
  | true =>
   rw [if_pos rfl, if_pos rfl, srcF_all h8 k _ _ s' (by simp; omega) (h.join hjl ho), Lk.joinLen hjl]
abbrev cols (hs : List Sn) : List (Nat × List Int) := allC hs hs.length 0 []
theorem srcS_eq {hs : List Sn} (h8 : hs.length ≤ 8) : srcS hs = (cols hs).foldl updS (((hs.length + 1 : Nat) : Int), []) := srcF_all h8 _ _ _ _ (by simp) (Lk.nil hs)
structure Col (hs : List Sn) (m : Nat) (f : Nat → Nat) : Prop where
 lt : ∀ a, a < hs.length → f a < m
 can : ∀ a b, a < b → b < hs.length → f a = f b → pairH hs a b = true
theorem allC_len (hs : List Sn) : ∀ k t L, ∀ q ∈ allC hs k t L, q.2.length = L.length + k
 | 0, t, L, q, h => by simp only [allC, List.mem_singleton] at h; subst h; rfl
 | k + 1, t, L, q, h => by
  simp only [allC, List.mem_flatMap] at h
  obtain ⟨j, _, h⟩ := h
  split at h
  · have := allC_len hs k _ _ q h; rw [this, List.length_append]; simp; omega
  cases h
theorem allC_col (hs : List Sn) : ∀ k t L, (∀ a, a < L.length → ∃ j : Nat, j < t ∧ L.getD a 0 = (j : Int)) → (∀ a b, a < b → b < L.length → L.getD a 0 = L.getD b 0 → pairH hs a b = true) →
  ∀ q ∈ allC hs k t L, (∀ a, a < q.2.length → ∃ j : Nat, j < q.1 ∧ q.2.getD a 0 = (j : Int)) ∧ ∀ a b, a < b → b < q.2.length → q.2.getD a 0 = q.2.getD b 0 → pairH hs a b = true
 | 0, t, L, h1, h2, q, h => by simp only [allC, List.mem_singleton] at h; subst h; exact ⟨h1, h2⟩
 | k + 1, t, L, h1, h2, q, h => by
  simp only [allC, List.mem_flatMap] at h
  obtain ⟨j, hj, h⟩ := h
  have hj := List.mem_range.1 hj
  split at h
  · rename_i ho
    refine allC_col hs k _ _ (fun a ha => ?_) (fun a b hab hb he => ?_) q h
    · rw [List.length_append] at ha
      rcases getD_app (x := (j : Int)) (d := 0) ha with ⟨h3, h4⟩ | ⟨h3, h4⟩
      · obtain ⟨i, hi, h5⟩ := h1 a h3
        exact ⟨i, by omega, by rw [h4, h5]⟩
      exact ⟨j, by omega, h4⟩
    rw [List.length_append] at hb
    have hb : b < L.length + 1 := hb
    rw [getD_app_lt (by omega)] at he
    rcases getD_app (x := (j : Int)) (d := 0) hb with ⟨h3, h4⟩ | ⟨h3, h4⟩
    · exact h2 a b hab h3 (by rw [he, h4])
    subst h3
    exact Lk.okJ.1 ho a hab (by rw [he, h4])
  cases h
theorem allC_least {hs : List Sn} {m : Nat} {f : Nat → Nat} (hf : Col hs m f) : ∀ k t L (g : Nat → Nat), L.length + k = hs.length → (∀ j, j < t → g j < m) → (∀ i j, i < j → j < t → g i ≠ g j) →
  (∀ a, a < L.length → ∃ j : Nat, j < t ∧ L.getD a 0 = (j : Int) ∧ g j = f a) → ∃ q ∈ allC hs k t L, q.1 ≤ m
 | 0, t, L, g, hk, h1, h2, h3 => by
  refine ⟨(t, L), by simp [allC], ?_⟩
  have hn : ((List.range t).map g).Nodup := List.pairwise_map.2 (List.Pairwise.imp_of_mem (fun ha hb hab => h2 _ _ hab (List.mem_range.1 hb)) List.pairwise_lt_range)
  have := List.Nodup.length_le_of_subset (l₂ := List.range m) hn fun x hx => by
   obtain ⟨a, ha, rfl⟩ := List.mem_map.1 hx
   exact List.mem_range.2 (h1 a (List.mem_range.1 ha))
  simpa using this
 | k + 1, t, L, g, hk, h1, h2, h3 => by
  have hiL : L.length < hs.length := by omega
  have key : ∀ (j : Nat) (g' : Nat → Nat), j ≤ t → (∀ i, i < max t (j + 1) → g' i < m) → (∀ i i', i < i' → i' < max t (j + 1) → g' i ≠ g' i') → (∀ i, i < t → g' i = g i) → g' j = f L.length →
    ∃ q ∈ allC hs (k + 1) t L, q.1 ≤ m := by
   intro j g' hj h4 h5 h6 h7
   have ho : okJ hs L j = true := Lk.okJ.2 fun a ha he => by
    obtain ⟨i, hi, h8, h9⟩ := h3 a ha
    have : i = j := by omega
    subst this
    exact hf.can a L.length ha hiL (by rw [← h9, ← h6 i hi, h7])
   obtain ⟨q, hq, hqm⟩ := allC_least hf k (max t (j + 1)) (L ++ [(j : Int)]) g' (by simp; omega) h4 h5 fun a ha => by
    rw [List.length_append] at ha
    rcases getD_app (x := (j : Int)) (d := 0) ha with ⟨h8, h9⟩ | ⟨h8, h9⟩
    · obtain ⟨i, hi, h10, h11⟩ := h3 a h8
      exact ⟨i, by omega, by rw [h9, h10], by rw [h6 i hi, h11]⟩
    subst h8
    exact ⟨j, by omega, h9, h7⟩
   refine ⟨q, ?_, hqm⟩
   simp only [allC, List.mem_flatMap]
   exact ⟨j, List.mem_range.2 (by omega), by rw [if_pos ho]; exact hq⟩
  by_cases he : ∃ j, j < t ∧ g j = f L.length
  · obtain ⟨j, hj, hg⟩ := he
    exact key j g (by omega) (by rw [show max t (j + 1) = t by omega]; exact h1) (by rw [show max t (j + 1) = t by omega]; exact h2) (fun _ _ => rfl) hg
  refine key t (fun i => if i < t then g i else f L.length) (Nat.le_refl _) ?_ ?_ ?_ ?_
  · intro i hi
    show (if i < t then g i else f L.length) < m
    split
    · exact h1 i (by assumption)
    exact hf.lt _ hiL
  · intro i i' hii hi'
    show (if i < t then g i else f L.length) ≠ (if i' < t then g i' else f L.length)
    rw [if_pos (by omega)]
    split
    · exact h2 i i' hii (by assumption)
    exact fun e => he ⟨i, by omega, e⟩
  · exact fun i hi => if_pos hi
  exact if_neg (Nat.lt_irrefl _)
theorem cols_least {hs : List Sn} {m : Nat} {f : Nat → Nat} (hf : Col hs m f) : ∃ q ∈ cols hs, q.1 ≤ m := allC_least hf _ _ _ id (by simp) (fun _ h => absurd h (Nat.not_lt_zero _)) (fun _ _ _ h => absurd h (Nat.not_lt_zero _)) (fun _ h => absurd h (Nat.not_lt_zero _))
theorem cols_col {hs : List Sn} {q : Nat × List Int} (hq : q ∈ cols hs) : q.2.length = hs.length ∧ Col hs q.1 fun a => (q.2.getD a 0).toNat := by
 have hl := allC_len hs _ _ _ q hq
 have hl : q.2.length = hs.length := by rw [hl]; simp
 obtain ⟨h1, h2⟩ := allC_col hs _ 0 [] (fun _ h => absurd h (Nat.not_lt_zero _)) (fun _ _ _ h => absurd h (Nat.not_lt_zero _)) q hq
 refine ⟨hl, fun a ha => ?_, fun a b hab hb he => ?_⟩
 · obtain ⟨j, hj, h3⟩ := h1 a (by omega)
   show (q.2.getD a 0).toNat < _
   rw [h3]; exact hj
 obtain ⟨j, _, h3⟩ := h1 a (by omega)
 obtain ⟨i, _, h4⟩ := h1 b (by omega)
 have he : (q.2.getD a 0).toNat = (q.2.getD b 0).toNat := he
 rw [h3, h4] at he
 exact h2 a b hab (by omega) (by rw [h3, h4]; have : j = i := he; omega)
theorem col_own (hs : List Sn) : Col hs hs.length id := ⟨fun _ h => h, fun a b hab _ he => by have : a = b := he; omega⟩
theorem foldS_spec : ∀ (l : List (Nat × List Int)) (s : Int × List Int), (l.foldl updS s = s ∨ ∃ q ∈ l, l.foldl updS s = ((q.1 : Int), q.2)) ∧ (l.foldl updS s).1 ≤ s.1 ∧ ∀ q ∈ l, (l.foldl updS s).1 ≤ q.1
 | [], s => ⟨.inl rfl, Int.le_refl _, fun q h => absurd h (by simp)⟩
 | a :: l, s => by
  obtain ⟨h1, h2, h3⟩ := foldS_spec l (updS s a)
  rw [List.foldl_cons]
  have hu : (updS s a).1 ≤ s.1 ∧ (updS s a).1 ≤ a.1 ∧ (updS s a = s ∨ updS s a = ((a.1 : Int), a.2)) := by
   unfold updS
   split
   · exact ⟨Int.le_refl _, by omega, .inl rfl⟩
   exact ⟨by show (a.1 : Int) ≤ _; omega, Int.le_refl _, .inr rfl⟩
  refine ⟨?_, by omega, fun q hq => ?_⟩
  · rcases h1 with h1 | ⟨q, hq, h1⟩
    · rw [h1]
      rcases hu.2.2 with h | h
      · exact .inl h
      exact .inr ⟨a, List.mem_cons_self, h⟩
    exact .inr ⟨q, List.mem_cons_of_mem _ hq, h1⟩
  rcases List.mem_cons.1 hq with rfl | hq
  · omega
  exact h3 q hq
theorem srcS_spec {hs : List Sn} (h8 : hs.length ≤ 8) : (∃ q ∈ cols hs, srcS hs = ((q.1 : Int), q.2)) ∧ ∀ m f, Col hs m f → (srcS hs).1 ≤ m := by
 rw [srcS_eq h8]
 obtain ⟨h1, h2, h3⟩ := foldS_spec (cols hs) (((hs.length + 1 : Nat) : Int), [])
 have hle : ∀ m f, Col hs m f → ((cols hs).foldl updS (((hs.length + 1 : Nat) : Int), [])).1 ≤ m := fun m f hf => by
  obtain ⟨q, hq, hm⟩ := cols_least hf
  have := h3 q hq
  omega
 refine ⟨?_, hle⟩
 rcases h1 with h1 | h1
 · have := hle _ _ (col_own hs)
   rw [h1] at this
   have this : ((hs.length + 1 : Nat) : Int) ≤ hs.length := this
   omega
 exact h1
theorem srcS_col {hs : List Sn} (h8 : hs.length ≤ 8) : ∃ m : Nat, (srcS hs).1 = m ∧ (srcS hs).2.length = hs.length ∧ ∃ f, Col hs m f := by
 obtain ⟨⟨q, hq, he⟩, _⟩ := srcS_spec h8
 obtain ⟨h1, h2⟩ := cols_col hq
 exact ⟨q.1, by rw [he], by rw [he]; exact h1, _, h2⟩
theorem srcV_ok {hs : List Sn} (hV : ValidH hs) : srcV hs = ((srcS hs).2, (srcS hs).1, 0) := by unfold srcV; rw [if_pos (chH_valid.2 hV)]
end Go.Ab.MkF
namespace Go.Ab.MkF
open Go Go.Ab Go.Ab.Pln
theorem bits_range {n c : Nat} (hc : c ≤ 64) (hn : n < 2 ^ c) {a : Nat} (h : a ∈ bitsL n) : a < c := by
 rw [bitsL_below hc hn] at h
 exact List.mem_range.1 (List.mem_filter.1 h).1
theorem has_bits {X c k : Nat} (hc : c ≤ 64) (hX : X < 2 ^ c) : ((natsV (bitsL X)).any fun x => x == (k : Int)) = X.testBit k := by
 rw [Bool.eq_iff_iff, ← bitsL_mem hc hX, List.any_eq_true]
 constructor
 · rintro ⟨x, hx, he⟩
   obtain ⟨a, ha, rfl⟩ := List.mem_map.1 hx
   have : a = k := by have := eq_of_beq he; omega
   exact this ▸ ha
 exact fun h => ⟨(k : Int), List.mem_map.2 ⟨k, h, rfl⟩, by simp⟩
abbrev mustH (hs : List Sn) : Nat := allU hs.length (setsH hs) (setsH hs).length
abbrev mayH (hs : List Sn) : Nat := someU (setsH hs) (setsH hs).length
def someL (b n : Nat) : List Nat := (List.range n).filter b.testBit
end Go.Ab.MkF
namespace Go.Ab.MkF
open Go Go.Ab Go.Ab.Pln
theorem src_int {hs : List Sn} (h8 : hs.length ≤ 8) : ∃ m : Nat, (srcS hs).1 = m ∧ ∃ f, Col hs m f := by
 obtain ⟨m, h1, _, h2⟩ := srcS_col h8
 exact ⟨m, h1, h2⟩
theorem pairX_iff {x y : Sn} : pairX x y = true ↔ (x.1 = y.1 ∨ x.1 * y.1 = 0) ∧ x.2.1 ≤ y.2.2 ∧ y.2.1 ≤ x.2.2 := by
 unfold pairX
 simp [and_assoc]
theorem pairX_comm (x y : Sn) : pairX x y = pairX y x := by
 rw [Bool.eq_iff_iff, pairX_iff, pairX_iff, Int.mul_comm]
 constructor <;> rintro ⟨h1, h2, h3⟩ <;> exact ⟨h1.imp Eq.symm id, h3, h2⟩
structure Blur (x y : Sn) : Prop where
 kind : y.1 = x.1 ∨ y.1 = 0
 lo : y.2.1 ≤ x.2.1
 hi : x.2.2 ≤ y.2.2
theorem Blur.pair {x y z : Sn} (h : Blur x y) (hp : pairX x z = true) : pairX y z = true := by
 rw [pairX_iff] at hp ⊢
 obtain ⟨h1, h2, h3⟩ := hp
 have := h.lo
 have := h.hi
 refine ⟨?_, by omega, by omega⟩
 rcases h.kind with e | e
 · rw [e]; exact h1
 rw [e]; simp
theorem blur_pair {hs : List Sn} {i : Nat} {y : Sn} (hi : i < hs.length) (h : Blur hs[i] y) {a b : Nat} (hab : a < b) (hb : b < hs.length) (hp : pairH hs a b = true) : pairH (hs.set i y) a b = true := by
 unfold pairH at hp ⊢
 rw [getD_at (by omega), getD_at hb] at hp
 rw [getD_at (by simp; omega), getD_at (by simpa using hb)]
 by_cases ha : i = a
 · subst ha
   rw [List.getElem_set_self, List.getElem_set_ne (by omega)]
   exact h.pair hp
 rw [List.getElem_set_ne ha]
 by_cases hc : i = b
 · subst hc
   rw [List.getElem_set_self, pairX_comm]
   rw [pairX_comm] at hp
   exact h.pair hp
 rw [List.getElem_set_ne hc]; exact hp
theorem blur_least {hs : List Sn} (h8 : hs.length ≤ 8) {i : Nat} {y : Sn} (hi : i < hs.length) (h : Blur hs[i] y) : leastH (hs.set i y) ≤ leastH hs := by
 obtain ⟨h1, h2, h3⟩ := (mem_sets h8).1 (forN_mem h8)
 rw [← h3]
 have hl : (hs.set i y).length = hs.length := List.length_set
 refine least_le (by omega) (by rw [hl]; exact h1) fun a b hab hb g1 g2 => ?_
 rw [hl] at hb
 exact blur_pair hi h hab hb (h2 a b hab hb g1 g2)
theorem blur_src {hs : List Sn} (h8 : hs.length ≤ 8) {i : Nat} {y : Sn} (hi : i < hs.length) (h : Blur hs[i] y) : (srcS (hs.set i y)).1 ≤ (srcS hs).1 := by
 obtain ⟨m, h1, f, h2⟩ := src_int h8
 rw [h1]
 have hl : (hs.set i y).length = hs.length := List.length_set
 exact (srcS_spec (by omega)).2 m f ⟨fun a ha => h2.lt a (by omega), fun a b hab hb he => blur_pair hi h hab (by omega) (h2.can a b hab (by omega) he)⟩
theorem snE_zero {x : Sn} (h1 : 0 ≤ x.1 ∧ x.1 ≤ 2) (h2 : 1 ≤ x.2.1) (h3 : x.2.1 ≤ x.2.2) (h4 : x.2.2 ≤ 600) : snE x = 0 := by
 unfold snE
 rw [if_neg, if_neg (by omega)]
 simp only [List.any_cons, List.any_nil, Bool.or_false, Bool.or_eq_true, outB, decide_eq_true_eq]
 omega
theorem validH_set {hs : List Sn} (hV : ValidH hs) {i : Nat} {y : Sn} (hy : snE y = 0) : ValidH (hs.set i y) := by
 refine ⟨by simpa using hV.n1, by simpa using hV.n8, fun j hj => ?_⟩
 rw [List.length_set] at hj
 unfold snF
 rw [getD_at (by simpa using hj), List.getElem_set]
 split
 · exact hy
 have := hV.seen j hj
 unfold snF at this
 rw [getD_at hj] at this
 exact this
def blurV (x : Sn) (a b : Int) : Sn := (if a > b then 0 else x.1, max 1 (x.2.1 - a), min 600 (x.2.2 + b))
theorem blurV_ok {hs : List Sn} (hV : ValidH hs) {i : Nat} (hi : i < hs.length) {a b : Int} (ha : 0 ≤ a) (hb : 0 ≤ b) : Blur hs[i] (blurV hs[i] a b) ∧ snE (blurV hs[i] a b) = 0 := by
 have h := hV.sn hi
 refine ⟨⟨?_, ?_, ?_⟩, snE_zero ?_ ?_ ?_ ?_⟩ <;> unfold blurV
 · by_cases hc : a > b
   · exact .inr (if_pos hc)
   exact .inl (if_neg hc)
 · show max 1 _ ≤ _; omega
 · show _ ≤ min 600 _; omega
 · show 0 ≤ (if a > b then 0 else hs[i].1) ∧ (if a > b then 0 else hs[i].1) ≤ 2
   split <;> omega
 · show 1 ≤ max 1 _; omega
 · show max 1 _ ≤ min 600 _; omega
 show min 600 _ ≤ 600; omega
theorem more_pair {hs : List Sn} {x : Sn} {a b : Nat} (ha : a < hs.length) (hb : b < hs.length) : pairH (hs ++ [x]) a b = pairH hs a b := by
 unfold pairH; rw [getD_app_lt ha, getD_app_lt hb]
theorem ones_low (n : Nat) (h : n ≤ 8) : ∀ x, x < 256 → onesN (x % 2 ^ n) ≤ onesN x := by
 have key : ∀ n, n ≤ 8 → ∀ x, x < 256 → onesN (x % 2 ^ n) ≤ onesN x := by decide +kernel
 exact key n h
theorem ones_top (n : Nat) (h : n < 8) : ∀ x, x < 2 ^ n → onesN (x + 2 ^ n) = onesN x + 1 := by
 have key : ∀ n, n < 8 → ∀ x, x < 2 ^ n → onesN (x + 2 ^ n) = onesN x + 1 := by decide +kernel
 exact key n h
theorem more_least {hs : List Sn} {x : Sn} (h8 : hs.length < 8) : leastH hs ≤ leastH (hs ++ [x]) ∧ leastH (hs ++ [x]) ≤ leastH hs + 1 := by
 have hl : (hs ++ [x]).length = hs.length + 1 := by simp
 constructor
 · obtain ⟨h1, h2, h3⟩ := (mem_sets (hs := hs ++ [x]) (by omega)).1 (forN_mem (hs := hs ++ [x]) (by omega))
   rw [← h3]
   have hp := p256 (n := (hs ++ [x]).length) (by omega)
   refine Nat.le_trans (least_le (x := forN (hs ++ [x]) % 2 ^ hs.length) (by omega) (Nat.mod_lt _ (Nat.two_pow_pos _)) fun a b hab hb g1 g2 => ?_) (ones_low _ (by omega) _ (by omega))
   rw [Nat.testBit_mod_two_pow, decide_eq_true (by omega), Bool.true_and] at g1 g2
   have := h2 a b hab (by omega) g1 g2
   rwa [more_pair (by omega) hb] at this
 obtain ⟨h1, h2, h3⟩ := (mem_sets (hs := hs) (by omega)).1 (forN_mem (hs := hs) (by omega))
 rw [← h3, ← ones_top hs.length h8 _ h1]
 have hpow : 2 ^ (hs.length + 1) = 2 ^ hs.length + 2 ^ hs.length := by rw [Nat.pow_succ]; omega
 refine least_le (by omega) (by rw [hl]; omega) fun a b hab hb g1 g2 => ?_
 have hbit : ∀ c, c < hs.length → (forN hs + 2 ^ hs.length).testBit c = (forN hs).testBit c := fun c hc => by
  rw [Nat.add_comm]; exact Nat.testBit_two_pow_add_gt hc _
 have htop : (forN hs + 2 ^ hs.length).testBit hs.length = true := by
  rw [Nat.add_comm, Nat.testBit_two_pow_add_eq, Nat.testBit_lt_two_pow h1]; rfl
 rw [hl] at hb
 rcases Nat.lt_or_eq_of_le (Nat.le_of_lt_succ hb) with h | h
 · rw [more_pair (by omega) h]
   rw [hbit a (by omega)] at g1
   rw [hbit b h] at g2
   exact h2 a b hab h g1 g2
 rw [h, htop] at g2; cases g2
theorem more_src {hs : List Sn} {x : Sn} (h8 : hs.length < 8) : (srcS hs).1 ≤ (srcS (hs ++ [x])).1 ∧ (srcS (hs ++ [x])).1 ≤ (srcS hs).1 + 1 := by
 have hl : (hs ++ [x]).length = hs.length + 1 := by simp
 constructor
 · obtain ⟨m, h1, f, h2⟩ := src_int (hs := hs ++ [x]) (by omega)
   rw [h1]
   refine (srcS_spec (by omega)).2 m f ⟨fun a ha => h2.lt a (by omega), fun a b hab hb he => ?_⟩
   have := h2.can a b hab (by omega) he
   rwa [more_pair (by omega) hb] at this
 obtain ⟨m, h1, f, h2⟩ := src_int (hs := hs) (by omega)
 rw [h1]
 have hc : Col (hs ++ [x]) (m + 1) fun a => if a < hs.length then f a else m := by
  refine ⟨fun a ha => ?_, fun a b hab hb he => ?_⟩
  · show (if a < hs.length then f a else m) < m + 1
    split
    · have := h2.lt a (by assumption); omega
    omega
  rw [hl] at hb
  have he : (if a < hs.length then f a else m) = if b < hs.length then f b else m := he
  rw [if_pos (by omega)] at he
  rcases Nat.lt_or_eq_of_le (Nat.le_of_lt_succ hb) with h | h
  · rw [if_pos h] at he
    rw [more_pair (by omega) h]
    exact h2.can a b hab h he
  rw [if_neg (by omega)] at he
  have := h2.lt a (by omega)
  omega
 have := (srcS_spec (hs := hs ++ [x]) (by omega)).2 _ _ hc
 omega
end Go.Ab.MkF
namespace Go.Ab.MkF
open Go Go.Ab Go.Ab.Pln Go.Proofs
set_option maxHeartbeats 1000000
set_option maxRecDepth 100000
noncomputable abbrev parH (gl : Gl) : Par S Unit := { par gl with hd := true }
theorem parH_ok (gl : Gl) (En : Env Unit) : ParOk PR gl (parH gl) En := { par_ok gl En with }
theorem join {p q : Prop} (h : Hold p → q) (hp : p) : q := h ⟨hp⟩
def inB (n a b : Int) : Bool := decide (a ≤ n) && decide (n ≤ b)
theorem inB_out (n a b : Int) : inB n a b = !outB a b n := by
 unfold inB outB
 rw [Bool.eq_iff_iff]
 simp [Int.not_lt]
def rgE (a b lo hi : Int) : Int := if (decide (min a b < lo) || decide (max a b > hi)) = true then 7 else if b < a then 2 else 0
theorem sn_eq (x : Sn) : snE x = if inB x.1 0 2 = true then rgE x.2.1 x.2.2 1 600 else 7 := by
 unfold snE rgE
 rw [inB_out]
 have h2 : [x.2.1, x.2.2].any (outB 1 600) = (decide (min x.2.1 x.2.2 < 1) || decide (max x.2.1 x.2.2 > 600)) := by
  rw [Bool.eq_iff_iff]
  simp [outB]
  omega
 have h1 : [x.1].any (outB 0 2) = outB 0 2 x.1 := by simp
 rw [h1, h2]
 cases outB 0 2 x.1 <;> simp
theorem c72 (gl : Gl) (n a b : Int) : PCalls PR gl 72 [vI n, vI a, vI b] fun r => r = vB (inB n a b) := by
 refine fnW_sound (par_ok gl) Tryd.func72 ?_
 conv => whnf
 refine bcase_iff.2 ⟨fun g1_3 => ?_, fun g1_3 => ?_⟩
 · have g : decide (a ≤ n) = true := g1_3
   conv => whnf
   unfold inB
   rw [g]
   rfl
 have g : decide (a ≤ n) = false := g1_3
 conv => whnf
 unfold inB
 rw [g]
 rfl
theorem op72 : Opens PR 72 := ⟨_, Tryd.func72, rfl, rfl⟩
theorem c101 (gl : Gl) (a b lo hi : Int) : PCalls PR gl 101 [.agg [vI a, vI b], vI lo, vI hi] fun r => r = vI (rgE a b lo hi) := by
 refine fnW_sound (par_ok gl) Tryd.func101 ?_
 conv => whnf
 refine bcase_iff.2 ⟨fun g1_7 => ?_, fun g1_7 => ?_⟩
 · rw [← min_lt] at g1_7
   have g : decide (min a b < lo) = true := g1_7
   conv => whnf
   unfold rgE
   rw [g, if_pos (by rfl)]
 rw [← min_lt] at g1_7
 have g : decide (min a b < lo) = false := g1_7
 conv => whnf
 refine bcase_iff.2 ⟨fun h1 => ?_, fun h1 => ?_⟩
 · rw [← max_gt] at h1
   have h1 : decide (max a b > hi) = true := h1
   conv => whnf
   unfold rgE
   rw [g, h1, if_pos (by rfl)]
 rw [← max_gt] at h1
 have h1 : decide (max a b > hi) = false := h1
 conv => whnf
 refine bcase_iff.2 ⟨fun h3 => ?_, fun h3 => ?_⟩
 · have h3 : b < a := of_decide_eq_true h3
   conv => whnf
   unfold rgE
   rw [g, h1, if_neg (by simp), if_pos h3]
 have h3 : ¬ b < a := of_decide_eq_false h3
 conv => whnf
 unfold rgE
 rw [g, h1, if_neg (by simp), if_neg h3]
theorem op101 : Opens PR 101 := ⟨_, Tryd.func101, rfl, rfl⟩
theorem c32 (gl : Gl) (hs : List Sn) (hl : hs.length ≤ 9223372036854775807) : PCalls PR gl 32 [.agg [snsV hs]] fun r => r = .tup [vI (chH hs).1, vI (chH hs).2] := by
 refine fnW_sound (par_ok gl) Tryd.func32 ?_
 conv => whnf
 refine byC (c72 gl _ _ _) op72 ?_
 conv => whnf
 refine bcase_iff.2 ⟨fun h1 => ?_, fun h1 => ?_⟩
 · have h1 : [(hs.length : Int)].any (outB 1 8) = true := by have h1 : (!inB (hs.length : Int) 1 8) = true := h1; rw [inB_out] at h1; simpa using h1
   conv => whnf
   unfold chH
   rw [if_pos h1]
 have h1 : [(hs.length : Int)].any (outB 1 8) = false := by have h1 : (!inB (hs.length : Int) 1 8) = false := h1; rw [inB_out] at h1; simpa using h1
 conv => whnf
 refine ⟨⟨18, [], []⟩, ?_⟩
 refine LoopW_ind _ (fun i : Nat => (({ tmps := [.undef, .own 1 [], .undef, .undef, vI i, .undef, .undef, .undef, .undef, .undef, .undef, .undef, .undef, .undef, .undef, .undef, .undef, .undef, .undef, .undef, .undef, .undef, .undef, .undef, .undef, .undef, .undef, .undef, .undef, .undef, .undef, .undef, .undef, .undef, .undef], seg := [(1, .cells [snsV hs])], up := [] } : St S))) (fun i : Nat => (i ≤ hs.length ∧ ∀ j, j < i → snF hs j = 0)) (fun i : Nat => (hs.length - i)) () ?_ 0 ⟨Nat.zero_le _, fun j h => absurd h (Nat.not_lt_zero j)⟩
 intro i hinv Z1 hZ1
 obtain ⟨hi, hd⟩ := hinv
 conv => whnf
 refine bcase_iff.2 ⟨fun h4 => ?_, fun h4 => ?_⟩
 · have hlt : i < hs.length := by have := of_decide_eq_true h4; omega
   have hw : IntKind.i64.wrap ((i : Int) + 1) = ((i + 1 : Nat) : Int) := wrap_nat (by omega)
   conv => whnf
   have hsn : snF hs i = if inB hs[i].1 0 2 = true then rgE hs[i].2.1 hs[i].2.2 1 600 else 7 := by unfold snF; rw [getD_at hlt, sn_eq]
   refine ⟨_, getI_nat hlt, ?_⟩
   conv => whnf
   refine byC (c101 gl _ _ _ _) op101 ?_
   conv => whnf
   refine byC (c72 gl _ _ _) op72 ?_
   conv => whnf
   refine bcase_iff.2 ⟨fun h8 => ?_, fun h8 => ?_⟩
   · have h8 : inB hs[i].1 0 2 = false := by have h8 : (!inB hs[i].1 0 2) = true := h8; simpa using h8
     rw [h8, if_neg (by simp)] at hsn
     conv => whnf
     unfold chH
     rw [h1, if_neg (by simp), firstR_at hlt hd (by rw [hsn]; decide), hsn]
   have h8 : inB hs[i].1 0 2 = true := by have h8 : (!inB hs[i].1 0 2) = false := h8; simpa using h8
   rw [h8, if_pos rfl] at hsn
   conv => whnf
   refine bcase_iff.2 ⟨fun h10 => ?_, fun h10 => ?_⟩
   · have h10 : snF hs i ≠ 0 := by rw [hsn]; have h10 : (rgE hs[i].2.1 hs[i].2.2 1 600 != 0) = true := h10; simpa using h10
     conv => whnf
     unfold chH
     rw [h1, if_neg (by simp), firstR_at hlt hd h10, hsn]
   have h10 : snF hs i = 0 := by rw [hsn]; have h10 : (rgE hs[i].2.1 hs[i].2.2 1 600 != 0) = false := h10; simpa using h10
   conv => whnf
   refine ⟨⟨18, [5, 1005, 2005, 3005, 4005], []⟩, ?_⟩
   conv => whnf
   rw [hw]
   exact hZ1 (i + 1) ⟨hlt, up_succ hd h10⟩ (by omega)
 have hge : i = hs.length := by have := of_decide_eq_false h4; omega
 conv => whnf
 subst hge
 unfold chH
 rw [h1, if_neg (by simp), firstR_no hd]
theorem op32 : Opens PR 32 := ⟨_, Tryd.func32, rfl, rfl⟩
theorem c57 (gl : Gl) (hs : List Sn) (hl : hs.length ≤ 9223372036854775807) : PCalls PR gl 57 [.agg [snsV hs]] fun r => r = vB (chHE hs == 0) := by
 refine fnW_sound (par_ok gl) Tryd.func57 ?_
 conv => whnf
 refine byC (c32 gl hs hl) op32 ?_
 conv => whnf
theorem op57 : Opens PR 57 := ⟨_, Tryd.func57, rfl, rfl⟩
end Go.Ab.MkF
namespace Go.Ab.MkF
open Go Go.Ab Go.Ab.Pln Go.Proofs
set_option maxHeartbeats 1000000
set_option maxRecDepth 100000
theorem remI {x m : Nat} (hx : x ≤ 255) : Int.tmod (IntKind.i64.wrap (x : Int)) (m : Int) = ((x % m : Nat) : Int) := by
 rw [show IntKind.i64.wrap (x : Int) = x from wrap_int (by omega) (by omega)]; rfl
theorem c33v {hs : List Sn} (hV : ValidH hs) : ∃ A : List Int, A.length = leastH hs ∧ A.length ≤ 8 ∧ PCalls PR glT 33 [.agg [snsV hs]] fun r => r = .tup [vL A, vI 0] :=
 ⟨(forV hs).1, (forV_len hV).1, by rw [(forV_len hV).1]; have := least_lt hV.n1 hV.n8; have := hV.n8; omega, to (c33 hs (by have := hV.n8; omega)) (by rw [(forV_len hV).2])⟩
theorem c37v {hs : List Sn} (hV : ValidH hs) : ∃ (A : List Int) (m : Nat), (srcS hs).1 = m ∧ m ≤ 8 ∧ PCalls PR glT 37 [.agg [snsV hs]] fun r => r = .tup [vL A, vI m, vI 0] := by
 obtain ⟨m, hm, _⟩ := src_int hV.n8
 have h8 := hV.n8
 have hle := (srcS_spec h8).2 _ _ (col_own hs)
 exact ⟨(srcS hs).2, m, hm, by omega, to (c37 hs (by have := hV.n8; omega)) (by rw [srcV_ok hV, hm])⟩
theorem maxE (a b : Int) : (if a > b then a else b) = max b a := by rw [Int.max_def]; split <;> split <;> omega
theorem minE (a b : Int) : (if a < b then a else b) = min b a := by rw [Int.min_def]; split <;> split <;> omega
theorem wrap8 {x : Nat} (hx : x ≤ 255) : IntKind.i64.wrap (x : Int) = x := wrap_int (by omega) (by omega)
structure SetL (n X : Nat) (L : List Int) : Prop where
 lt : X < 2 ^ n
 n8 : n ≤ 8
 eq : L = natsV (bitsL X)
theorem SetL.len {n X : Nat} {L : List Int} (h : SetL n X L) : L.length = (bitsL X).length := by rw [h.eq, List.length_map]
theorem SetL.get {n X i : Nat} {L : List Int} (h : SetL n X L) (hi : i < L.length) : ∃ k : Nat, getI L (i : Int) = some (k : Int) ∧ X.testBit k = true ∧ k < n := by
 obtain ⟨h1, h2, rfl⟩ := h
 rw [List.length_map] at hi
 have hm := List.getElem_mem hi
 exact ⟨(bitsL X)[i], getI_nats hi, (bitsL_mem (by omega) h1).1 hm, bits_range (by omega) h1 hm⟩
theorem SetL.has {n X : Nat} {L : List Int} (h : SetL n X L) (k : Nat) : (L.any fun x => x == (k : Int)) = X.testBit k := by rw [h.eq]; exact has_bits (c := n) (by have := h.n8; omega) h.lt
end Go.Ab.MkF
namespace Go.Ab.MkF
open Go Go.Ab Go.Ab.Pln Go.Proofs
set_option maxHeartbeats 1000000
set_option maxRecDepth 100000
theorem c13 (hs : List Sn) (hl : hs.length ≤ 9223372036854775807) (x : Sn) (B : List Int) (hB : B.length = 3) (hb : ∀ q, 0 ≤ B.getD q 0 ∧ B.getD q 0 ≤ 255) : PCalls PR glT 13 [.agg [snsV hs], .agg [vI x.1, vI x.2.1, vI x.2.2], .agg [.arr (S := S) U.u8 3 B]] fun r => r = vB true := by
 obtain ⟨u, hu⟩ : ∃ x : Nat, B.getD 0 0 = (x : Int) := ⟨(B.getD 0 0).toNat, by have := hb 0; omega⟩
 obtain ⟨v, hv⟩ : ∃ x : Nat, B.getD 1 0 = (x : Int) := ⟨(B.getD 1 0).toNat, by have := hb 1; omega⟩
 obtain ⟨w, hw⟩ : ∃ x : Nat, B.getD 2 0 = (x : Int) := ⟨(B.getD 2 0).toNat, by have := hb 2; omega⟩
 have hx2 := hb 0
 have hy2 := hb 1
 have hz2 := hb 2
 rw [hu] at hx2
 rw [hv] at hy2
 rw [hw] at hz2
 refine fnW_sound (parH_ok glT) Tryd.func13 ?_
 conv => whnf
 refine ⟨?_⟩
 conv => whnf
 refine ⟨?_⟩
 conv => whnf
 refine byC (c57 glT hs hl) op57 ?_
 rcases Classical.em (chHE hs = 0) with hk | hk
 · have hV := chH_valid.1 hk
   have h8 := hV.n8
   have h1 := hV.n1
   rw [show (chHE hs == 0) = true from by rw [hk]; rfl]
   conv => whnf
   refine ⟨?_⟩
   conv => whnf
   obtain ⟨A1, hA1, hB1, hc1⟩ := c33v hV
   refine byC hc1 op33 ?_
   conv => whnf
   refine ⟨?_⟩
   conv => whnf
   obtain ⟨S1, m1, hm1, hB2, hc2⟩ := c37v hV
   refine byC hc2 op37 ?_
   conv => whnf
   refine ⟨?_⟩
   conv => whnf
   refine ⟨by omega, by omega, ?_⟩
   conv => whnf
   refine ⟨(u : Int), (by have h := getI_D (l := B) (i := 0) (by omega); rw [hu] at h; exact h), ?_⟩
   conv => whnf
   refine ⟨by omega, ?_⟩
   conv => whnf
   refine ⟨?_⟩
   conv => whnf
   rw [remI (x := u) (m := hs.length) (by omega)]
   conv => whnf
   obtain ⟨i, hi⟩ : ∃ i, u % hs.length = i := ⟨_, rfl⟩
   rw [hi]
   conv => whnf
   have hil : i < hs.length := by rw [← hi]; exact Nat.mod_lt _ (by omega)
   have hbl := blurV_ok hV hil (a := (v : Int)) (b := (w : Int)) (by omega) (by omega)
   have hsn := hV.sn hil
   refine ⟨lim (show hs.length ≤ 1000000000 by omega), true, ?_⟩
   conv => whnf
   refine ⟨?_⟩
   conv => whnf
   refine ⟨true, ?_⟩
   conv => whnf
   refine ⟨_, getI_nat (xs := hs) hil, ?_⟩
   conv => whnf
   refine ⟨_, getI_nat (xs := hs) hil, ?_⟩
   conv => whnf
   refine ⟨?_⟩
   conv => whnf
   refine ⟨by omega, by omega, ?_⟩
   conv => whnf
   refine ⟨(v : Int), (by have h := getI_D (l := B) (i := 1) (by omega); rw [hv] at h; exact h), ?_⟩
   conv => whnf
   refine ⟨by omega, by omega, ?_⟩
   conv => whnf
   refine ⟨(w : Int), (by have h := getI_D (l := B) (i := 2) (by omega); rw [hw] at h; exact h), ?_⟩
   conv => whnf
   refine ⟨?_⟩
   conv => whnf
   refine ⟨by omega, by omega, ?_⟩
   conv => whnf
   refine ⟨(v : Int), (by have h := getI_D (l := B) (i := 1) (by omega); rw [hv] at h; exact h), ?_⟩
   conv => whnf
   refine ⟨by omega, by omega, ?_⟩
   conv => whnf
   refine ⟨(w : Int), (by have h := getI_D (l := B) (i := 2) (by omega); rw [hw] at h; exact h), ?_⟩
   conv => whnf
   refine bcase_iff.2 ⟨fun h9 => ?_, fun h9 => ?_⟩
   · have h9 : (v : Int) > w := of_decide_eq_true h9
     conv => whnf
     refine ⟨?_⟩
     conv => whnf
     refine ⟨?_⟩
     conv => whnf
     refine ⟨true, ?_⟩
     conv => whnf
     refine ⟨_, getI_nat (xs := hs) hil, ?_⟩
     conv => whnf
     refine ⟨blurV hs[i] v w, by unfold blurV; simp only [h9, if_true]; rw [wrap8 (x := v) (by omega), wrap8 (x := w) (by omega), wrap_int (by omega) (by omega), wrap_int (by omega) (by omega), maxE, minE]; rfl, ?_⟩
     conv => whnf
     generalize hF : (fun zs : List (S.T U.seen) => zs.set ((i : Int)).toNat (blurV hs[i] v w)) = F
     conv => whnf
     rw [show F hs = hs.set i (blurV hs[i] v w) from by rw [← hF]; rfl]
     conv => whnf
     refine ⟨?_⟩
     conv => whnf
     obtain ⟨A2, hA2, hB3, hc3⟩ := c33v (validH_set (i := i) hV hbl.2)
     refine byC hc3 op33 ?_
     conv => whnf
     refine ⟨?_⟩
     conv => whnf
     obtain ⟨S2, m2, hm2, hB4, hc4⟩ := c37v (validH_set (i := i) hV hbl.2)
     refine byC hc4 op37 ?_
     conv => whnf
     refine ⟨?_⟩
     conv => whnf
     refine bcase_iff.2 ⟨fun g14_21 => ?_, fun g14_21 => ?_⟩
     · exfalso
       have g := of_decide_eq_true g14_21
       have := blur_least h8 hil hbl.1
       omega
     conv => whnf
     refine bcase_iff.2 ⟨fun h14 => ?_, fun h14 => ?_⟩
     · exfalso
       have g := of_decide_eq_true h14
       have := blur_src h8 hil hbl.1
       omega
     conv => whnf
     refine ⟨[0, 1, 2, 4, 3, 5, 6, 7, 8, 9], [3, 5], [6, 8], [122], ⟨191561942608236107294793378393788647952342390272950271, [], []⟩, by decide +kernel, ?_⟩
     conv => whnf
     refine ⟨lim (show hs.length ≤ 1000000000 by omega), ?_⟩
     conv => whnf
     refine ⟨_, rfl, ?_⟩
     conv => whnf
     refine ⟨lim (show hs.length + 1 ≤ 1000000000 by omega), ?_⟩
     conv => whnf
     refine ⟨?_⟩
     conv => whnf
     refine byC (c57 glT (hs ++ [x]) (by simp; omega)) op57 ?_
     rcases Classical.em (chHE (hs ++ [x]) = 0) with hk2 | hk2
     · have hV2 := chH_valid.1 hk2
       have h82 : hs.length < 8 := by have := hV2.n8; simp at this; omega
       rw [show (chHE (hs ++ [x]) == 0) = true from by rw [hk2]; rfl]
       conv => whnf
       refine ⟨?_⟩
       conv => whnf
       obtain ⟨A3, hA3, hB5, hc5⟩ := c33v hV2
       refine byC hc5 op33 ?_
       conv => whnf
       refine ⟨?_⟩
       conv => whnf
       obtain ⟨S3, m3, hm3, hB6, hc6⟩ := c37v hV2
       have hml := more_least (x := x) h82
       have hms := more_src (x := x) h82
       refine byC hc6 op37 ?_
       conv => whnf
       refine ⟨?_⟩
       conv => whnf
       refine bcase_iff.2 ⟨fun g21_13 => ?_, fun g21_13 => ?_⟩
       · conv => whnf
         refine bcase_iff.2 ⟨fun g21_21 => ?_, fun g21_21 => ?_⟩
         · conv => whnf
           refine bcase_iff.2 ⟨fun g21_26 => ?_, fun g21_26 => ?_⟩
           · conv => whnf
             refine bcase_iff.2 ⟨fun g21_32 => ?_, fun g21_32 => ?_⟩
             · conv => whnf
               refine byC c27 op27 ?_
               conv => whnf
               all_goals rfl
             exfalso
             have g := of_decide_eq_false g21_32
             rw [show IntKind.i64.wrap ((m1 : Int) + 1) = (m1 : Int) + 1 from wrap_int (by omega) (by omega)] at g
             omega
           exfalso
           have g := of_decide_eq_false g21_26
           omega
         exfalso
         have g := of_decide_eq_false g21_21
         rw [show IntKind.i64.wrap ((A1.length : Int) + 1) = (A1.length : Int) + 1 from wrap_int (by omega) (by omega)] at g
         omega
       exfalso
       have g := of_decide_eq_false g21_13
       omega
     rw [show (chHE (hs ++ [x]) == 0) = false from by simpa using hk2]
     conv => whnf
     refine ⟨?_⟩
     conv => whnf
     refine byC c27 op27 ?_
     conv => whnf
     all_goals rfl
   have h9 : ¬ (v : Int) > w := of_decide_eq_false h9
   conv => whnf
   refine ⟨?_⟩
   conv => whnf
   refine ⟨true, ?_⟩
   conv => whnf
   refine ⟨_, getI_nat (xs := hs) hil, ?_⟩
   conv => whnf
   refine ⟨blurV hs[i] v w, by unfold blurV; simp only [h9, if_false]; rw [wrap8 (x := v) (by omega), wrap8 (x := w) (by omega), wrap_int (by omega) (by omega), wrap_int (by omega) (by omega), maxE, minE]; rfl, ?_⟩
   conv => whnf
   generalize hF : (fun zs : List (S.T U.seen) => zs.set ((i : Int)).toNat (blurV hs[i] v w)) = F
   conv => whnf
   rw [show F hs = hs.set i (blurV hs[i] v w) from by rw [← hF]; rfl]
   conv => whnf
   refine ⟨?_⟩
   conv => whnf
   obtain ⟨A2, hA2, hB3, hc3⟩ := c33v (validH_set (i := i) hV hbl.2)
   refine byC hc3 op33 ?_
   conv => whnf
   refine ⟨?_⟩
   conv => whnf
   obtain ⟨S2, m2, hm2, hB4, hc4⟩ := c37v (validH_set (i := i) hV hbl.2)
   refine byC hc4 op37 ?_
   conv => whnf
   refine ⟨?_⟩
   conv => whnf
   refine bcase_iff.2 ⟨fun g14_21 => ?_, fun g14_21 => ?_⟩
   · exfalso
     have g := of_decide_eq_true g14_21
     have := blur_least h8 hil hbl.1
     omega
   conv => whnf
   refine bcase_iff.2 ⟨fun h14 => ?_, fun h14 => ?_⟩
   · exfalso
     have g := of_decide_eq_true h14
     have := blur_src h8 hil hbl.1
     omega
   conv => whnf
   refine ⟨[0, 1, 2, 4, 3, 5, 6, 7, 8, 9], [3, 5], [6, 8], [122], ⟨191561942608236107294793378393788647952342390272950271, [], []⟩, by decide +kernel, ?_⟩
   conv => whnf
   refine ⟨lim (show hs.length ≤ 1000000000 by omega), ?_⟩
   conv => whnf
   refine ⟨_, rfl, ?_⟩
   conv => whnf
   refine ⟨lim (show hs.length + 1 ≤ 1000000000 by omega), ?_⟩
   conv => whnf
   refine ⟨?_⟩
   conv => whnf
   refine byC (c57 glT (hs ++ [x]) (by simp; omega)) op57 ?_
   rcases Classical.em (chHE (hs ++ [x]) = 0) with hk2 | hk2
   · have hV2 := chH_valid.1 hk2
     have h82 : hs.length < 8 := by have := hV2.n8; simp at this; omega
     rw [show (chHE (hs ++ [x]) == 0) = true from by rw [hk2]; rfl]
     conv => whnf
     refine ⟨?_⟩
     conv => whnf
     obtain ⟨A3, hA3, hB5, hc5⟩ := c33v hV2
     refine byC hc5 op33 ?_
     conv => whnf
     refine ⟨?_⟩
     conv => whnf
     obtain ⟨S3, m3, hm3, hB6, hc6⟩ := c37v hV2
     have hml := more_least (x := x) h82
     have hms := more_src (x := x) h82
     refine byC hc6 op37 ?_
     conv => whnf
     refine ⟨?_⟩
     conv => whnf
     refine bcase_iff.2 ⟨fun g21_13 => ?_, fun g21_13 => ?_⟩
     · conv => whnf
       refine bcase_iff.2 ⟨fun g21_21 => ?_, fun g21_21 => ?_⟩
       · conv => whnf
         refine bcase_iff.2 ⟨fun g21_26 => ?_, fun g21_26 => ?_⟩
         · conv => whnf
           refine bcase_iff.2 ⟨fun g21_32 => ?_, fun g21_32 => ?_⟩
           · conv => whnf
             refine byC c27 op27 ?_
             conv => whnf
             all_goals rfl
           exfalso
           have g := of_decide_eq_false g21_32
           rw [show IntKind.i64.wrap ((m1 : Int) + 1) = (m1 : Int) + 1 from wrap_int (by omega) (by omega)] at g
           omega
         exfalso
         have g := of_decide_eq_false g21_26
         omega
       exfalso
       have g := of_decide_eq_false g21_21
       rw [show IntKind.i64.wrap ((A1.length : Int) + 1) = (A1.length : Int) + 1 from wrap_int (by omega) (by omega)] at g
       omega
     exfalso
     have g := of_decide_eq_false g21_13
     omega
   rw [show (chHE (hs ++ [x]) == 0) = false from by simpa using hk2]
   conv => whnf
   refine ⟨?_⟩
   conv => whnf
   refine byC c27 op27 ?_
   conv => whnf
   all_goals rfl
 rw [show (chHE hs == 0) = false from by simpa using hk]
 conv => whnf
 refine ⟨?_⟩
 conv => whnf
 refine byC c27 op27 ?_
 conv => whnf
 all_goals rfl
end Go.Ab.MkF
namespace Go.Ab.MkF
open Go Go.Ab Go.Proofs Go.Proofs.YtmchcpmkadhmjaaDoor Go.ChangeShapes Go.WideShapes Go.ChangeAt Go.RowKit
theorem post_same {H : Type} {enc : TypeId × Value → H} {P : Program} {f : Func} {s : ChangeSpec} {apart fresh handsOn again : Bool} {W W' : World} {args : Array Value} {v : Value} {ds gs : List (DataW H)} {before pa pv : List MemPlace}
  (hW : DataW.Whole enc P f.params.toList s.vars apart W args.toList ds gs before)
  (hres : ∀ (b : Nat) (sp : Nat → Bool) (hd : Bool), DataW.TrodAll enc P W' b sp hd f.resultTypes.toList (v.resultList f.resultTypes.size) (s.fn H (ds ++ gs)).results [])
  (hargs : ∀ sp : Nat → Bool, (∀ p ∈ before, sp p.block = true) → DataW.TrodAll enc P W' 0 sp true f.params.toList args.toList (s.fn H (ds ++ gs)).args pa)
  (hvars : ∀ sp : Nat → Bool, (∀ p ∈ before, sp p.block = true) → DataW.TrodVars enc P W' sp s.vars (s.fn H (ds ++ gs)).vars pv)
  (hps : before = pa ++ pv) (hk : W.keptBut W' (· ∈ before)) (hfz : ∀ a, a.block < W.heap.size → W'.frozen? a = W.frozen? a)
  (hok : ∀ (j : Nat) (t : TypeId) (r : Value), f.resultTypes[j]? = some t → (v.resultList f.resultTypes.size)[j]? = some r → Value.okWide P W' .any 0 t r) :
  s.post enc P f apart fresh handsOn again W args v W' := by
 have hlt := hW.lt
 have hold : ∀ p ∈ before, (fun b => decide (b < W.heap.size)) p.block = true := fun p hp => by simpa using hlt p hp
 refine ⟨ds, gs, before, [], pa, pv, hW, hres _ _ _, hargs _ hold, hvars _ hold, World.keptBut_mono (fun p hp => ⟨hp, ?_⟩) hk, fun _ => ?_⟩
 · rw [hps, List.mem_append] at hp
   exact Or.inr hp
 obtain ⟨_, _, _, _, _, hz, hn⟩ := hW
 refine ⟨hok, _, _, ([] ++ pa) ++ pv, ⟨[] ++ pa, pv, trodAll_append (hargs _ (fun _ _ => rfl)) (hres _ _ _), hvars _ (fun _ _ => rfl), rfl, ?_, ?_⟩, ?_⟩
 · intro b off hp
   have hp' : MemPlace.cell b off ∈ before := by rw [hps]; simpa using hp
   rw [hfz _ (hlt _ hp')]
   exact hz b off hp'
 · intro ha
   have := hn ha
   rw [hps] at this
   simpa using this
 intro p hp _
 rw [hps]
 simpa using hp
theorem grow_kept {w w' : World} (h : Grow w w') (may : MemPlace → Prop) : w.keptBut w' may := by
 refine ⟨h.os, h.output, fun i hi => ?_⟩
 rw [h.block i hi]
 cases w.heap[i]? with
 | none => trivial
 | some o => cases o <;> simp
theorem grow_fz {w w' : World} (h : Grow w w') (a : Addr) (ha : a.block < w.heap.size) : w'.frozen? a = w.frozen? a := by
 unfold World.frozen?
 rw [h.block _ ha]
theorem gTab : Tryd.prog.globalNamed "math/bits.deBruijn64tab" = some 1 := by kernel_rfl
theorem gTabType : (Tryd.prog.globals[1]?).map (·.type) = some 198 := by kernel_rfl
theorem cells198 : Tryd.prog.cellsOf 198 = 64 := by kernel_rfl
theorem cells5 : Tryd.prog.cellsOf 5 = 1 := by kernel_rfl
theorem laid_glT {W : World} (h : laidMetH Tryd.prog [("math/bits.deBruijn32tab", Rows.laid_math_bits_deBruijn32tab), ("math/bits.deBruijn64tab", Rows.laid_math_bits_deBruijn64tab)] W) : glT.G W := by
 have h1 := laidMetH.filter (fun x => x.1 == "math/bits.deBruijn64tab") h
 have e : ([("math/bits.deBruijn32tab", Rows.laid_math_bits_deBruijn32tab), ("math/bits.deBruijn64tab", Rows.laid_math_bits_deBruijn64tab)] : List (String × DataW Unit)).filter (fun x => x.1 == "math/bits.deBruijn64tab") = [("math/bits.deBruijn64tab", Rows.laid_math_bits_deBruijn64tab)] := by rfl
 rw [e, Go.MakeChecks.laidMetH_plain _ _ _ (by kernel_rfl)] at h1
 have ht : Lib.TabIs Tryd.prog W "math/bits.deBruijn64tab" .u8 (Lib.deBruijn64tab.map fun n : Nat => (n : Int)) := Lib.tabIs_of_head (rest := []) gTab gTabType Tryd.underlying198 Tryd.underlying5 cells5 cells198 h1
 have hc : TabAt 1 Lib.deBruijn64tab W := fun j hj => by
  have := ht.cell gTab j (by simpa using hj)
  rw [this]
  simp [List.getD, hj]
 refine ⟨?_, hc⟩
 have := hc 0 (by decide)
 rcases Nat.lt_or_ge 1 W.heap.size with hlt | hge
 · exact hlt
 exfalso
 have hn : W.heap[1]? = none := Array.getElem?_eq_none hge
 simp [World.cell?, hn] at this
def tab32 : List Int := [0, 1, 28, 2, 29, 14, 24, 3, 30, 22, 20, 15, 25, 17, 4, 8, 31, 27, 13, 23, 21, 19, 16, 7, 26, 12, 18, 6, 11, 5, 10, 9]
def tab64 : List Int := [0, 1, 56, 2, 57, 49, 28, 3, 61, 58, 42, 50, 38, 29, 17, 4, 62, 47, 59, 36, 45, 43, 51, 22, 53, 39, 33, 30, 24, 18, 12, 5, 63, 55, 48, 27, 60, 41, 37, 16, 46, 35, 44, 21, 52, 32, 23, 11, 54, 26, 40, 15, 34, 20, 31, 10, 25, 14, 19, 9, 13, 8, 7, 6]
def setTab (zs : List Int) : Obj → Obj
 | .cells _ t frozen => .cells (zs.map fun n => Value.int .u8 n).toArray t frozen
 | o => o
def tabWorld (w : World) : World := { w with heap := (w.heap.modify 0 (setTab tab32)).modify 1 (setTab tab64) }
end Go.Ab.MkF
namespace Go.Ab.MkF
open Go Go.Ab Go.Proofs
set_option maxRecDepth 100000
theorem kids : Kids Tryd.prog (· < Tryd.prog.types.size) := kids_rows (by kernel_rfl) (by kernel_rfl)
theorem full : ∀ t e, t < Tryd.prog.types.size → Tryd.prog.underlying t = some (.slice e) → 0 < Tryd.prog.cellsOf e := slices_full_of Tryd.prog (by kernel_rfl)
theorem zc3 : Tryd.prog.cellsOf 3 = 1 := by kernel_rfl
theorem zc5 : Tryd.prog.cellsOf 5 = 1 := by kernel_rfl
theorem zc46 : Tryd.prog.cellsOf 46 = 1 := by kernel_rfl
theorem zc48 : Tryd.prog.cellsOf 48 = 1 := by kernel_rfl
theorem zc57 : Tryd.prog.cellsOf 57 = 2 := by kernel_rfl
theorem zc84 : Tryd.prog.cellsOf 84 = 3 := by kernel_rfl
theorem zc86 : Tryd.prog.cellsOf 86 = 3 := by kernel_rfl
abbrev B63 : Nat := 9223372036854775807
section
variable {H : Type} {enc : TypeId × Value → H} {w : World}
theorem oInt : OpA S enc Tryd.prog w 3 fun cl => ∃ n : Int, cl = Cod.enc (S := S) U.int n ∧ IntKind.i64.min ≤ n ∧ n ≤ IntKind.i64.max :=
 (OpA.int Tryd.underlying3).mono fun _ ⟨n, h, h1⟩ => ⟨n, h, h1⟩
theorem oByte : OpA S enc Tryd.prog w 5 fun cl => ∃ n : Int, cl = Cod.enc (S := S) U.u8 n ∧ IntKind.u8.min ≤ n ∧ n ≤ IntKind.u8.max :=
 (OpA.int Tryd.underlying5).mono fun _ ⟨n, h, h1⟩ => ⟨n, h, h1⟩
theorem oSpan : OpA S enc Tryd.prog w 57 fun cl => ∃ a b : Int, cl = [vI a, vI b] := by
 refine (OpA.struct (Rs := [_, _]) Tryd.underlying57 ⟨rfl, _, _, rfl, oInt, by rw [zc3], _, _, rfl, oInt, by rw [zc3, zc57], rfl⟩).mono ?_
 rintro cl ⟨a, b, rfl, ⟨n, rfl, _⟩, e, f, rfl, ⟨m, rfl, _⟩, rfl⟩
 exact ⟨n, m, rfl⟩
theorem oSn : OpA S enc Tryd.prog w 84 fun cl => ∃ y : Sn, cl = Cod.enc (S := S) U.seen y ∧ True := by
 refine (OpA.struct (Rs := [_, _]) Tryd.underlying84 ⟨rfl, _, _, rfl, oInt, by rw [zc3], _, _, rfl, oSpan, by rw [zc3, zc57, zc84], rfl⟩).mono ?_
 rintro cl ⟨a, b, rfl, ⟨n, rfl, _⟩, e, f, rfl, ⟨m, k, rfl⟩, rfl⟩
 exact ⟨(n, m, k), rfl, trivial⟩
theorem oSeen : OpA S enc Tryd.prog w 84 fun cl => ∃ y : Sn, cl = [vI y.1, vI y.2.1, vI y.2.2] := oSn.mono fun _ ⟨y, h, _⟩ => ⟨y, h⟩
theorem oSns : OpA S enc Tryd.prog w 46 fun cl => ∃ ys : List Sn, cl = [snsV ys] ∧ ys.length ≤ B63 ∧ ∀ y ∈ ys, True :=
 OpA.slice (S := S) (u := U.seen) Tryd.underlying46 zc84 oSn
theorem oHand : OpA S enc Tryd.prog w 48 fun cl => ∃ ys : List Sn, cl = [snsV ys] ∧ ys.length ≤ B63 := by
 refine (OpA.struct (Rs := [_]) Tryd.underlying48 ⟨rfl, _, _, rfl, oSns, by rw [zc46, zc48], rfl⟩).mono ?_
 rintro cl ⟨a, b, rfl, ⟨ys, rfl, h, _⟩, rfl⟩
 exact ⟨ys, rfl, h⟩
theorem arr_b {l : List Int} (h : ∀ y ∈ l, 0 ≤ y ∧ y ≤ 255) (q : Nat) : 0 ≤ l.getD q 0 ∧ l.getD q 0 ≤ 255 := by
 rcases Nat.lt_or_ge q l.length with hq | hq
 · rw [getD_at hq]; exact h _ (List.getElem_mem hq)
 rw [List.getD_eq_getElem?_getD, List.getElem?_eq_none hq]; decide
theorem oTri : OpA S enc Tryd.prog w 86 fun cl => ∃ l : List Int, cl = [.arr (S := S) U.u8 3 l] ∧ l.length = 3 ∧ ∀ q, 0 ≤ l.getD q 0 ∧ l.getD q 0 ≤ 255 := by
 refine (OpA.array (S := S) (u := U.u8) Tryd.underlying86 (by rw [zc86, zc5]) oByte).mono ?_
 rintro cl ⟨ys, rfl, hl, h⟩
 exact ⟨ys, rfl, hl, arr_b h⟩
end
abbrev noHand : Value := .agg #[.slice none 0 0]
end Go.Ab.MkF
