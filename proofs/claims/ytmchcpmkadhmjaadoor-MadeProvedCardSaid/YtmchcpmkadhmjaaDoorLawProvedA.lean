/-
  THE MADE FAMILY, PLAIN LAW, PART E: the fewest leaves: what is so of them.
  THE MADE FAMILY, PLAIN LAW, PART F: the fewest copies: what is so of them.
  THE MADE FAMILY, PLAIN LAW, PART H: leaves that are told, as a set.
  THE MADE FAMILY, PLAIN LAW, PART G: of MadeLeaf: one leaf more, or one that is seen less well.
  THE MADE FAMILY, PLAIN LAW, PART I: what some leaves have in common.
  THE MADE FAMILY, PLAIN LAW, PART J: leaves that are told, as the reference looks at them.
  THE MADE FAMILY, PART RA: the reference: a hand.
  THE MADE FAMILY, PART LH: what the laws of a hand have in common.
  THE MADE FAMILY, PART RD: the reference: what leaves have in common.
  THE MADE FAMILY, PART LD: MadeProofs and MadeProved.
  THE MADE FAMILY: WHAT ALL ITS CARDS NEED: from a contract of the engine to the given statements' form.
  THE MADE FAMILY: the arguments of its laws, read as ours.
-/
import Derived.Test.YtmchcpmkadhmjaaDoorCards
import Derived.Test.YtmchcpmkadhmjaaDoorTie
import Derived.WalkKit
import Derived.ProofKit
import Derived.OpenShut
import Derived.Deep.DeepHandedRow
import Derived.Lib.LaidTab
import Derived.LaidSub
import Derived.MakeChecks
import Derived.ChangeBears
import Derived.Test.YtmchcpmkadhmjaaDoorMadeB
import Derived.Test.YtmchcpmkadhmjaaDoorMadeA
import Derived.Test.YtmchcpmkadhmjaaDoorEngD
namespace Go.Ab.MkF
open Go Go.Ab Go.Ab.Pln
theorem bitsL_mem {n c a : Nat} (hc : c ≤ 64) (hn : n < 2 ^ c) : a ∈ bitsL n ↔ n.testBit a = true := by
 rw [bitsL_below hc hn, List.mem_filter, List.mem_range]
 refine ⟨fun h => h.2, fun h => ⟨?_, h⟩⟩
 rcases Nat.lt_or_ge a c with h2 | h2
 · exact h2
 rw [Nat.testBit_lt_two_pow (Nat.lt_of_lt_of_le hn (Nat.pow_le_pow_right (by omega) h2))] at h; cases h
theorem bits_asc {n c : Nat} (hc : c ≤ 64) (hn : n < 2 ^ c) : (bitsL n).Pairwise (· < ·) := by
 rw [bitsL_below hc hn]; exact List.Pairwise.filter _ List.pairwise_lt_range
theorem pw_asc {R : Nat → Nat → Prop} : ∀ {l : List Nat}, l.Pairwise (· < ·) → (l.Pairwise R ↔ ∀ a ∈ l, ∀ b ∈ l, a < b → R a b)
 | [], _ => by simp
 | c :: r, h => by
  obtain ⟨h1, h2⟩ := List.pairwise_cons.1 h
  rw [List.pairwise_cons, pw_asc h2]
  constructor
  · rintro ⟨h3, h4⟩ a ha b hb hab
    rcases List.mem_cons.1 ha with rfl | ha'
    · rcases List.mem_cons.1 hb with rfl | hb'
      · omega
      exact h3 b hb'
    rcases List.mem_cons.1 hb with rfl | hb'
    · have := h1 a ha'; omega
    exact h4 a ha' b hb' hab
  intro h3
  exact ⟨fun b hb => h3 c List.mem_cons_self b (List.mem_cons_of_mem _ hb) (h1 b hb), fun a ha b hb => h3 a (List.mem_cons_of_mem _ ha) b (List.mem_cons_of_mem _ hb)⟩
theorem less_test (a b k : Nat) : (less a b).testBit k = (a.testBit k && !b.testBit k) := by
 unfold less
 rw [Nat.testBit_xor, Nat.testBit_and]
 cases a.testBit k <;> cases b.testBit k <;> rfl
theorem rest_test (n s k : Nat) : (less (2 ^ n - 1) s).testBit k = (decide (k < n) && !s.testBit k) := by rw [less_test, Nat.testBit_two_pow_sub_one]
theorem rest_lt (n s : Nat) : less (2 ^ n - 1) s < 2 ^ n := less_lt' (by have := Nat.two_pow_pos n; omega)
def Acc (hs : List Sn) (s : Nat) : Prop := ∀ a b, a < b → b < hs.length → s.testBit a = false → s.testBit b = false → pairH hs a b = true
theorem clR_none {hs : List Sn} {c set : Nat} (hc : c ≤ 64) (hn : set < 2 ^ c) : clR hs set = none ↔ ∀ a b, a < b → set.testBit a = true → set.testBit b = true → pairH hs a b = true := by
 unfold clR
 rw [clL_none, pw_asc (bits_asc hc hn)]
 constructor
 · exact fun h a b hab h1 h2 => h a ((bitsL_mem hc hn).2 h1) b ((bitsL_mem hc hn).2 h2) hab
 exact fun h a h1 b h2 hab => h a b hab ((bitsL_mem hc hn).1 h1) ((bitsL_mem hc hn).1 h2)
abbrev leastH (hs : List Sn) : Nat := (fewH hs (2 ^ hs.length)).1
theorem bits_ones {x : Nat} (h : x < 256) : (bitsL x).length = onesN x := by rw [bitsL_below (c := 8) (by omega) h]; rfl
theorem p256 {n : Nat} (h : n ≤ 8) : 2 ^ n ≤ 256 := Nat.pow_le_pow_right (n := 2) (by omega) h
end Go.Ab.MkF
namespace Go.Ab.MkF
open Go Go.Ab Go.Ab.Pln
def okJ (hs : List Sn) (L : List Int) (j : Nat) : Bool := (List.range L.length).all fun a => !(L.getD a 0 == (j : Int)) || pairH hs a L.length
def allC (hs : List Sn) : Nat → Nat → List Int → List (Nat × List Int)
 | 0, t, L => [(t, L)]
 | k + 1, t, L => (List.range (t + 1)).flatMap fun j => if okJ hs L j then allC hs k (max t (j + 1)) (L ++ [(j : Int)]) else []
def updS (s : Int × List Int) (q : Nat × List Int) : Int × List Int := if (q.1 : Int) ≥ s.1 then s else ((q.1 : Int), q.2)
structure Lk (hs : List Sn) (T : List Nat) (L : List Int) : Prop where
 ok : SrcOk L.length T
 val : ∀ a, a < L.length → ∃ j : Nat, j < T.length ∧ L.getD a 0 = (j : Int)
 bit : ∀ j, j < T.length → ∀ a, (T.getD j 0).testBit a = true ↔ a < L.length ∧ L.getD a 0 = (j : Int)
 can : ∀ a b, a < b → b < L.length → L.getD a 0 = L.getD b 0 → pairH hs a b = true
theorem Lk.nil (hs : List Sn) : Lk hs [] [] := ⟨⟨Nat.le_refl _, fun x h => absurd h (by simp)⟩, fun a h => absurd h (Nat.not_lt_zero _), fun j h => absurd h (Nat.not_lt_zero _), fun a b _ h => absurd h (Nat.not_lt_zero _)⟩
theorem getD_app_lt {α : Type} {l : List α} {x d : α} {i : Nat} (h : i < l.length) : (l ++ [x]).getD i d = l.getD i d := by
 rw [getD_at (by simp; omega), getD_at h, List.getElem_append_left h]
theorem getD_app_at {α : Type} {l : List α} {x d : α} : (l ++ [x]).getD l.length d = x := by
 rw [getD_at (by simp)]; simp
theorem getD_app {α : Type} {l : List α} {x d : α} {i : Nat} (h : i < l.length + 1) : (i < l.length ∧ (l ++ [x]).getD i d = l.getD i d) ∨ i = l.length ∧ (l ++ [x]).getD i d = x := by
 rcases Nat.lt_or_eq_of_le (Nat.le_of_lt_succ h) with h | rfl
 · exact .inl ⟨h, getD_app_lt h⟩
 exact .inr ⟨rfl, getD_app_at⟩
theorem Lk.joinBit {hs : List Sn} {T : List Nat} {L : List Int} (h : Lk hs T L) {j : Nat} (hj : j ≤ T.length) (a : Nat) : ((sjoin T j (2 ^ L.length)).getD j 0).testBit a = true ↔ (a < L.length ∧ L.getD a 0 = (j : Int)) ∨ a = L.length := by
 rcases Nat.lt_or_eq_of_le hj with hlt | rfl
 · rw [sjoin_lt hlt, getD_at (by simpa using hlt), List.getElem_set_self, Nat.testBit_or, Nat.testBit_two_pow, Bool.or_eq_true, ← getD_at (d := 0) hlt, h.bit j hlt a, decide_eq_true_eq]
   exact ⟨fun h => h.imp id Eq.symm, fun h => h.imp id Eq.symm⟩
 rw [sjoin_ge, getD_app_at, Nat.testBit_two_pow, decide_eq_true_eq]
 constructor
 · exact fun h => .inr h.symm
 rintro (⟨h1, h2⟩ | h1)
 · obtain ⟨q, hq, h3⟩ := h.val a h1
   omega
 exact h1.symm
theorem Lk.okJ {hs : List Sn} {L : List Int} {j : Nat} : okJ hs L j = true ↔ ∀ a, a < L.length → L.getD a 0 = (j : Int) → pairH hs a L.length = true := by
 unfold Go.Ab.MkF.okJ
 rw [List.all_eq_true]
 constructor
 · intro h a ha he
   have := h a (List.mem_range.2 ha)
   rw [he] at this
   simpa using this
 intro h a ha
 have ha := List.mem_range.1 ha
 by_cases he : L.getD a 0 = (j : Int)
 · rw [h a ha he]; simp
 rw [show (L.getD a 0 == (j : Int)) = false from by simpa using he]; rfl
theorem Lk.join {hs : List Sn} {T : List Nat} {L : List Int} (h : Lk hs T L) {j : Nat} (hj : j ≤ T.length) (ho : Go.Ab.MkF.okJ hs L j = true) : Lk hs (sjoin T j (2 ^ L.length)) (L ++ [(j : Int)]) := by
 have hlen : (L ++ [(j : Int)]).length = L.length + 1 := by simp
 have hT : (sjoin T j (2 ^ L.length)).length = max T.length (j + 1) := by
  rcases Nat.lt_or_eq_of_le hj with hlt | rfl
  · rw [sjoin_lt hlt, List.length_set]; omega
  rw [sjoin_ge, List.length_append]; simp
 refine ⟨by rw [hlen]; exact h.ok.join hj, fun a ha => ?_, fun q hq a => ?_, fun a b hab hb he => ?_⟩
 · rw [hT]
   rw [hlen] at ha
   rcases getD_app (x := (j : Int)) (d := 0) ha with ⟨h1, h2⟩ | ⟨_, h2⟩
   · obtain ⟨q, hq, h3⟩ := h.val a h1
     exact ⟨q, by omega, by rw [h2, h3]⟩
   exact ⟨j, by omega, h2⟩
 · rw [hlen]
   by_cases hjq : q = j
   · subst hjq
     rw [h.joinBit hj a]
     constructor
     · rintro (⟨h1, h2⟩ | rfl)
       · exact ⟨by omega, by rw [getD_app_lt h1]; exact h2⟩
       exact ⟨by omega, getD_app_at⟩
     rintro ⟨h1, h2⟩
     rcases getD_app (x := (q : Int)) (d := 0) h1 with ⟨h3, h4⟩ | ⟨h3, _⟩
     · exact .inl ⟨h3, by rw [← h4]; exact h2⟩
     exact .inr h3
   rw [hT] at hq
   have hql : q < T.length := by omega
   have hg : (sjoin T j (2 ^ L.length)).getD q 0 = T.getD q 0 := by
    rcases Nat.lt_or_eq_of_le hj with hlt | rfl
    · rw [sjoin_lt hlt, getD_at (by simpa using hql), List.getElem_set_ne (Ne.symm hjq), getD_at hql]
    rw [sjoin_ge, getD_app_lt hql]
   rw [hg, h.bit q hql a]
   constructor
   · rintro ⟨h1, h2⟩
     exact ⟨by omega, by rw [getD_app_lt h1]; exact h2⟩
   rintro ⟨h1, h2⟩
   rcases getD_app (x := (j : Int)) (d := 0) h1 with ⟨h3, h4⟩ | ⟨_, h4⟩
   · exact ⟨h3, by rw [← h4]; exact h2⟩
   rw [h4] at h2; omega
 rw [hlen] at hb
 rw [getD_app_lt (by omega)] at he
 rcases getD_app (x := (j : Int)) (d := 0) hb with ⟨h3, h4⟩ | ⟨h3, h4⟩
 · exact h.can a b hab h3 (by rw [← h4]; exact he)
 subst h3
 exact Lk.okJ.1 ho a hab (by rw [he, h4])
abbrev cols (hs : List Sn) : List (Nat × List Int) := allC hs hs.length 0 []
structure Col (hs : List Sn) (m : Nat) (f : Nat → Nat) : Prop where
 lt : ∀ a, a < hs.length → f a < m
 can : ∀ a b, a < b → b < hs.length → f a = f b → pairH hs a b = true
end Go.Ab.MkF
namespace Go.Ab.MkF
open Go Go.Ab Go.Ab.Pln
theorem bits_range {n c : Nat} (hc : c ≤ 64) (hn : n < 2 ^ c) {a : Nat} (h : a ∈ bitsL n) : a < c := by
 rw [bitsL_below hc hn] at h
 exact List.mem_range.1 (List.mem_filter.1 h).1
theorem has_bits {X c k : Nat} (hc : c ≤ 64) (hX : X < 2 ^ c) : ((natsV (bitsL X)).any fun x => x == (k : Int)) = X.testBit k := by
 rw [Bool.eq_iff_iff, ← bitsL_mem hc hX, List.any_eq_true]
 constructor
 · rintro ⟨x, hx, he⟩
   obtain ⟨a, ha, rfl⟩ := List.mem_map.1 hx
   have : a = k := by have := eq_of_beq he; omega
   exact this ▸ ha
 exact fun h => ⟨(k : Int), List.mem_map.2 ⟨k, h, rfl⟩, by simp⟩
theorem restU_test (n : Nat) (l : List Nat) (k : Nat) : ∀ i, i ≤ l.length → (restU n (natsV l) i).testBit k = (decide (k < n) && !(l.take i).contains k)
 | 0, _ => by
  show (2 ^ n - 1).testBit k = _
  rw [Nat.testBit_two_pow_sub_one]; simp
 | i + 1, h => by
  rw [restU_succ (by rw [List.length_map]; omega), less_test, restU_test n l k i (by omega), take_succ' (by omega : i < l.length)]
  simp only [List.getElem_map, Int.toNat_natCast, Nat.testBit_two_pow]
  rw [Bool.eq_iff_iff]
  simp only [Bool.and_eq_true, Bool.not_eq_true', decide_eq_true_eq, decide_eq_false_iff_not, List.contains_eq_mem, List.mem_append, List.mem_singleton, not_or]
  constructor
  · rintro ⟨⟨h1, h2⟩, h3⟩; exact ⟨h1, h2, fun e => h3 e.symm⟩
  rintro ⟨h1, h2, h3⟩; exact ⟨⟨h1, h2⟩, fun e => h3 e.symm⟩
theorem restN_set {hs : List Sn} (h8 : hs.length ≤ 8) {X : Nat} (hX : X < 2 ^ hs.length) : restN hs (natsV (bitsL X)) = less (2 ^ hs.length - 1) X := by
 apply Nat.eq_of_testBit_eq
 intro k
 unfold restN
 rw [List.length_map, restU_test _ _ _ _ (Nat.le_refl _), List.take_length, rest_test]
 congr 2
 rw [Bool.eq_iff_iff, List.contains_iff_mem, bitsL_mem (c := hs.length) (by omega) hX]
theorem asc_set {X c : Nat} (hc : c ≤ 64) (hX : X < 2 ^ c) : ascAll (natsV (bitsL X)) = true := by
 unfold ascAll
 rw [List.all_eq_true]
 intro i hi
 have hi := List.mem_range.1 hi
 rw [List.length_map] at hi
 unfold ascB
 cases i with
 | zero => rfl
 | succ i =>
  have h := List.pairwise_iff_getElem.1 (bits_asc hc hX) i (i + 1) (by omega) hi (by omega)
  rw [getD_at (by simpa using hi), Nat.add_sub_cancel, getD_at (by simp; omega), List.getElem_map, List.getElem_map]
  simp
  omega
theorem restE_set {hs : List Sn} (hV : ValidH hs) {X : Nat} (hX : X < 2 ^ hs.length) : restE hs (natsV (bitsL X)) = 0 := by
 have h8 := hV.n8
 unfold restE
 rw [if_pos (chH_valid.2 hV), asc_set (c := hs.length) (by omega) hX]
 rw [if_neg, if_pos rfl]
 rw [Bool.not_eq_true, List.any_eq_false]
 intro x hx
 obtain ⟨a, ha, rfl⟩ := List.mem_map.1 hx
 have := bits_range (c := hs.length) (by omega) hX ha
 unfold outB
 simp
 omega
theorem proV_set {hs : List Sn} (hV : ValidH hs) {X : Nat} (hX : X < 2 ^ hs.length) : proV hs (natsV (bitsL X)) = match clR hs (less (2 ^ hs.length - 1) X) with
  | some (a, b) => ((a : Int), (b : Int), 0)
  | none => (0, 0, 8) := by
 unfold proV
 rw [if_pos (restE_set hV hX), restN_set hV.n8 hX]
 cases clR hs (less (2 ^ hs.length - 1) X) <;> rfl
abbrev mustH (hs : List Sn) : Nat := allU hs.length (setsH hs) (setsH hs).length
abbrev mayH (hs : List Sn) : Nat := someU (setsH hs) (setsH hs).length
def someL (b n : Nat) : List Nat := (List.range n).filter b.testBit
theorem someL_bits (b n : Nat) (hn : n ≤ 64) : someL b n = bitsL (b % 2 ^ n) := by
 rw [bitsL_below hn (Nat.mod_lt _ (Nat.two_pow_pos n))]
 unfold someL
 apply List.filter_congr
 intro k hk
 rw [Nat.testBit_mod_two_pow, decide_eq_true (List.mem_range.1 hk), Bool.true_and]
end Go.Ab.MkF
namespace Go.Ab.MkF
open Go Go.Ab Go.Ab.Pln
theorem pairX_iff {x y : Sn} : pairX x y = true ↔ (x.1 = y.1 ∨ x.1 * y.1 = 0) ∧ x.2.1 ≤ y.2.2 ∧ y.2.1 ≤ x.2.2 := by
 unfold pairX
 simp [and_assoc]
theorem pairX_comm (x y : Sn) : pairX x y = pairX y x := by
 rw [Bool.eq_iff_iff, pairX_iff, pairX_iff, Int.mul_comm]
 constructor <;> rintro ⟨h1, h2, h3⟩ <;> exact ⟨h1.imp Eq.symm id, h3, h2⟩
structure Blur (x y : Sn) : Prop where
 kind : y.1 = x.1 ∨ y.1 = 0
 lo : y.2.1 ≤ x.2.1
 hi : x.2.2 ≤ y.2.2
theorem Blur.pair {x y z : Sn} (h : Blur x y) (hp : pairX x z = true) : pairX y z = true := by
 rw [pairX_iff] at hp ⊢
 obtain ⟨h1, h2, h3⟩ := hp
 have := h.lo
 have := h.hi
 refine ⟨?_, by omega, by omega⟩
 rcases h.kind with e | e
 · rw [e]; exact h1
 rw [e]; simp
def blurV (x : Sn) (a b : Int) : Sn := (if a > b then 0 else x.1, max 1 (x.2.1 - a), min 600 (x.2.2 + b))
end Go.Ab.MkF
namespace Go.Ab.MkF
open Go Go.Ab Go.Ab.Pln
def comS (hs : List Sn) (s : Int × Int × Int) (x : Nat) : Int × Int × Int := (max s.1 (hs.getD x sn0).1, max s.2.1 (hs.getD x sn0).2.1, min s.2.2 (hs.getD x sn0).2.2)
def comU (hs : List Sn) (l : List Nat) (i : Nat) : Int × Int × Int := (l.take i).foldl (comS hs) (0, 1, 600)
def offB (hs : List Sn) (s : Int × Int × Int) (x : Nat) : Bool := decide ((hs.getD x sn0).1 > 0) && decide (s.1 > 0) && ((hs.getD x sn0).1 != s.1)
def offU (hs : List Sn) (l : List Nat) (i : Nat) : Bool := (List.range i).any fun k => offB hs (comU hs l k) (l.getD k 0)
def comV (hs : List Sn) (l : List Nat) : Int × Int := if offU hs l l.length = true then (1, 0) else (comU hs l l.length).2
theorem comU_succ {hs : List Sn} {l : List Nat} {i : Nat} (h : i < l.length) : comU hs l (i + 1) = comS hs (comU hs l i) l[i] := by unfold comU; rw [take_succ' h, List.foldl_append]; rfl
theorem offU_succ {hs : List Sn} {l : List Nat} {i : Nat} (h : i < l.length) : offU hs l (i + 1) = (offU hs l i || offB hs (comU hs l i) l[i]) := by
 unfold offU; rw [List.range_succ, List.any_append, ← getD_at (d := 0) h]; simp
theorem offU_at {hs : List Sn} {l : List Nat} {i : Nat} (h : i < l.length) (hb : offB hs (comU hs l i) l[i] = true) : offU hs l l.length = true := by
 unfold offU
 exact any_yes h (by rw [getD_at h]; exact hb)
theorem com_lo (hs : List Sn) (l : List Nat) (v : Int) : ∀ i, i ≤ l.length → ((comU hs l i).2.1 ≤ v ↔ 1 ≤ v ∧ ∀ x ∈ l.take i, (hs.getD x sn0).2.1 ≤ v)
 | 0, _ => by show (1 : Int) ≤ v ↔ _; simp
 | i + 1, h => by
  have ih := com_lo hs l v i (by omega)
  rw [comU_succ (by omega), take_succ' (by omega : i < l.length)]
  show max _ _ ≤ v ↔ _
  rw [Int.max_le, ih]
  constructor
  · rintro ⟨⟨h1, h2⟩, h3⟩
    refine ⟨h1, fun x hx => ?_⟩
    rcases List.mem_append.1 hx with hx | hx
    · exact h2 x hx
    rw [List.mem_singleton] at hx; subst hx; exact h3
  rintro ⟨h1, h2⟩
  exact ⟨⟨h1, fun x hx => h2 x (List.mem_append_left _ hx)⟩, h2 _ (List.mem_append_right _ (List.mem_singleton.2 rfl))⟩
theorem com_hi (hs : List Sn) (l : List Nat) (v : Int) : ∀ i, i ≤ l.length → (v ≤ (comU hs l i).2.2 ↔ v ≤ 600 ∧ ∀ x ∈ l.take i, v ≤ (hs.getD x sn0).2.2)
 | 0, _ => by show v ≤ (600 : Int) ↔ _; simp
 | i + 1, h => by
  have ih := com_hi hs l v i (by omega)
  rw [comU_succ (by omega), take_succ' (by omega : i < l.length)]
  show v ≤ min _ _ ↔ _
  rw [Int.le_min, ih]
  constructor
  · rintro ⟨⟨h1, h2⟩, h3⟩
    refine ⟨h1, fun x hx => ?_⟩
    rcases List.mem_append.1 hx with hx | hx
    · exact h2 x hx
    rw [List.mem_singleton] at hx; subst hx; exact h3
  rintro ⟨h1, h2⟩
  exact ⟨⟨h1, fun x hx => h2 x (List.mem_append_left _ hx)⟩, h2 _ (List.mem_append_right _ (List.mem_singleton.2 rfl))⟩
def kinB (a b : Int) : Bool := a == b || a * b == 0
theorem kinB_iff {a b : Int} : kinB a b = true ↔ a = b ∨ a = 0 ∨ b = 0 := by
 unfold kinB
 rw [Bool.or_eq_true, beq_iff_eq, beq_iff_eq, Int.mul_eq_zero]
theorem kmax {K c x : Int} (hK : 0 ≤ K) (hc : 0 ≤ c) (hb : c = 0 ∨ K = 0 ∨ c = K) (h : x = 0 ∨ x = K) : x = 0 ∨ x = max K c := by omega
theorem kmax2 {K c : Int} (_hK : 0 ≤ K) (hc : 0 ≤ c) (hb : c = 0 ∨ K = 0 ∨ c = K) : c = 0 ∨ c = max K c := by omega
theorem com_kind {hs : List Sn} {l : List Nat} (hk : ∀ x ∈ l, 0 ≤ (hs.getD x sn0).1) : ∀ i, i ≤ l.length → 0 ≤ (comU hs l i).1 ∧
  (offU hs l i = false → (∀ x ∈ l.take i, (hs.getD x sn0).1 = 0 ∨ (hs.getD x sn0).1 = (comU hs l i).1) ∧ ((comU hs l i).1 = 0 ∨ ∃ x ∈ l.take i, (hs.getD x sn0).1 = (comU hs l i).1)) ∧
  (offU hs l i = true → ∃ x ∈ l.take i, ∃ y ∈ l.take i, kinB (hs.getD x sn0).1 (hs.getD y sn0).1 = false)
 | 0, _ => ⟨Int.le_refl _, fun _ => ⟨fun x hx => by simp at hx, .inl rfl⟩, fun h => by simp [offU] at h⟩
 | i + 1, h => by
  obtain ⟨h0, h1, h2⟩ := com_kind hk i (by omega)
  have hi : i < l.length := by omega
  have hx0 := hk _ (List.getElem_mem hi)
  have hm : ∀ {x}, x ∈ l.take i → x ∈ l.take (i + 1) := fun hx => by rw [take_succ' hi]; exact List.mem_append_left _ hx
  have hme : l[i] ∈ l.take (i + 1) := by rw [take_succ' hi]; exact List.mem_append_right _ (List.mem_singleton.2 rfl)
  have hc : (comU hs l (i + 1)).1 = max (comU hs l i).1 (hs.getD l[i] sn0).1 := by rw [comU_succ hi]; rfl
  have hof : offB hs (comU hs l i) l[i] = (decide ((hs.getD l[i] sn0).1 > 0) && decide ((comU hs l i).1 > 0) && ((hs.getD l[i] sn0).1 != (comU hs l i).1)) := rfl
  rw [hc, offU_succ hi, hof]
  generalize (comU hs l i).1 = K at *
  generalize hcc : (hs.getD l[i] sn0).1 = c at *
  refine ⟨by omega, fun hf => ?_, fun ht => ?_⟩
  · rw [Bool.or_eq_false_iff] at hf
    obtain ⟨g1, g2⟩ := h1 hf.1
    have hb := hf.2
    have hb2 : c = 0 ∨ K = 0 ∨ c = K := by
     simp at hb
     clear h1 h2 g1 g2
     omega
    refine ⟨fun x hx => ?_, ?_⟩
    · rw [take_succ' hi] at hx
      rcases List.mem_append.1 hx with hx | hx
      · exact kmax h0 hx0 hb2 (g1 x hx)
      rw [List.mem_singleton] at hx; subst hx; rw [hcc]; exact kmax2 h0 hx0 hb2
    rcases Int.lt_or_le K c with hlt | hle
    · exact .inr ⟨l[i], hme, hcc.trans (Int.max_eq_right (Int.le_of_lt hlt)).symm⟩
    rw [Int.max_eq_left hle]
    exact g2.imp id fun ⟨x, hx, e⟩ => ⟨x, hm hx, e⟩
  cases hf : offU hs l i with
  | true =>
   obtain ⟨x, hx, y, hy, hxy⟩ := h2 hf
   exact ⟨x, hm hx, y, hm hy, hxy⟩
  | false =>
   rw [hf, Bool.false_or] at ht
   obtain ⟨_, g2⟩ := h1 hf
   rw [Bool.and_eq_true, Bool.and_eq_true, decide_eq_true_eq, decide_eq_true_eq, bne_iff_ne] at ht
   obtain ⟨⟨ht1, ht2⟩, ht3⟩ := ht
   rcases g2 with e | ⟨x, hx, e⟩
   · exfalso; clear h1 h2; omega
   refine ⟨x, hm hx, l[i], hme, ?_⟩
   rw [Bool.eq_false_iff, Ne, kinB_iff, e, hcc]
   clear h1 h2
   omega
theorem pairH_kin {hs : List Sn} {x y : Nat} : pairH hs x y = true ↔ kinB (hs.getD x sn0).1 (hs.getD y sn0).1 = true ∧ (hs.getD x sn0).2.1 ≤ (hs.getD y sn0).2.2 ∧ (hs.getD y sn0).2.1 ≤ (hs.getD x sn0).2.2 := by
 unfold pairH pairX kinB
 simp [and_assoc]
theorem sn_at {hs : List Sn} (hV : ValidH hs) {x : Nat} (hx : x < hs.length) : (0 ≤ (hs.getD x sn0).1 ∧ (hs.getD x sn0).1 ≤ 2) ∧ 1 ≤ (hs.getD x sn0).2.1 ∧ (hs.getD x sn0).2.1 ≤ (hs.getD x sn0).2.2 ∧ (hs.getD x sn0).2.2 ≤ 600 := by
 rw [getD_at hx]; exact hV.sn hx
theorem one_iff {hs : List Sn} (hV : ValidH hs) {l : List Nat} (hl : ∀ x ∈ l, x < hs.length) : (comV hs l).1 ≤ (comV hs l).2 ↔ ∀ x ∈ l, ∀ y ∈ l, pairH hs x y = true := by
 have hk : ∀ x ∈ l, 0 ≤ (hs.getD x sn0).1 := fun x hx => (sn_at hV (hl x hx)).1.1
 obtain ⟨_, h1, h2⟩ := com_kind hk l.length (Nat.le_refl _)
 rw [List.take_length] at h1 h2
 unfold comV
 cases hf : offU hs l l.length with
 | true =>
  obtain ⟨x, hx, y, hy, hxy⟩ := h2 hf
  constructor
  · intro h
    exact absurd (show (1 : Int) ≤ 0 from h) (by decide)
  intro h
  have := (pairH_kin.1 (h x hx y hy)).1
  rw [hxy] at this; cases this
 | false =>
  obtain ⟨g1, g2⟩ := h1 hf
  have hlo := com_lo hs l (comU hs l l.length).2.2 l.length (Nat.le_refl _)
  have hhi : ∀ v, v ≤ (comU hs l l.length).2.2 ↔ _ := fun v => com_hi hs l v l.length (Nat.le_refl _)
  rw [List.take_length] at hlo
  simp only [List.take_length] at hhi
  show (comU hs l l.length).2.1 ≤ (comU hs l l.length).2.2 ↔ _
  rw [hlo, hhi]
  constructor
  · rintro ⟨_, h3⟩ x hx y hy
    have h4 := ((hhi _).1 (h3 x hx)).2 y hy
    have h5 := ((hhi _).1 (h3 y hy)).2 x hx
    refine pairH_kin.2 ⟨kinB_iff.2 ?_, h4, h5⟩
    rcases g1 x hx with e | e
    · exact .inr (.inl e)
    rcases g1 y hy with e2 | e2
    · exact .inr (.inr e2)
    exact .inl (by rw [e, e2])
  intro h
  refine ⟨⟨by decide, fun x hx => ?_⟩, fun x hx => (hhi _).2 ⟨?_, fun y hy => (pairH_kin.1 (h x hx y hy)).2.1⟩⟩
  · have := sn_at hV (hl x hx); omega
  have := sn_at hV (hl x hx); omega
def oneB (hs : List Sn) (l : List Nat) : Bool := decide ((comV hs l).1 ≤ (comV hs l).2)
theorem pairH_self {hs : List Sn} (hV : ValidH hs) {x : Nat} (hx : x < hs.length) : pairH hs x x = true := by
 have := sn_at hV hx
 exact pairH_kin.2 ⟨kinB_iff.2 (.inl rfl), by omega, by omega⟩
theorem pairH_comm (hs : List Sn) (x y : Nat) : pairH hs x y = pairH hs y x := pairX_comm _ _
theorem one_two {hs : List Sn} (hV : ValidH hs) {a b : Nat} (ha : a < hs.length) (hb : b < hs.length) : oneB hs [a, b] = pairH hs a b := by
 unfold oneB
 rw [Bool.eq_iff_iff, decide_eq_true_eq, one_iff hV (by simp [ha, hb])]
 constructor
 · exact fun h => h a (by simp) b (by simp)
 intro h x hx y hy
 simp only [List.mem_cons, List.not_mem_nil, or_false] at hx hy
 rcases hx with rfl | rfl <;> rcases hy with rfl | rfl
 · exact pairH_self hV ha
 · exact h
 · rw [pairH_comm]; exact h
 exact pairH_self hV hb
theorem one_bits {hs : List Sn} (hV : ValidH hs) {X : Nat} (hX : X < 2 ^ hs.length) : oneB hs (bitsL X) = (clR hs X).isNone := by
 have h8 := hV.n8
 unfold oneB
 rw [Bool.eq_iff_iff, decide_eq_true_eq, one_iff hV (fun x hx => bits_range (c := hs.length) (by omega) hX hx), Option.isNone_iff_eq_none, clR_none (c := hs.length) (by omega) hX]
 constructor
 · exact fun h a b hab ha hb => h a ((bitsL_mem (by omega) hX).2 ha) b ((bitsL_mem (by omega) hX).2 hb)
 intro h x hx y hy
 have hx' := (bitsL_mem (c := hs.length) (by omega) hX).1 hx
 have hy' := (bitsL_mem (c := hs.length) (by omega) hX).1 hy
 rcases Nat.lt_trichotomy x y with hxy | rfl | hxy
 · exact h x y hxy hx' hy'
 · exact pairH_self hV (bits_range (by omega) hX hx)
 rw [pairH_comm]; exact h y x hxy hy' hx'
theorem tal_lo (hs : List Sn) (l : List Nat) (v : Int) : ∀ i, i ≤ l.length → ((talU hs l i).1 ≤ v ↔ 0 ≤ v ∧ ∀ x ∈ l.take i, (hs.getD x sn0).2.1 ≤ v)
 | 0, _ => by show (0 : Int) ≤ v ↔ _; simp
 | i + 1, h => by
  have ih := tal_lo hs l v i (by omega)
  rw [talU_succ (by omega), take_succ' (by omega : i < l.length)]
  show max _ _ ≤ v ↔ _
  rw [Int.max_le, ih]
  constructor
  · rintro ⟨⟨h1, h2⟩, h3⟩
    refine ⟨h1, fun x hx => ?_⟩
    rcases List.mem_append.1 hx with hx | hx
    · exact h2 x hx
    rw [List.mem_singleton] at hx; subst hx; exact h3
  rintro ⟨h1, h2⟩
  exact ⟨⟨h1, fun x hx => h2 x (List.mem_append_left _ hx)⟩, h2 _ (List.mem_append_right _ (List.mem_singleton.2 rfl))⟩
theorem tal_hi (hs : List Sn) (l : List Nat) : ∀ i, i ≤ l.length → (talU hs l i).2 = (comU hs l i).2.2
 | 0, _ => rfl
 | i + 1, h => by
  rw [talU_succ (by omega), comU_succ (by omega)]
  show min _ _ = min _ _
  rw [tal_hi hs l i (by omega)]
theorem tal_com {hs : List Sn} (hV : ValidH hs) {l : List Nat} (hl : ∀ x ∈ l, x < hs.length) (hne : l ≠ []) : (talU hs l l.length).1 = (comU hs l l.length).2.1 := by
 have h1 := fun v => tal_lo hs l v l.length (Nat.le_refl _)
 have h2 := fun v => com_lo hs l v l.length (Nat.le_refl _)
 simp only [List.take_length] at h1 h2
 have key : ∀ v, (talU hs l l.length).1 ≤ v ↔ (comU hs l l.length).2.1 ≤ v := fun v => by
  rw [h1, h2]
  constructor
  · rintro ⟨_, h⟩
    obtain ⟨x, r, rfl⟩ := List.exists_cons_of_ne_nil hne
    have h3 := h x List.mem_cons_self
    have := sn_at hV (hl x List.mem_cons_self)
    exact ⟨by omega, h⟩
  rintro ⟨h3, h⟩; exact ⟨by omega, h⟩
 have a := (key _).1 (Int.le_refl _)
 have b := (key _).2 (Int.le_refl _)
 omega
end Go.Ab.MkF
namespace Go.Ab.MkF
open Go Go.Ab Go.Ab.Pln
def restL (n : Nat) (told : List Int) : List Nat := (List.range n).filter fun k => !(told.any fun x => x == (k : Int))
def tolK (e : Int) (n : Nat) (told : List Int) (i : Nat) : Int := if e ≠ 0 then e else if (told.take i).any (outB 0 ((n : Int) - 1)) then 4 else 0
def ascK (e : Int) (told : List Int) (i : Nat) : Int := if e ≠ 0 then e else if ((List.range i).all fun j => !ascB told j) then 0 else 2
abbrev tolE (hs : List Sn) (told : List Int) : Int := tolK (chHE hs) hs.length told told.length
structure Told (hs : List Sn) (told : List Int) (l : List Nat) : Prop where
 V : ValidH hs
 eq : told = natsV l
 lt : ∀ x ∈ l, x < hs.length
 asc : l.Pairwise (· < ·)
theorem Told.nodup {hs : List Sn} {told : List Int} {l : List Nat} (h : Told hs told l) : l.Nodup := h.asc.imp fun hab => by omega
theorem any_nats (l : List Nat) (k : Nat) : ((natsV l).any fun x => x == (k : Int)) = l.contains k := by
 rw [Bool.eq_iff_iff, List.any_eq_true, List.contains_iff_mem]
 constructor
 · rintro ⟨x, hx, he⟩
   obtain ⟨a, ha, rfl⟩ := List.mem_map.1 hx
   have : a = k := by have := eq_of_beq he; omega
   exact this ▸ ha
 exact fun h => ⟨(k : Int), List.mem_map.2 ⟨k, h, rfl⟩, by simp⟩
theorem Told.rest {hs : List Sn} {told : List Int} {l : List Nat} (h : Told hs told l) : restL hs.length told = bitsL (restN hs told) := by
 have h8 := h.V.n8
 rw [bitsL_below (c := hs.length) (by omega) (restN_lt hs told)]
 unfold restL
 apply List.filter_congr
 intro k hk
 rw [h.eq, any_nats]
 unfold restN
 rw [List.length_map, restU_test _ _ _ _ (Nat.le_refl _), List.take_length, decide_eq_true (List.mem_range.1 hk), Bool.true_and]
theorem Told.len {hs : List Sn} {told : List Int} {l : List Nat} (h : Told hs told l) : told.length ≤ hs.length := by
 rw [h.eq, List.length_map]
 have := List.Nodup.length_le_of_subset (l₂ := List.range hs.length) h.nodup fun x hx => List.mem_range.2 (h.lt x hx)
 simpa using this
theorem Told.all {hs : List Sn} {told : List Int} {l : List Nat} (h : Told hs told l) : told.length = hs.length ↔ restL hs.length told = [] := by
 have hll : told.length = l.length := by rw [h.eq, List.length_map]
 constructor
 · intro he
   unfold restL
   rw [List.filter_eq_nil_iff]
   intro k hk hn
   rw [h.eq, any_nats] at hn
   have hk := List.mem_range.1 hk
   have hnk : k ∉ l := fun hm => by rw [List.contains_iff_mem.2 hm] at hn; cases hn
   have := List.Nodup.length_le_of_subset (l₁ := k :: l) (l₂ := List.range hs.length) (List.nodup_cons.2 ⟨hnk, h.nodup⟩) fun x hx => by
    rcases List.mem_cons.1 hx with rfl | hx
    · exact List.mem_range.2 hk
    exact List.mem_range.2 (h.lt x hx)
   simp at this
   omega
 intro he
 have hle := h.len
 have := List.Nodup.length_le_of_subset (l₁ := List.range hs.length) (l₂ := l) List.nodup_range fun x hx => by
  unfold restL at he
  rw [List.filter_eq_nil_iff] at he
  have := he x hx
  rw [h.eq, any_nats] at this
  simpa using this
 simp at this
 omega
theorem bits_nil {X c : Nat} (hc : c ≤ 64) (hX : X < 2 ^ c) : bitsL X = [] ↔ X = 0 := by
 constructor
 · intro h
   apply Nat.eq_of_testBit_eq
   intro k
   rw [Nat.zero_testBit, Bool.eq_false_iff]
   intro hk
   have := (bitsL_mem hc hX).2 hk
   rw [h] at this; cases this
 rintro rfl; rfl
theorem clL_lt {hs : List Sn} {a b : Nat} : ∀ {l : List Nat}, l.Pairwise (· < ·) → clL hs l = some (a, b) → a < b
 | [], _, h => by simp [clL] at h
 | c :: r, hp, h => by
  obtain ⟨h1, h2⟩ := List.pairwise_cons.1 hp
  simp only [clL] at h
  cases hf : r.find? fun b => !pairH hs c b with
  | some d =>
   rw [hf] at h; cases h
   exact h1 _ (List.mem_of_find?_eq_some hf)
  | none =>
   rw [hf] at h
   exact clL_lt h2 h
theorem one_rest {hs : List Sn} {told : List Int} {l : List Nat} (h : Told hs told l) : oneB hs (restL hs.length told) = (clR hs (restN hs told)).isNone := by
 rw [h.rest, one_bits h.V (restN_lt hs told)]
theorem talV_ok {hs : List Sn} {told : List Int} {l : List Nat} (hk : restE hs told = 0) (h : Told hs told l) (hn : told.length ≠ hs.length) (ho : oneB hs (restL hs.length told) = true) :
  talV hs told = ((comV hs (restL hs.length told)).1, (comV hs (restL hs.length told)).2, 0) := by
 have h8 := h.V.n8
 have hne : restL hs.length told ≠ [] := fun e => hn (h.all.2 e)
 have hx : ∀ x ∈ restL hs.length told, x < hs.length := fun x hx => by
  rw [h.rest] at hx; exact bits_range (by omega) (restN_lt hs told) hx
 have hc := h.rest
 have h0 : (restN hs told == 0) = false := by
  rw [Bool.eq_false_iff]
  intro e
  exact hne (by rw [hc, eq_of_beq e]; rfl)
 have hio : (clR hs (restN hs told)).isSome = false := by
  rw [one_rest h] at ho
  cases hcl : clR hs (restN hs told) with
  | none => rfl
  | some p => rw [hcl] at ho; cases ho
 unfold talV
 rw [if_pos hk, hio, h0, if_neg (by simp), ← hc, tal_com h.V hx hne, tal_hi _ _ _ (Nat.le_refl _)]
 unfold oneB at ho
 have ho := of_decide_eq_true ho
 unfold comV at ho ⊢
 cases hf : offU hs (restL hs.length told) (restL hs.length told).length with
 | true => rw [hf] at ho; exact absurd (show (1 : Int) ≤ 0 from ho) (by decide)
 | false => rfl
theorem talV_no {hs : List Sn} {told : List Int} {l : List Nat} (hk : restE hs told = 0) (h : Told hs told l) (hn : told.length = hs.length ∨ oneB hs (restL hs.length told) = false) : talV hs told = (0, 0, 8) := by
 have h8 := h.V.n8
 unfold talV
 rw [if_pos hk, if_pos]
 rw [Bool.or_eq_true]
 rcases hn with e | e
 · have := h.all.1 e
   rw [h.rest, bits_nil (c := hs.length) (by omega) (restN_lt hs told)] at this
   exact .inr (by rw [this]; rfl)
 rw [one_rest h] at e
 left
 cases hcl : clR hs (restN hs told) with
 | none => rw [hcl] at e; cases e
 | some p => rfl
end Go.Ab.MkF
namespace Go.Ab.MkF
open Go Go.Ab Go.Ab.Pln Go.Proofs
set_option maxHeartbeats 1000000
set_option maxRecDepth 100000
noncomputable abbrev parH (gl : Gl) : Par S Unit := { par gl with hd := true }
theorem parH_ok (gl : Gl) (En : Env Unit) : ParOk PR gl (parH gl) En := { par_ok gl En with }
theorem join {p q : Prop} (h : Hold p → q) (hp : p) : q := h ⟨hp⟩
def inB (n a b : Int) : Bool := decide (a ≤ n) && decide (n ≤ b)
theorem inB_out (n a b : Int) : inB n a b = !outB a b n := by
 unfold inB outB
 rw [Bool.eq_iff_iff]
 simp [Int.not_lt]
def rgE (a b lo hi : Int) : Int := if (decide (min a b < lo) || decide (max a b > hi)) = true then 7 else if b < a then 2 else 0
theorem sn_eq (x : Sn) : snE x = if inB x.1 0 2 = true then rgE x.2.1 x.2.2 1 600 else 7 := by
 unfold snE rgE
 rw [inB_out]
 have h2 : [x.2.1, x.2.2].any (outB 1 600) = (decide (min x.2.1 x.2.2 < 1) || decide (max x.2.1 x.2.2 > 600)) := by
  rw [Bool.eq_iff_iff]
  simp [outB]
  omega
 have h1 : [x.1].any (outB 0 2) = outB 0 2 x.1 := by simp
 rw [h1, h2]
 cases outB 0 2 x.1 <;> simp
theorem c72 (gl : Gl) (n a b : Int) : PCalls PR gl 72 [vI n, vI a, vI b] fun r => r = vB (inB n a b) := by
 refine fnW_sound (par_ok gl) Tryd.func72 ?_
 conv => whnf
 refine bcase_iff.2 ⟨fun g1_3 => ?_, fun g1_3 => ?_⟩
 · have g : decide (a ≤ n) = true := g1_3
   conv => whnf
   unfold inB
   rw [g]
   rfl
 have g : decide (a ≤ n) = false := g1_3
 conv => whnf
 unfold inB
 rw [g]
 rfl
theorem op72 : Opens PR 72 := ⟨_, Tryd.func72, rfl, rfl⟩
theorem c101 (gl : Gl) (a b lo hi : Int) : PCalls PR gl 101 [.agg [vI a, vI b], vI lo, vI hi] fun r => r = vI (rgE a b lo hi) := by
 refine fnW_sound (par_ok gl) Tryd.func101 ?_
 conv => whnf
 refine bcase_iff.2 ⟨fun g1_7 => ?_, fun g1_7 => ?_⟩
 · rw [← min_lt] at g1_7
   have g : decide (min a b < lo) = true := g1_7
   conv => whnf
   unfold rgE
   rw [g, if_pos (by rfl)]
 rw [← min_lt] at g1_7
 have g : decide (min a b < lo) = false := g1_7
 conv => whnf
 refine bcase_iff.2 ⟨fun h1 => ?_, fun h1 => ?_⟩
 · rw [← max_gt] at h1
   have h1 : decide (max a b > hi) = true := h1
   conv => whnf
   unfold rgE
   rw [g, h1, if_pos (by rfl)]
 rw [← max_gt] at h1
 have h1 : decide (max a b > hi) = false := h1
 conv => whnf
 refine bcase_iff.2 ⟨fun h3 => ?_, fun h3 => ?_⟩
 · have h3 : b < a := of_decide_eq_true h3
   conv => whnf
   unfold rgE
   rw [g, h1, if_neg (by simp), if_pos h3]
 have h3 : ¬ b < a := of_decide_eq_false h3
 conv => whnf
 unfold rgE
 rw [g, h1, if_neg (by simp), if_neg h3]
theorem op101 : Opens PR 101 := ⟨_, Tryd.func101, rfl, rfl⟩
theorem c32 (gl : Gl) (hs : List Sn) (hl : hs.length ≤ 9223372036854775807) : PCalls PR gl 32 [.agg [snsV hs]] fun r => r = .tup [vI (chH hs).1, vI (chH hs).2] := by
 refine fnW_sound (par_ok gl) Tryd.func32 ?_
 conv => whnf
 refine byC (c72 gl _ _ _) op72 ?_
 conv => whnf
 refine bcase_iff.2 ⟨fun h1 => ?_, fun h1 => ?_⟩
 · have h1 : [(hs.length : Int)].any (outB 1 8) = true := by have h1 : (!inB (hs.length : Int) 1 8) = true := h1; rw [inB_out] at h1; simpa using h1
   conv => whnf
   unfold chH
   rw [if_pos h1]
 have h1 : [(hs.length : Int)].any (outB 1 8) = false := by have h1 : (!inB (hs.length : Int) 1 8) = false := h1; rw [inB_out] at h1; simpa using h1
 conv => whnf
 refine ⟨⟨18, [], []⟩, ?_⟩
 refine LoopW_ind _ (fun i : Nat => (({ tmps := [.undef, .own 1 [], .undef, .undef, vI i, .undef, .undef, .undef, .undef, .undef, .undef, .undef, .undef, .undef, .undef, .undef, .undef, .undef, .undef, .undef, .undef, .undef, .undef, .undef, .undef, .undef, .undef, .undef, .undef, .undef, .undef, .undef, .undef, .undef, .undef], seg := [(1, .cells [snsV hs])], up := [] } : St S))) (fun i : Nat => (i ≤ hs.length ∧ ∀ j, j < i → snF hs j = 0)) (fun i : Nat => (hs.length - i)) () ?_ 0 ⟨Nat.zero_le _, fun j h => absurd h (Nat.not_lt_zero j)⟩
 intro i hinv Z1 hZ1
 obtain ⟨hi, hd⟩ := hinv
 conv => whnf
 refine bcase_iff.2 ⟨fun h4 => ?_, fun h4 => ?_⟩
 · have hlt : i < hs.length := by have := of_decide_eq_true h4; omega
   have hw : IntKind.i64.wrap ((i : Int) + 1) = ((i + 1 : Nat) : Int) := wrap_nat (by omega)
   conv => whnf
   have hsn : snF hs i = if inB hs[i].1 0 2 = true then rgE hs[i].2.1 hs[i].2.2 1 600 else 7 := by unfold snF; rw [getD_at hlt, sn_eq]
   refine ⟨_, getI_nat hlt, ?_⟩
   conv => whnf
   refine byC (c101 gl _ _ _ _) op101 ?_
   conv => whnf
   refine byC (c72 gl _ _ _) op72 ?_
   conv => whnf
   refine bcase_iff.2 ⟨fun h8 => ?_, fun h8 => ?_⟩
   · have h8 : inB hs[i].1 0 2 = false := by have h8 : (!inB hs[i].1 0 2) = true := h8; simpa using h8
     rw [h8, if_neg (by simp)] at hsn
     conv => whnf
     unfold chH
     rw [h1, if_neg (by simp), firstR_at hlt hd (by rw [hsn]; decide), hsn]
   have h8 : inB hs[i].1 0 2 = true := by have h8 : (!inB hs[i].1 0 2) = false := h8; simpa using h8
   rw [h8, if_pos rfl] at hsn
   conv => whnf
   refine bcase_iff.2 ⟨fun h10 => ?_, fun h10 => ?_⟩
   · have h10 : snF hs i ≠ 0 := by rw [hsn]; have h10 : (rgE hs[i].2.1 hs[i].2.2 1 600 != 0) = true := h10; simpa using h10
     conv => whnf
     unfold chH
     rw [h1, if_neg (by simp), firstR_at hlt hd h10, hsn]
   have h10 : snF hs i = 0 := by rw [hsn]; have h10 : (rgE hs[i].2.1 hs[i].2.2 1 600 != 0) = false := h10; simpa using h10
   conv => whnf
   refine ⟨⟨18, [5, 1005, 2005, 3005, 4005], []⟩, ?_⟩
   conv => whnf
   rw [hw]
   exact hZ1 (i + 1) ⟨hlt, up_succ hd h10⟩ (by omega)
 have hge : i = hs.length := by have := of_decide_eq_false h4; omega
 conv => whnf
 subst hge
 unfold chH
 rw [h1, if_neg (by simp), firstR_no hd]
theorem op32 : Opens PR 32 := ⟨_, Tryd.func32, rfl, rfl⟩
theorem c57 (gl : Gl) (hs : List Sn) (hl : hs.length ≤ 9223372036854775807) : PCalls PR gl 57 [.agg [snsV hs]] fun r => r = vB (chHE hs == 0) := by
 refine fnW_sound (par_ok gl) Tryd.func57 ?_
 conv => whnf
 refine byC (c32 gl hs hl) op32 ?_
 conv => whnf
theorem op57 : Opens PR 57 := ⟨_, Tryd.func57, rfl, rfl⟩
end Go.Ab.MkF
namespace Go.Ab.MkF
open Go Go.Ab Go.Ab.Pln Go.Proofs
set_option maxHeartbeats 1000000
set_option maxRecDepth 100000
theorem remI {x m : Nat} (hx : x ≤ 255) : Int.tmod (IntKind.i64.wrap (x : Int)) (m : Int) = ((x % m : Nat) : Int) := by
 rw [show IntKind.i64.wrap (x : Int) = x from wrap_int (by omega) (by omega)]; rfl
theorem maxE (a b : Int) : (if a > b then a else b) = max b a := by rw [Int.max_def]; split <;> split <;> omega
theorem minE (a b : Int) : (if a < b then a else b) = min b a := by rw [Int.min_def]; split <;> split <;> omega
theorem remB {b i : Nat} (hb : b ≤ 255) (hi : i < 64) : (Int.tmod (shrI .i64 (IntKind.i64.wrap (b : Int)) (i : Int)) 2 == 1) = b.testBit i := by
 rw [show IntKind.i64.wrap (b : Int) = b from wrap_int (by omega) (by omega), shr_nat hi, show Int.tmod ((b / 2 ^ i : Nat) : Int) 2 = ((b / 2 ^ i % 2 : Nat) : Int) from rfl, Nat.testBit_eq_decide_div_mod_eq]
 generalize b / 2 ^ i % 2 = q
 by_cases h : q = 1
 · subst h; rfl
 rw [decide_eq_false h]
 simp
 omega
structure SetL (n X : Nat) (L : List Int) : Prop where
 lt : X < 2 ^ n
 n8 : n ≤ 8
 eq : L = natsV (bitsL X)
theorem SetL.len {n X : Nat} {L : List Int} (h : SetL n X L) : L.length = (bitsL X).length := by rw [h.eq, List.length_map]
theorem SetL.len8 {n X : Nat} {L : List Int} (h : SetL n X L) : L.length ≤ 8 := by
 have hp := p256 h.n8
 rw [h.len, bits_ones (by have := h.lt; omega)]
 exact onesN_le _
theorem SetL.get {n X i : Nat} {L : List Int} (h : SetL n X L) (hi : i < L.length) : ∃ k : Nat, getI L (i : Int) = some (k : Int) ∧ X.testBit k = true ∧ k < n := by
 obtain ⟨h1, h2, rfl⟩ := h
 rw [List.length_map] at hi
 have hm := List.getElem_mem hi
 exact ⟨(bitsL X)[i], getI_nats hi, (bitsL_mem (by omega) h1).1 hm, bits_range (by omega) h1 hm⟩
theorem SetL.has {n X : Nat} {L : List Int} (h : SetL n X L) (k : Nat) : (L.any fun x => x == (k : Int)) = X.testBit k := by rw [h.eq]; exact has_bits (c := n) (by have := h.n8; omega) h.lt
theorem c60s (gl : Gl) {n X : Nat} {L : List Int} (h : SetL n X L) (k : Nat) : PCalls PR gl 60 [vL L, vI k] fun r => r = vB (X.testBit k) := to (c60 gl L (by have := h.len8; omega) k) (by rw [h.has])
theorem notT {b : Bool} (h : (!b) = true) : b = false := by cases b; rfl; cases h
theorem c58 (gl : Gl) (b n : Nat) (hb : b ≤ 255) (hn : n ≤ 8) : PCalls PR gl 58 [.int .u8 b, vI n] fun r => r = vL (natsV (someL b n)) := by
 refine fnW_sound (par_ok gl) Tryd.func58 ?_
 conv => whnf
 refine ⟨⟨99, [4], [4, 5]⟩, ?_⟩
 refine LoopW_ind _ (fun i : Nat => (({ tmps := [.int .u8 b, vI n, .undef, .undef, .undef, .sl (S := S) U.int (natsV (someL b i)) (some 5), vI i, .undef, .undef, .undef, .undef, .undef, .undef, .undef, .undef, .undef, .undef, .undef, .undef, .undef, .undef, .undef, .undef], seg := [(5, .row U.int false)], up := [] } : St S))) (fun i : Nat => (i ≤ n)) (fun i : Nat => (n - i)) () ?_ 0 (Nat.zero_le _)
 intro i hi Z1 hZ1
 conv => whnf
 refine bcase_iff.2 ⟨fun h3 => ?_, fun h3 => ?_⟩
 · have hlt : i < n := by have := of_decide_eq_true h3; omega
   have hw : IntKind.i64.wrap ((i : Int) + 1) = ((i + 1 : Nat) : Int) := wrap_nat (by omega)
   conv => whnf
   refine ⟨by omega, ?_⟩
   conv => whnf
   refine ⟨by decide, ?_⟩
   conv => whnf
   refine bcase_iff.2 ⟨fun h5 => ?_, fun h5 => ?_⟩
   · have h5 : b.testBit i = true := by rw [← remB (b := b) (i := i) hb (by omega)]; exact h5
     conv => whnf
     refine ⟨_, rfl, ?_⟩
     conv => whnf
     refine ⟨lim (by have := nf_len b.testBit i; unfold someL; simp at this ⊢; omega), ?_⟩
     conv => whnf
     refine ⟨⟨99, [20, 21], []⟩, ?_⟩
     conv => whnf
     rw [hw]
     have hz := hZ1 (i + 1) hlt (by omega)
     rw [show natsV (someL b (i + 1)) = natsV (someL b i) ++ [(i : Int)] from nf_T h5] at hz
     exact hz
   have h5 : b.testBit i = false := by rw [← remB (b := b) (i := i) hb (by omega)]; exact h5
   conv => whnf
   refine ⟨⟨99, [20, 21], []⟩, ?_⟩
   conv => whnf
   rw [hw, show someL b i = someL b (i + 1) from by unfold someL; rw [List.range_succ, List.filter_append]; simp [h5]]
   exact hZ1 (i + 1) hlt (by omega)
 have hge : i = n := by have := of_decide_eq_false h3; omega
 conv => whnf
 rw [hge]
theorem op58 : Opens PR 58 := ⟨_, Tryd.func58, rfl, rfl⟩
theorem some_all {n b : Nat} (hn : n ≤ 8) (hb : b ≤ 255) : ∃ L, SetL n (b % 2 ^ n) L ∧ PCalls PR glT 58 [.int .u8 b, vI n] fun r => r = vL L :=
 ⟨natsV (someL b n), ⟨Nat.mod_lt _ (Nat.two_pow_pos n), hn, by rw [someL_bits b n (by omega)]⟩, c58 glT b n hb hn⟩
end Go.Ab.MkF
namespace Go.Ab.MkF
open Go Go.Ab Go.Ab.Pln Go.Proofs
set_option maxHeartbeats 1000000
set_option maxRecDepth 100000
theorem natsV_at {l : List Nat} {i : Nat} (h : i < l.length) : getI (natsV l) (i : Int) = some ((l[i] : Nat) : Int) := getI_nats h
theorem c116 (gl : Gl) (hs : List Sn) (l : List Nat) (hx : ∀ x ∈ l, x < hs.length) (hll : l.length ≤ 1000) : PCalls PR gl 116 [.agg [snsV hs], vL (natsV l)] fun r => r = .agg [vI (comV hs l).1, vI (comV hs l).2] := by
 refine fnW_sound (parH_ok gl) Tryd.func116 ?_
 conv => whnf
 refine ⟨?_⟩
 conv => whnf
 refine ⟨?_⟩
 conv => whnf
 refine ⟨?_⟩
 conv => whnf
 refine ⟨?_⟩
 conv => whnf
 refine ⟨⟨246, [], []⟩, ?_⟩
 refine LoopW_ind _ (fun i : Nat => (({ tmps := [.undef, vL (natsV l), .own 2 [], .undef, .own 4 [], .own 5 [], vI (comU hs l i).1, vI i, .undef, .undef, .undef, .undef, .undef, .undef, .undef, .undef, .undef, .undef, .undef, .undef, .undef, .undef, .undef, .undef, .undef, .undef, .undef, .undef, .undef, .undef, .undef, .undef, .undef, .undef, .undef, .undef, .undef, .undef, .undef, .undef, .undef, .undef, .undef, .undef, .undef, .undef, .undef, .undef, .undef, .undef, .undef, .undef, .undef, .undef, .undef, .undef], seg := [(2, .cells [snsV hs]), (4, .cells [vI 0, vI 0]), (5, .cells [vI (comU hs l i).2.1, vI (comU hs l i).2.2])], up := [] } : St S))) (fun i : Nat => (i ≤ l.length ∧ offU hs l i = false)) (fun i : Nat => (l.length - i)) () ?_ 0 ⟨Nat.zero_le _, rfl⟩
 intro i hinv Z1 hZ1
 obtain ⟨hi, hof0⟩ := hinv
 conv => whnf
 refine ⟨?_⟩
 conv => whnf
 refine bcase_iff.2 ⟨fun h4 => ?_, fun h4 => ?_⟩
 · have hlt : i < l.length := by have := of_decide_eq_true h4; rw [natsV_len] at this; omega
   have hw : IntKind.i64.wrap ((i : Int) + 1) = ((i + 1 : Nat) : Int) := wrap_nat (by omega)
   have hy := hx _ (List.getElem_mem hlt)
   have hys : hs.getD l[i] sn0 = hs[l[i]] := getD_at hy
   have hob := offU_succ (hs := hs) hlt
   rw [hof0, Bool.false_or] at hob
   conv => whnf
   refine ⟨[0, 1, 2, 3, 4, 5, 6, 7, 8, 9], [8], [], [], ⟨72057594037927935, [], []⟩, by decide +kernel, ?_⟩
   conv => whnf
   refine ⟨_, natsV_at hlt, ?_⟩
   conv => whnf
   refine ⟨_, getI_nat hy, ?_⟩
   conv => whnf
   refine ⟨?_⟩
   conv => whnf
   refine bcase_iff.2 ⟨fun g7_3 => ?_, fun g7_3 => ?_⟩
   · have g3 : decide (hs[l[i]].1 > 0) = true := g7_3
     conv => whnf
     refine bcase_iff.2 ⟨fun g7_7 => ?_, fun g7_7 => ?_⟩
     · have g7 : decide ((comU hs l i).1 > 0) = true := g7_7
       conv => whnf
       refine bcase_iff.2 ⟨fun h7 => ?_, fun h7 => ?_⟩
       · have hb : offB hs (comU hs l i) l[i] = true := by unfold offB; rw [hys, g3, g7]; exact h7
         conv => whnf
         refine ⟨?_⟩
         conv => whnf
         unfold comV
         rw [if_pos (offU_at hlt hb)]
       have hb : offB hs (comU hs l i) l[i] = false := by unfold offB; rw [hys, g3, g7]; exact h7
       conv => whnf
       refine ⟨?_⟩
       conv => whnf
       refine ⟨?_⟩
       conv => whnf
       refine ⟨?_⟩
       conv => whnf
       refine ⟨⟨246, [8, 1008, 2008, 3008, 4008], []⟩, ?_⟩
       conv => whnf
       rw [hw, maxE, maxE, minE]
       have hz := hZ1 (i + 1) ⟨hlt, by rw [hob, hb]⟩ (by omega)
       rw [comU_succ hlt] at hz
       unfold comS at hz
       rw [hys] at hz
       exact hz
     have g7 : decide ((comU hs l i).1 > 0) = false := g7_7
     have hb : offB hs (comU hs l i) l[i] = false := by unfold offB; rw [hys, g3, g7]; rfl
     conv => whnf
     refine ⟨?_⟩
     conv => whnf
     refine ⟨?_⟩
     conv => whnf
     refine ⟨?_⟩
     conv => whnf
     refine ⟨⟨246, [8, 1008, 2008, 3008, 4008], []⟩, ?_⟩
     conv => whnf
     rw [hw, maxE, maxE, minE]
     have hz := hZ1 (i + 1) ⟨hlt, by rw [hob, hb]⟩ (by omega)
     rw [comU_succ hlt] at hz
     unfold comS at hz
     rw [hys] at hz
     exact hz
   have g3 : decide (hs[l[i]].1 > 0) = false := g7_3
   have hb : offB hs (comU hs l i) l[i] = false := by unfold offB; rw [hys, g3]; rfl
   conv => whnf
   refine ⟨?_⟩
   conv => whnf
   refine ⟨?_⟩
   conv => whnf
   refine ⟨?_⟩
   conv => whnf
   refine ⟨⟨246, [8, 1008, 2008, 3008, 4008], []⟩, ?_⟩
   conv => whnf
   rw [hw, maxE, maxE, minE]
   have hz := hZ1 (i + 1) ⟨hlt, by rw [hob, hb]⟩ (by omega)
   rw [comU_succ hlt] at hz
   unfold comS at hz
   rw [hys] at hz
   exact hz
 have hge : i = l.length := by have := of_decide_eq_false h4; rw [natsV_len] at this; omega
 conv => whnf
 refine ⟨?_⟩
 conv => whnf
 subst hge
 unfold comV
 rw [hof0, if_neg (by simp)]
theorem op116 : Opens PR 116 := ⟨_, Tryd.func116, rfl, rfl⟩
theorem c61 (gl : Gl) (hs : List Sn) (l : List Nat) (hx : ∀ x ∈ l, x < hs.length) (hll : l.length ≤ 1000) : PCalls PR gl 61 [.agg [snsV hs], vL (natsV l)] fun r => r = vB (oneB hs l) := by
 refine fnW_sound (par_ok gl) Tryd.func61 ?_
 conv => whnf
 refine byC (c116 gl hs l hx hll) op116 ?_
 conv => whnf
 rfl
theorem op61 : Opens PR 61 := ⟨_, Tryd.func61, rfl, rfl⟩
end Go.Ab.MkF
namespace Go.Ab.MkF
open Go Go.Ab Go.Ab.Pln Go.Proofs
set_option maxHeartbeats 1000000
set_option maxRecDepth 100000
theorem proV_bad {hs : List Sn} {told : List Int} (h : chHE hs ≠ 0) : proV hs told = (0, 0, chHE hs) := by
 have hr : restE hs told = chHE hs := by unfold restE; rw [if_neg h]
 unfold proV
 rw [hr, if_neg h]
theorem SetL.told {hs : List Sn} (hV : ValidH hs) {X : Nat} {L : List Int} (h : SetL hs.length X L) : restE hs L = 0 ∧ Told hs L (bitsL X) := by
 have h8 := hV.n8
 exact ⟨by rw [h.eq]; exact restE_set hV h.lt, hV, h.eq, fun x hx => bits_range (by omega) h.lt hx, bits_asc (by omega) h.lt⟩
theorem rest_mem {hs : List Sn} (_hV : ValidH hs) {X : Nat} {L : List Int} (h : SetL hs.length X L) {i : Nat} : i ∈ restL hs.length L ↔ i < hs.length ∧ X.testBit i = false := by
 unfold restL
 rw [List.mem_filter, List.mem_range, h.has]
 simp
theorem prv_cases {hs : List Sn} (hV : ValidH hs) {X : Nat} {L : List Int} (h : SetL hs.length X L) :
  (∃ a c : Nat, a < c ∧ c < hs.length ∧ X.testBit a = false ∧ X.testBit c = false ∧ pairH hs a c = false ∧ proV hs L = ((a : Int), (c : Int), 0) ∧ talV hs L = (0, 0, 8)) ∨
  (proV hs L = (0, 0, 8) ∧ (∀ a c : Nat, a < hs.length → c < hs.length → X.testBit a = false → X.testBit c = false → pairH hs a c = true) ∧ ((L.length = hs.length ∧ talV hs L = (0, 0, 8)) ∨
   (L.length ≠ hs.length ∧ ∃ lo hi : Int, talV hs L = (lo, hi, 0) ∧ lo ≤ hi ∧ ∀ i (hi' : i < hs.length), X.testBit i = false → hs[i].2.1 ≤ lo ∧ hi ≤ hs[i].2.2))) := by
 have h8 := hV.n8
 obtain ⟨hk, hT⟩ := h.told hV
 have hr := restN_set h8 h.lt
 have hrl := rest_lt hs.length X
 have hmem : ∀ x ∈ restL hs.length L, x < hs.length := fun x hx => ((rest_mem hV h).1 hx).1
 have hpv := proV_set hV h.lt
 rw [← h.eq] at hpv hr
 cases hc : clR hs (less (2 ^ hs.length - 1) X) with
 | some p =>
  obtain ⟨a, c⟩ := p
  rw [hc] at hpv
  obtain ⟨g1, g2, g3⟩ := clL_some hc
  have hbm := fun {a} => bitsL_mem (c := hs.length) (n := less (2 ^ hs.length - 1) X) (a := a) (by omega) hrl
  have k1 := hbm.1 g1
  have k2 := hbm.1 g2
  rw [rest_test, Bool.and_eq_true, decide_eq_true_eq, Bool.not_eq_true'] at k1 k2
  refine .inl ⟨a, c, clL_lt (bits_asc (c := hs.length) (by omega) hrl) hc, k2.1, k1.2, k2.2, g3, hpv, talV_no hk hT (.inr ?_)⟩
  rw [one_rest hT, hr, hc]
  rfl
 | none =>
  rw [hc] at hpv
  have hone : oneB hs (restL hs.length L) = true := by rw [one_rest hT, hr, hc]; rfl
  have hi1 := hone
  unfold oneB at hi1
  have hi1 := of_decide_eq_true hi1
  have hall := (one_iff hV hmem).1 hi1
  refine .inr ⟨hpv, fun a c ha hc' h1 h2 => hall a ((rest_mem hV h).2 ⟨ha, h1⟩) c ((rest_mem hV h).2 ⟨hc', h2⟩), ?_⟩
  by_cases hn : L.length = hs.length
  · exact .inl ⟨hn, talV_no hk hT (.inl hn)⟩
  refine .inr ⟨hn, _, _, talV_ok hk hT hn hone, hi1, fun i hi hx => ?_⟩
  have hm := (rest_mem hV h).2 ⟨hi, hx⟩
  unfold comV
  cases hf : offU hs (restL hs.length L) (restL hs.length L).length with
  | true =>
   unfold comV at hi1
   rw [hf] at hi1
   exact absurd (show (1 : Int) ≤ 0 from hi1) (by decide)
  | false =>
   have q1 := ((com_lo hs (restL hs.length L) _ _ (Nat.le_refl _)).1 (Int.le_refl _)).2 i (by rw [List.take_length]; exact hm)
   have q2 := ((com_hi hs (restL hs.length L) _ _ (Nat.le_refl _)).1 (Int.le_refl _)).2 i (by rw [List.take_length]; exact hm)
   rw [getD_at hi] at q1 q2
   exact ⟨q1, q2⟩
theorem c11 (hs : List Sn) (hl : hs.length ≤ 9223372036854775807) (B : Int) (hB : 0 ≤ B ∧ B ≤ 255) (Wl : List Int) (hW : Wl.length = 2) (hwb : ∀ q, 0 ≤ Wl.getD q 0 ∧ Wl.getD q 0 ≤ 255) : PCalls PR glT 11 [.agg [snsV hs], .int .u8 B, .agg [.arr (S := S) U.u8 2 Wl]] fun r => r = vB true := by
 obtain ⟨b, rfl⟩ : ∃ n : Nat, B = (n : Int) := ⟨B.toNat, by omega⟩
 have hb : b ≤ 255 := by omega
 obtain ⟨u, hu⟩ : ∃ x : Nat, Wl.getD 0 0 = (x : Int) := ⟨(Wl.getD 0 0).toNat, by have := hwb 0; omega⟩
 obtain ⟨v, hv⟩ : ∃ x : Nat, Wl.getD 1 0 = (x : Int) := ⟨(Wl.getD 1 0).toNat, by have := hwb 1; omega⟩
 have hu2 := hwb 0
 have hv2 := hwb 1
 rw [hu] at hu2
 rw [hv] at hv2
 refine fnW_sound (parH_ok glT) Tryd.func11 ?_
 conv => whnf
 refine ⟨?_⟩
 conv => whnf
 refine ⟨?_⟩
 conv => whnf
 rcases Classical.em (chHE hs = 0) with hk | hk
 · have hV := chH_valid.1 hk
   have h8 := hV.n8
   have hn1 := hV.n1
   obtain ⟨LO, hO, h58⟩ := some_all (n := hs.length) h8 hb
   have hO8 := hO.len8
   have h39 := c39 hs LO hl (by omega)
   have h41 := c41 hs LO hl (by omega)
   refine byC (to (c57 glT hs hl) (by rw [hk]; rfl : vB (chHE hs == 0) = vB true)) op57 ?_
   conv => whnf
   refine ⟨?_⟩
   conv => whnf
   refine byC h58 op58 ?_
   conv => whnf
   refine ⟨?_⟩
   conv => whnf
   rcases prv_cases hV hO with ⟨a, c, hac, hcn, hXa, hXc, hpn, hpv, htv⟩ | ⟨hpv, hpa, ⟨hn, htv⟩ | ⟨hn, lo, hi, htv, hlh, hle⟩⟩
   · refine byC (to h39 (by rw [hpv])) op39 ?_
     conv => whnf
     refine ⟨?_⟩
     conv => whnf
     refine byC (to h41 (by rw [htv])) op41 ?_
     conv => whnf
     refine ⟨?_⟩
     conv => whnf
     refine ⟨?_⟩
     conv => whnf
     refine bcase_iff.2 ⟨fun g8_7 => ?_, fun g8_7 => ?_⟩
     · conv => whnf
       refine bcase_iff.2 ⟨fun g8_14 => ?_, fun g8_14 => ?_⟩
       · conv => whnf
         refine byC (to (c60s glT hO a) (by rw [hXa])) op60 ?_
         conv => whnf
         refine byC (to (c60s glT hO c) (by rw [hXc])) op60 ?_
         conv => whnf
         refine ⟨_, rfl, ?_⟩
         conv => whnf
         refine ⟨_, rfl, ?_⟩
         conv => whnf
         refine byC (to (c61 glT hs [a, c] (by simp; omega) (by simp)) (by rw [one_two hV (by omega) hcn, hpn])) op61 ?_
         conv => whnf
         refine byC c27 op27 ?_
         conv => whnf
         all_goals rfl
       exfalso
       have g : ¬ ((c : Int) < (hs.length : Int)) := of_decide_eq_false g8_14
       omega
     exfalso
     have g : ¬ ((a : Int) < (c : Int)) := of_decide_eq_false g8_7
     omega
   · refine byC (to h39 (by rw [hpv])) op39 ?_
     conv => whnf
     refine ⟨?_⟩
     conv => whnf
     refine byC (to h41 (by rw [htv])) op41 ?_
     conv => whnf
     refine ⟨?_⟩
     conv => whnf
     refine ⟨?_⟩
     conv => whnf
     refine ⟨?_⟩
     conv => whnf
     refine bcase_iff.2 ⟨fun h11 => ?_, fun h11 => ?_⟩
     · conv => whnf
       refine ⟨?_⟩
       conv => whnf
       refine byC c27 op27 ?_
       conv => whnf
       all_goals rfl
     exfalso
     have h11 : ((LO.length : Int) == (hs.length : Int)) = false := h11
     rw [hn] at h11
     simp at h11
   refine byC (to h39 (by rw [hpv])) op39 ?_
   conv => whnf
   refine ⟨?_⟩
   conv => whnf
   refine byC (to h41 (by rw [htv])) op41 ?_
   conv => whnf
   refine ⟨?_⟩
   conv => whnf
   refine ⟨?_⟩
   conv => whnf
   refine ⟨?_⟩
   conv => whnf
   refine bcase_iff.2 ⟨fun h11 => ?_, fun h11 => ?_⟩
   · exact absurd (Int.ofNat.inj (eq_of_beq h11)) hn
   conv => whnf
   refine ⟨[0, 1, 2, 3, 4, 5, 6, 7, 8, 9, 10, 11, 12, 13, 14, 15], [], [], [], ⟨784637716923335095479473677900958302012794430558004314111, [], []⟩, by decide +kernel, ?_⟩
   conv => whnf
   refine ⟨by omega, by omega, ?_⟩
   conv => whnf
   refine ⟨(u : Int), (by have h := getI_D (l := Wl) (i := 0) (by omega); rw [hu] at h; exact h), ?_⟩
   conv => whnf
   refine ⟨by omega, ?_⟩
   conv => whnf
   refine ⟨by omega, by omega, ?_⟩
   conv => whnf
   refine ⟨(v : Int), (by have h := getI_D (l := Wl) (i := 1) (by omega); rw [hv] at h; exact h), ?_⟩
   conv => whnf
   obtain ⟨i1, hi1⟩ : ∃ i, u % hs.length = i := ⟨_, rfl⟩
   obtain ⟨i2, hi2⟩ : ∃ i, v % hs.length = i := ⟨_, rfl⟩
   have hl1 : i1 < hs.length := by rw [← hi1]; exact Nat.mod_lt _ (by omega)
   have hl2 : i2 < hs.length := by rw [← hi2]; exact Nat.mod_lt _ (by omega)
   refine ⟨by omega, ?_⟩
   conv => whnf
   apply join
   · intro hJ19
     conv => whnf
     refine ⟨?_⟩
     conv => whnf
     rw [remI (x := u) (m := hs.length) (by omega), remI (x := v) (m := hs.length) (by omega)]
     conv => whnf
     rw [hi1, hi2]
     conv => whnf
     refine byC (c60s glT hO i1) op60 ?_
     conv => whnf
     refine bcase_iff.2 ⟨fun g14_4 => ?_, fun g14_4 => ?_⟩
     · have q1 : (b % 2 ^ hs.length).testBit i1 = false := notT g14_4
       conv => whnf
       refine byC (c60s glT hO i2) op60 ?_
       conv => whnf
       refine bcase_iff.2 ⟨fun g14_10 => ?_, fun g14_10 => ?_⟩
       · have q2 : (b % 2 ^ hs.length).testBit i2 = false := notT g14_10
         conv => whnf
         refine ⟨_, rfl, ?_⟩
         conv => whnf
         refine ⟨_, rfl, ?_⟩
         conv => whnf
         refine byC (to (c61 glT hs [i1, i2] (by simp [hl1, hl2]) (by simp)) (by rw [one_two hV hl1 hl2, hpa i1 i2 hl1 hl2 q1 q2])) op61 ?_
         conv => whnf
         refine ⟨?_⟩
         conv => whnf
         refine bcase_iff.2 ⟨fun h16 => ?_, fun h16 => ?_⟩
         · exfalso
           have g : lo > hi := of_decide_eq_true h16
           clear hJ19
           omega
         conv => whnf
         refine ⟨?_⟩
         conv => whnf
         refine ⟨⟨279560, [5, 144], []⟩, ?_⟩
         conv => whnf
         exact hJ19.go
       conv => whnf
       refine ⟨?_⟩
       conv => whnf
       refine bcase_iff.2 ⟨fun h16 => ?_, fun h16 => ?_⟩
       · exfalso
         have g : lo > hi := of_decide_eq_true h16
         clear hJ19
         omega
       conv => whnf
       refine ⟨?_⟩
       conv => whnf
       refine ⟨⟨279560, [5], []⟩, ?_⟩
       conv => whnf
       exact hJ19.go
     conv => whnf
     refine ⟨?_⟩
     conv => whnf
     refine bcase_iff.2 ⟨fun h16 => ?_, fun h16 => ?_⟩
     · exfalso
       have g : lo > hi := of_decide_eq_true h16
       clear hJ19
       omega
     conv => whnf
     refine ⟨?_⟩
     conv => whnf
     refine ⟨⟨279560, [5], []⟩, ?_⟩
     conv => whnf
     exact hJ19.go
   refine LoopW_ind _ (fun i : Nat => (({ tmps := [.undef, .undef, .undef, .own 3 [], .undef, .undef, .undef, .undef, .undef, .undef, vL LO, .undef, .undef, .undef, .own 14 [], .undef, .undef, .undef, vI i, .undef, .undef, .undef, .undef, .undef, .undef, .undef, .undef, .undef, .undef, .undef, .undef, .undef, .undef, .undef, .undef, .undef, .undef, .undef, .undef, .undef, .undef, .undef, .undef, .undef, .undef, .undef, .undef, .undef, .undef, .undef, .undef, .undef, .undef, .undef, .undef, .undef, .undef, .undef, .undef, .undef, .undef, .undef, .undef, .undef, .undef, .undef, .undef, .undef, .undef, .undef, .undef, .undef, .undef, .undef, .undef, .undef, .undef, .undef, .undef, .undef, .undef, .undef, .undef, .undef, .undef, .undef, .undef, .undef, .undef, .undef, .undef, .undef, .undef, .undef, .undef, .undef, .undef, .undef, .undef, .undef, .undef, .undef, .undef, .undef, .undef, .undef, .undef, .undef, .undef, .undef, .undef, .undef, .undef, .undef, .undef, .undef, .undef, .undef, .undef, .undef, .undef, .undef, .undef, .undef, .undef, .undef, .undef, .undef, .undef, .undef, .undef, .undef, .undef, .undef, .undef, .undef, .undef, .undef, .undef, .undef, .undef, .undef, .undef, .undef, .undef, .undef, .undef, .undef, .undef, .undef, .undef, .undef, .undef, .undef, .undef, .undef, .undef, .undef, .undef, .undef, .undef, .undef, .undef, .undef, .undef, .undef, .undef, .undef, .undef, .undef, .undef, .undef, .undef, .undef, .undef, .undef, .undef, .undef, .undef, .undef, .undef, .undef, .undef, .undef, .undef, .undef, .undef, .undef, .undef], seg := [(3, .cells [snsV hs]), (14, .cells [vI lo, vI hi])], up := [] } : St S))) (fun i : Nat => (i ≤ hs.length)) (fun i : Nat => (hs.length - i)) () ?_ 0 (Nat.zero_le _)
   intro i hi Z1 hZ1
   conv => whnf
   refine ⟨?_⟩
   conv => whnf
   refine bcase_iff.2 ⟨fun h19 => ?_, fun h19 => ?_⟩
   · have hlt : i < hs.length := by have := of_decide_eq_true h19; omega
     have hw : IntKind.i64.wrap ((i : Int) + 1) = ((i + 1 : Nat) : Int) := wrap_nat (by omega)
     conv => whnf
     refine ⟨?_⟩
     conv => whnf
     refine ⟨_, getI_nat hlt, ?_⟩
     conv => whnf
     refine ⟨?_⟩
     conv => whnf
     refine byC (c60s glT hO i) op60 ?_
     conv => whnf
     refine bcase_iff.2 ⟨fun g22_4 => ?_, fun g22_4 => ?_⟩
     · have q : (b % 2 ^ hs.length).testBit i = false := notT g22_4
       have hq := hle i hlt q
       conv => whnf
       refine bcase_iff.2 ⟨fun g22_10 => ?_, fun g22_10 => ?_⟩
       · exfalso
         have g := of_decide_eq_true g22_10
         omega
       conv => whnf
       refine bcase_iff.2 ⟨fun h22 => ?_, fun h22 => ?_⟩
       · exfalso
         have g := of_decide_eq_true h22
         omega
       conv => whnf
       refine ⟨?_⟩
       conv => whnf
       refine ⟨⟨279560, [19, 1019, 2019, 3019, 4019], []⟩, ?_⟩
       conv => whnf
       rw [hw]
       exact hZ1 (i + 1) hlt (by omega)
     conv => whnf
     refine ⟨?_⟩
     conv => whnf
     refine ⟨⟨279560, [19, 1019, 2019, 3019, 4019], []⟩, ?_⟩
     conv => whnf
     rw [hw]
     exact hZ1 (i + 1) hlt (by omega)
   have hge : i = hs.length := by have := of_decide_eq_false h19; omega
   conv => whnf
   refine ⟨?_⟩
   conv => whnf
   refine byC c27 op27 ?_
   conv => whnf
   all_goals rfl
 have hpb := proV_bad (told := []) hk
 generalize hE : chHE hs = E at hk hpb
 refine byC (to (c57 glT hs hl) (by rw [hE, show (E == 0) = false from by simpa using hk] : vB (chHE hs == 0) = vB false)) op57 ?_
 conv => whnf
 refine ⟨?_⟩
 conv => whnf
 refine byC (to (c39 hs [] hl (by simp)) (by rw [hpb])) op39 ?_
 conv => whnf
 refine ⟨?_⟩
 conv => whnf
 refine bcase_iff.2 ⟨fun g3_2 => ?_, fun g3_2 => ?_⟩
 · conv => whnf
   refine byC c27 op27 ?_
   conv => whnf
   all_goals rfl
 exfalso
 have g : (E != 0) = false := g3_2
 exact hk (by simpa using g)
end Go.Ab.MkF
namespace Go.Ab.MkF
open Go Go.Ab Go.Proofs Go.Proofs.YtmchcpmkadhmjaaDoor Go.ChangeShapes Go.WideShapes Go.ChangeAt Go.RowKit
theorem post_same {H : Type} {enc : TypeId × Value → H} {P : Program} {f : Func} {s : ChangeSpec} {apart fresh handsOn again : Bool} {W W' : World} {args : Array Value} {v : Value} {ds gs : List (DataW H)} {before pa pv : List MemPlace}
  (hW : DataW.Whole enc P f.params.toList s.vars apart W args.toList ds gs before)
  (hres : ∀ (b : Nat) (sp : Nat → Bool) (hd : Bool), DataW.TrodAll enc P W' b sp hd f.resultTypes.toList (v.resultList f.resultTypes.size) (s.fn H (ds ++ gs)).results [])
  (hargs : ∀ sp : Nat → Bool, (∀ p ∈ before, sp p.block = true) → DataW.TrodAll enc P W' 0 sp true f.params.toList args.toList (s.fn H (ds ++ gs)).args pa)
  (hvars : ∀ sp : Nat → Bool, (∀ p ∈ before, sp p.block = true) → DataW.TrodVars enc P W' sp s.vars (s.fn H (ds ++ gs)).vars pv)
  (hps : before = pa ++ pv) (hk : W.keptBut W' (· ∈ before)) (hfz : ∀ a, a.block < W.heap.size → W'.frozen? a = W.frozen? a)
  (hok : ∀ (j : Nat) (t : TypeId) (r : Value), f.resultTypes[j]? = some t → (v.resultList f.resultTypes.size)[j]? = some r → Value.okWide P W' .any 0 t r) :
  s.post enc P f apart fresh handsOn again W args v W' := by
 have hlt := hW.lt
 have hold : ∀ p ∈ before, (fun b => decide (b < W.heap.size)) p.block = true := fun p hp => by simpa using hlt p hp
 refine ⟨ds, gs, before, [], pa, pv, hW, hres _ _ _, hargs _ hold, hvars _ hold, World.keptBut_mono (fun p hp => ⟨hp, ?_⟩) hk, fun _ => ?_⟩
 · rw [hps, List.mem_append] at hp
   exact Or.inr hp
 obtain ⟨_, _, _, _, _, hz, hn⟩ := hW
 refine ⟨hok, _, _, ([] ++ pa) ++ pv, ⟨[] ++ pa, pv, trodAll_append (hargs _ (fun _ _ => rfl)) (hres _ _ _), hvars _ (fun _ _ => rfl), rfl, ?_, ?_⟩, ?_⟩
 · intro b off hp
   have hp' : MemPlace.cell b off ∈ before := by rw [hps]; simpa using hp
   rw [hfz _ (hlt _ hp')]
   exact hz b off hp'
 · intro ha
   have := hn ha
   rw [hps] at this
   simpa using this
 intro p hp _
 rw [hps]
 simpa using hp
theorem grow_kept {w w' : World} (h : Grow w w') (may : MemPlace → Prop) : w.keptBut w' may := by
 refine ⟨h.os, h.output, fun i hi => ?_⟩
 rw [h.block i hi]
 cases w.heap[i]? with
 | none => trivial
 | some o => cases o <;> simp
theorem grow_fz {w w' : World} (h : Grow w w') (a : Addr) (ha : a.block < w.heap.size) : w'.frozen? a = w.frozen? a := by
 unfold World.frozen?
 rw [h.block _ ha]
theorem gTab : Tryd.prog.globalNamed "math/bits.deBruijn64tab" = some 1 := by kernel_rfl
theorem gTabType : (Tryd.prog.globals[1]?).map (·.type) = some 198 := by kernel_rfl
theorem cells198 : Tryd.prog.cellsOf 198 = 64 := by kernel_rfl
theorem cells5 : Tryd.prog.cellsOf 5 = 1 := by kernel_rfl
theorem laid_glT {W : World} (h : laidMetH Tryd.prog [("math/bits.deBruijn32tab", Rows.laid_math_bits_deBruijn32tab), ("math/bits.deBruijn64tab", Rows.laid_math_bits_deBruijn64tab)] W) : glT.G W := by
 have h1 := laidMetH.filter (fun x => x.1 == "math/bits.deBruijn64tab") h
 have e : ([("math/bits.deBruijn32tab", Rows.laid_math_bits_deBruijn32tab), ("math/bits.deBruijn64tab", Rows.laid_math_bits_deBruijn64tab)] : List (String × DataW Unit)).filter (fun x => x.1 == "math/bits.deBruijn64tab") = [("math/bits.deBruijn64tab", Rows.laid_math_bits_deBruijn64tab)] := by rfl
 rw [e, Go.MakeChecks.laidMetH_plain _ _ _ (by kernel_rfl)] at h1
 have ht : Lib.TabIs Tryd.prog W "math/bits.deBruijn64tab" .u8 (Lib.deBruijn64tab.map fun n : Nat => (n : Int)) := Lib.tabIs_of_head (rest := []) gTab gTabType Tryd.underlying198 Tryd.underlying5 cells5 cells198 h1
 have hc : TabAt 1 Lib.deBruijn64tab W := fun j hj => by
  have := ht.cell gTab j (by simpa using hj)
  rw [this]
  simp [List.getD, hj]
 refine ⟨?_, hc⟩
 have := hc 0 (by decide)
 rcases Nat.lt_or_ge 1 W.heap.size with hlt | hge
 · exact hlt
 exfalso
 have hn : W.heap[1]? = none := Array.getElem?_eq_none hge
 simp [World.cell?, hn] at this
def tab32 : List Int := [0, 1, 28, 2, 29, 14, 24, 3, 30, 22, 20, 15, 25, 17, 4, 8, 31, 27, 13, 23, 21, 19, 16, 7, 26, 12, 18, 6, 11, 5, 10, 9]
def tab64 : List Int := [0, 1, 56, 2, 57, 49, 28, 3, 61, 58, 42, 50, 38, 29, 17, 4, 62, 47, 59, 36, 45, 43, 51, 22, 53, 39, 33, 30, 24, 18, 12, 5, 63, 55, 48, 27, 60, 41, 37, 16, 46, 35, 44, 21, 52, 32, 23, 11, 54, 26, 40, 15, 34, 20, 31, 10, 25, 14, 19, 9, 13, 8, 7, 6]
def setTab (zs : List Int) : Obj → Obj
 | .cells _ t frozen => .cells (zs.map fun n => Value.int .u8 n).toArray t frozen
 | o => o
def tabWorld (w : World) : World := { w with heap := (w.heap.modify 0 (setTab tab32)).modify 1 (setTab tab64) }
end Go.Ab.MkF
namespace Go.Ab.MkF
open Go Go.Ab Go.Proofs
set_option maxRecDepth 100000
theorem kids : Kids Tryd.prog (· < Tryd.prog.types.size) := kids_rows (by kernel_rfl) (by kernel_rfl)
theorem full : ∀ t e, t < Tryd.prog.types.size → Tryd.prog.underlying t = some (.slice e) → 0 < Tryd.prog.cellsOf e := slices_full_of Tryd.prog (by kernel_rfl)
theorem zc3 : Tryd.prog.cellsOf 3 = 1 := by kernel_rfl
theorem zc5 : Tryd.prog.cellsOf 5 = 1 := by kernel_rfl
theorem zc46 : Tryd.prog.cellsOf 46 = 1 := by kernel_rfl
theorem zc48 : Tryd.prog.cellsOf 48 = 1 := by kernel_rfl
theorem zc57 : Tryd.prog.cellsOf 57 = 2 := by kernel_rfl
theorem zc82 : Tryd.prog.cellsOf 82 = 2 := by kernel_rfl
theorem zc84 : Tryd.prog.cellsOf 84 = 3 := by kernel_rfl
abbrev B63 : Nat := 9223372036854775807
section
variable {H : Type} {enc : TypeId × Value → H} {w : World}
theorem oInt : OpA S enc Tryd.prog w 3 fun cl => ∃ n : Int, cl = Cod.enc (S := S) U.int n ∧ IntKind.i64.min ≤ n ∧ n ≤ IntKind.i64.max :=
 (OpA.int Tryd.underlying3).mono fun _ ⟨n, h, h1⟩ => ⟨n, h, h1⟩
theorem oByte : OpA S enc Tryd.prog w 5 fun cl => ∃ n : Int, cl = Cod.enc (S := S) U.u8 n ∧ IntKind.u8.min ≤ n ∧ n ≤ IntKind.u8.max :=
 (OpA.int Tryd.underlying5).mono fun _ ⟨n, h, h1⟩ => ⟨n, h, h1⟩
theorem oByteV : OpA S enc Tryd.prog w 5 fun cl => ∃ n : Int, cl = [.int .u8 n] ∧ 0 ≤ n ∧ n ≤ 255 := oByte.mono fun _ ⟨n, h, h1⟩ => ⟨n, h, h1⟩
theorem oSpan : OpA S enc Tryd.prog w 57 fun cl => ∃ a b : Int, cl = [vI a, vI b] := by
 refine (OpA.struct (Rs := [_, _]) Tryd.underlying57 ⟨rfl, _, _, rfl, oInt, by rw [zc3], _, _, rfl, oInt, by rw [zc3, zc57], rfl⟩).mono ?_
 rintro cl ⟨a, b, rfl, ⟨n, rfl, _⟩, e, f, rfl, ⟨m, rfl, _⟩, rfl⟩
 exact ⟨n, m, rfl⟩
theorem oSn : OpA S enc Tryd.prog w 84 fun cl => ∃ y : Sn, cl = Cod.enc (S := S) U.seen y ∧ True := by
 refine (OpA.struct (Rs := [_, _]) Tryd.underlying84 ⟨rfl, _, _, rfl, oInt, by rw [zc3], _, _, rfl, oSpan, by rw [zc3, zc57, zc84], rfl⟩).mono ?_
 rintro cl ⟨a, b, rfl, ⟨n, rfl, _⟩, e, f, rfl, ⟨m, k, rfl⟩, rfl⟩
 exact ⟨(n, m, k), rfl, trivial⟩
theorem oSns : OpA S enc Tryd.prog w 46 fun cl => ∃ ys : List Sn, cl = [snsV ys] ∧ ys.length ≤ B63 ∧ ∀ y ∈ ys, True :=
 OpA.slice (S := S) (u := U.seen) Tryd.underlying46 zc84 oSn
theorem oHand : OpA S enc Tryd.prog w 48 fun cl => ∃ ys : List Sn, cl = [snsV ys] ∧ ys.length ≤ B63 := by
 refine (OpA.struct (Rs := [_]) Tryd.underlying48 ⟨rfl, _, _, rfl, oSns, by rw [zc46, zc48], rfl⟩).mono ?_
 rintro cl ⟨a, b, rfl, ⟨ys, rfl, h, _⟩, rfl⟩
 exact ⟨ys, rfl, h⟩
theorem arr_b {l : List Int} (h : ∀ y ∈ l, 0 ≤ y ∧ y ≤ 255) (q : Nat) : 0 ≤ l.getD q 0 ∧ l.getD q 0 ≤ 255 := by
 rcases Nat.lt_or_ge q l.length with hq | hq
 · rw [getD_at hq]; exact h _ (List.getElem_mem hq)
 rw [List.getD_eq_getElem?_getD, List.getElem?_eq_none hq]; decide
theorem oDuo : OpA S enc Tryd.prog w 82 fun cl => ∃ l : List Int, cl = [.arr (S := S) U.u8 2 l] ∧ l.length = 2 ∧ ∀ q, 0 ≤ l.getD q 0 ∧ l.getD q 0 ≤ 255 := by
 refine (OpA.array (S := S) (u := U.u8) Tryd.underlying82 (by rw [zc82, zc5]) oByte).mono ?_
 rintro cl ⟨ys, rfl, hl, h⟩
 exact ⟨ys, rfl, hl, arr_b h⟩
end
abbrev noHand : Value := .agg #[.slice none 0 0]
end Go.Ab.MkF
