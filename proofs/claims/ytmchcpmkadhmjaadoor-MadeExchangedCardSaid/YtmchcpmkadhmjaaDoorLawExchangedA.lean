/-
  THE MADE FAMILY, PLAIN LAW, PART N: which plans there are.
  THE MADE FAMILY, PART RA: the reference: a hand.
  THE MADE FAMILY, PART RB: the reference: a leaf of a set.
  THE MADE FAMILY, PART RC: the reference: Check.
  THE MADE FAMILY, PART RG: the reference: what a set has.
  THE MADE FAMILY, PLAIN LAW, PART O: which hosts there are; for all of them there are plans.
  THE MADE FAMILY, PLAIN LAW, PART Q: the best way is the least one.
  THE MADE FAMILY, PLAIN LAW, PART S: what Whole returns: the least of all ways.
  THE MADE FAMILY, PART PD: a copy that gets a leaf: what it is worth.
  THE MADE FAMILY, PLAIN LAW, PART T: both kinds exchanged.
  THE MADE FAMILY, PLAIN LAW, PART U: the copies the other way round.
  THE MADE FAMILY, PART LI: MadeExchanged.
  THE MADE FAMILY: WHAT ALL ITS CARDS NEED: from a contract of the engine to the given statements' form.
  THE MADE FAMILY: the arguments of its laws, read as ours.
  THE MADE FAMILY: a set, read as ours.
-/
import Derived.Test.YtmchcpmkadhmjaaDoorCards
import Derived.Test.YtmchcpmkadhmjaaDoorTie
import Derived.WalkKit
import Derived.ProofKit
import Derived.OpenShut
import Derived.Deep.DeepHandedRow
import Derived.Lib.LaidTab
import Derived.LaidSub
import Derived.MakeChecks
import Derived.ChangeBears
import Derived.Test.YtmchcpmkadhmjaaDoorMadeB
import Derived.Test.YtmchcpmkadhmjaaDoorMadeA
import Derived.Test.YtmchcpmkadhmjaaDoorEngD
namespace Go.Ab.MkF
abbrev υ : AV S := .undef
end Go.Ab.MkF
namespace Go.Ab.MkF
open Go Go.Ab Go.Ab.Pln
def erl (i l c x : Nat) : Prop := c < i ∨ (c = i ∧ x < l)
theorem erl_succ {i l c x : Nat} : erl i (l + 1) c x ↔ erl i l c x ∨ (c = i ∧ x = l) := by unfold erl; omega
structure PlP (n : Nat) (cs : List Cp) (H : List Int) (i l : Nat) (P : Tb) (g : List Nat) : Prop where
 t : Tb46 P
 z : ∀ c x, ¬ (c < cs.length ∧ x < n ∧ H.getD c 0 ≠ 0 ∧ erl i l c x) → get2 P c x = 0
 own : ∀ c x, c < cs.length → x < n → H.getD c 0 ≠ 0 → erl i l c x → hasI cs c x = H.getD c 0 → get2 P c x = (c : Int)
 don : ∀ c x, c < cs.length → x < n → H.getD c 0 ≠ 0 → erl i l c x → hasI cs c x ≠ H.getD c 0 → ∃ d : Nat, d < cs.length ∧ get2 P c x = (d : Int) ∧ hasI cs d x = H.getD c 0 ∧ H.getD d 0 ≠ H.getD c 0
 inj : ∀ c c' x, c < cs.length → c' < cs.length → x < n → H.getD c 0 ≠ 0 → H.getD c' 0 ≠ 0 → erl i l c x → erl i l c' x → c ≠ c' → get2 P c x ≠ get2 P c' x
 gl : g.length = 4
 g : ∀ d x, x < n → d < cs.length → ((g.getD d 0).testBit x = true ↔ ∃ c, c < cs.length ∧ H.getD c 0 ≠ 0 ∧ erl i l c x ∧ hasI cs c x ≠ H.getD c 0 ∧ get2 P c x = (d : Int))
structure PlOk (n : Nat) (cs : List Cp) (H : List Int) (Q : Tb) : Prop where
 t : Tb46 Q
 out : ∀ c x, ¬ (c < cs.length ∧ x < n) → get2 Q c x = 0
 own : ∀ c x, c < cs.length → x < n → H.getD c 0 ≠ 0 → hasI cs c x = H.getD c 0 → get2 Q c x = (c : Int)
 don : ∀ c x, c < cs.length → x < n → H.getD c 0 ≠ 0 → hasI cs c x ≠ H.getD c 0 → ∃ d : Nat, d < cs.length ∧ get2 Q c x = (d : Int) ∧ hasI cs d x = H.getD c 0 ∧ H.getD d 0 ≠ H.getD c 0
 inj : ∀ c c' x, c < cs.length → c' < cs.length → x < n → H.getD c 0 ≠ 0 → H.getD c' 0 ≠ 0 → c ≠ c' → get2 Q c x ≠ get2 Q c' x
 keep : ∀ c x, c < cs.length → x < n → H.getD c 0 = 0 → hasI cs c x > 0 → (∀ c', c' < cs.length → H.getD c' 0 ≠ 0 → get2 Q c' x ≠ (c : Int)) → get2 Q c x = (c : Int)
 none : ∀ c x, c < cs.length → x < n → H.getD c 0 = 0 → ¬ (hasI cs c x > 0 ∧ ∀ c', c' < cs.length → H.getD c' 0 ≠ 0 → get2 Q c' x ≠ (c : Int)) → get2 Q c x = -1
def Agr (n : Nat) (cs : List Cp) (H : List Int) (i l : Nat) (Q P : Tb) : Prop := ∀ c x, c < cs.length → x < n → H.getD c 0 ≠ 0 → erl i l c x → get2 Q c x = get2 P c x
section
variable {n : Nat} {cs : List Cp} {H : List Int} {i l : Nat} {P Q : Tb} {g : List Nat}
theorem PlP.next (hl : l = n ∨ H.getD i 0 = 0) : PlP n cs H i l P g → PlP n cs H (i + 1) 0 P g := fun h => by
 have e : ∀ {c x}, x < n → H.getD c 0 ≠ 0 → (erl (i + 1) 0 c x ↔ erl i l c x) := fun {c x} hx hc => by
  unfold erl
  constructor
  · rintro (h1 | ⟨_, h1⟩)
    · rcases Nat.lt_or_eq_of_le (Nat.le_of_lt_succ h1) with h2 | rfl
      · exact .inl h2
      rcases hl with rfl | hl
      · exact .inr ⟨rfl, hx⟩
      exact absurd hl hc
    omega
  rintro (h1 | ⟨h1, _⟩) <;> exact .inl (by omega)
 exact ⟨h.t, fun c x hn => h.z c x fun ⟨a1, a2, a3, a4⟩ => hn ⟨a1, a2, a3, (e a2 a3).2 a4⟩, fun c x a1 a2 a3 a4 => h.own c x a1 a2 a3 ((e a2 a3).1 a4), fun c x a1 a2 a3 a4 => h.don c x a1 a2 a3 ((e a2 a3).1 a4),
  fun c c' x a1 a2 a3 a4 a5 a6 a7 => h.inj c c' x a1 a2 a3 a4 a5 ((e a3 a4).1 a6) ((e a3 a5).1 a7), h.gl, fun d x a1 a2 => (h.g d x a1 a2).trans
   ⟨fun ⟨c, b1, b2, b3, b4⟩ => ⟨c, b1, b2, (e a1 b2).2 b3, b4⟩, fun ⟨c, b1, b2, b3, b4⟩ => ⟨c, b1, b2, (e a1 b2).1 b3, b4⟩⟩⟩
theorem Agr.next (hl : l = n ∨ H.getD i 0 = 0) : Agr n cs H (i + 1) 0 Q P ↔ Agr n cs H i l Q P := by
 have e : ∀ {c x}, x < n → H.getD c 0 ≠ 0 → (erl (i + 1) 0 c x ↔ erl i l c x) := fun {c x} hx hc => by
  unfold erl
  constructor
  · rintro (h1 | ⟨_, h1⟩)
    · rcases Nat.lt_or_eq_of_le (Nat.le_of_lt_succ h1) with h2 | rfl
      · exact .inl h2
      rcases hl with rfl | hl
      · exact .inr ⟨rfl, hx⟩
      exact absurd hl hc
    omega
  rintro (h1 | ⟨h1, _⟩) <;> exact .inl (by omega)
 exact ⟨fun h c x a1 a2 a3 a4 => h c x a1 a2 a3 ((e a2 a3).2 a4), fun h c x a1 a2 a3 a4 => h c x a1 a2 a3 ((e a2 a3).1 a4)⟩
theorem PlP.get (h : PlP n cs H i l P g) (hi : i < cs.length) (hm : cs.length ≤ 4) (hl : l < n) (hn : n ≤ 6) (v : Int) (c x : Nat) : get2 (set2 P i l v) c x = if i = c ∧ l = x then v else get2 P c x := get2_set2 h.t (by omega) (by omega) c x
theorem Agr.set (h : PlP n cs H i l P g) (hi : i < cs.length) (hm : cs.length ≤ 4) (hl : l < n) (hn : n ≤ 6) (hH : H.getD i 0 ≠ 0) {v : Int} : Agr n cs H i (l + 1) Q (set2 P i l v) ↔ Agr n cs H i l Q P ∧ get2 Q i l = v := by
 have hg := h.get hi hm hl hn v
 constructor
 · intro ha
   refine ⟨fun c x a1 a2 a3 a4 => ?_, ?_⟩
   · have := ha c x a1 a2 a3 (erl_succ.2 (.inl a4))
     rw [hg, if_neg (fun e => by unfold erl at a4; omega)] at this
     exact this
   have := ha i l hi hl hH (erl_succ.2 (.inr ⟨rfl, rfl⟩))
   rw [hg, if_pos ⟨rfl, rfl⟩] at this
   exact this
 rintro ⟨ha, hv⟩ c x a1 a2 a3 a4
 rw [hg]
 by_cases e : i = c ∧ l = x
 · rw [if_pos e, ← hv, e.1, e.2]
 rw [if_neg e]
 rcases erl_succ.1 a4 with a4 | a4
 · exact ha c x a1 a2 a3 a4
 exact absurd ⟨a4.1.symm, a4.2.symm⟩ e
theorem PlP.mine (h : PlP n cs H i l P g) (hi : i < cs.length) (hm : cs.length ≤ 4) (hl : l < n) (hn : n ≤ 6) (hH : H.getD i 0 ≠ 0) (ho : hasI cs i l = H.getD i 0) : PlP n cs H i (l + 1) (set2 P i l (i : Int)) g := by
 have hg := h.get hi hm hl hn (i : Int)
 have hnot : ∀ {c x}, erl i l c x → ¬ (i = c ∧ l = x) := fun a e => by unfold erl at a; omega
 refine ⟨h.t.set2 _ _ _, fun c x hz => ?_, fun c x a1 a2 a3 a4 a5 => ?_, fun c x a1 a2 a3 a4 a5 => ?_, fun c c' x a1 a2 a3 a4 a5 a6 a7 a8 => ?_, h.gl, fun d x a1 a2 => ?_⟩
 · rw [hg, if_neg]
   · exact h.z c x fun ⟨b1, b2, b3, b4⟩ => hz ⟨b1, b2, b3, erl_succ.2 (.inl b4)⟩
   rintro ⟨rfl, rfl⟩; exact hz ⟨hi, hl, hH, erl_succ.2 (.inr ⟨rfl, rfl⟩)⟩
 · rw [hg]
   by_cases e : i = c ∧ l = x
   · rw [if_pos e, e.1]
   rw [if_neg e]
   rcases erl_succ.1 a4 with a4 | a4
   · exact h.own c x a1 a2 a3 a4 a5
   exact absurd ⟨a4.1.symm, a4.2.symm⟩ e
 · rcases erl_succ.1 a4 with a4 | ⟨rfl, rfl⟩
   · rw [hg, if_neg (hnot a4)]; exact h.don c x a1 a2 a3 a4 a5
   exact absurd ho a5
 · have key : ∀ {c'}, c' < cs.length → H.getD c' 0 ≠ 0 → erl i l c' l → i ≠ c' → (i : Int) ≠ get2 P c' l := fun {c'} b1 b2 b3 b4 e => by
    by_cases b5 : hasI cs c' l = H.getD c' 0
    · rw [h.own c' l b1 hl b2 b3 b5] at e; omega
    · obtain ⟨d, c1, c2, c3, c4⟩ := h.don c' l b1 hl b2 b3 b5
      rw [c2] at e
      obtain rfl : i = d := by omega
      exact c4 (by rw [← ho, c3])
   rw [hg, hg]
   rcases erl_succ.1 a6 with a6 | ⟨rfl, rfl⟩
   · rw [if_neg (hnot a6)]
     rcases erl_succ.1 a7 with a7 | ⟨rfl, rfl⟩
     · rw [if_neg (hnot a7)]; exact h.inj c c' x a1 a2 a3 a4 a5 a6 a7 a8
     rw [if_pos ⟨rfl, rfl⟩]; exact (key a1 a4 a6 (Ne.symm a8)).symm
   rw [if_pos ⟨rfl, rfl⟩]
   rcases erl_succ.1 a7 with a7 | ⟨rfl, _⟩
   · rw [if_neg (hnot a7)]; exact key a2 a5 a7 a8
   exact absurd rfl a8
 rw [h.g d x a1 a2]
 constructor
 · rintro ⟨c, b1, b2, b3, b4, b5⟩
   exact ⟨c, b1, b2, erl_succ.2 (.inl b3), b4, by rw [hg, if_neg (hnot b3)]; exact b5⟩
 rintro ⟨c, b1, b2, b3, b4, b5⟩
 rcases erl_succ.1 b3 with b3 | ⟨rfl, rfl⟩
 · rw [hg, if_neg (hnot b3)] at b5; exact ⟨c, b1, b2, b3, b4, b5⟩
 exact absurd ho b4
theorem PlP.give (h : PlP n cs H i l P g) (hi : i < cs.length) (hm : cs.length ≤ 4) (hl : l < n) (hn : n ≤ 6) (hH : H.getD i 0 ≠ 0) (ho : hasI cs i l ≠ H.getD i 0) {d : Nat} (hd : d < cs.length) (h1 : hasI cs d l = H.getD i 0) (h2 : H.getD d 0 ≠ H.getD i 0)
  (h3 : (g.getD d 0).testBit l = false) : PlP n cs H i (l + 1) (set2 P i l (d : Int)) (g.set d (g.getD d 0 ||| 2 ^ l)) := by
 have hg := h.get hi hm hl hn (d : Int)
 have hnot : ∀ {c x}, erl i l c x → ¬ (i = c ∧ l = x) := fun a e => by unfold erl at a; omega
 refine ⟨h.t.set2 _ _ _, fun c x hz => ?_, fun c x a1 a2 a3 a4 a5 => ?_, fun c x a1 a2 a3 a4 a5 => ?_, fun c c' x a1 a2 a3 a4 a5 a6 a7 a8 => ?_, by rw [List.length_set]; exact h.gl, fun e x a1 a2 => ?_⟩
 · rw [hg, if_neg]
   · exact h.z c x fun ⟨b1, b2, b3, b4⟩ => hz ⟨b1, b2, b3, erl_succ.2 (.inl b4)⟩
   rintro ⟨rfl, rfl⟩; exact hz ⟨hi, hl, hH, erl_succ.2 (.inr ⟨rfl, rfl⟩)⟩
 · rcases erl_succ.1 a4 with a4 | ⟨rfl, rfl⟩
   · rw [hg, if_neg (hnot a4)]; exact h.own c x a1 a2 a3 a4 a5
   exact absurd a5 ho
 · rcases erl_succ.1 a4 with a4 | ⟨rfl, rfl⟩
   · rw [hg, if_neg (hnot a4)]; exact h.don c x a1 a2 a3 a4 a5
   rw [hg, if_pos ⟨rfl, rfl⟩]; exact ⟨d, hd, rfl, h1, h2⟩
 · have key : ∀ {c'}, c' < cs.length → H.getD c' 0 ≠ 0 → erl i l c' l → (d : Int) ≠ get2 P c' l := fun {c'} b1 b2 b3 e => by
    by_cases b5 : hasI cs c' l = H.getD c' 0
    · rw [h.own c' l b1 hl b2 b3 b5] at e
      obtain rfl : d = c' := by omega
      exact h2 (by rw [← b5, h1])
    · have := (h.g d l hl hd).2 ⟨c', b1, b2, b3, b5, e.symm⟩
      rw [this] at h3; cases h3
   rw [hg, hg]
   rcases erl_succ.1 a6 with a6 | ⟨rfl, rfl⟩
   · rw [if_neg (hnot a6)]
     rcases erl_succ.1 a7 with a7 | ⟨rfl, rfl⟩
     · rw [if_neg (hnot a7)]; exact h.inj c c' x a1 a2 a3 a4 a5 a6 a7 a8
     rw [if_pos ⟨rfl, rfl⟩]; exact (key a1 a4 a6).symm
   rw [if_pos ⟨rfl, rfl⟩]
   rcases erl_succ.1 a7 with a7 | ⟨rfl, _⟩
   · rw [if_neg (hnot a7)]; exact key a2 a5 a7
   exact absurd rfl a8
 have hgl := h.gl
 have hset : (g.set d (g.getD d 0 ||| 2 ^ l)).getD e 0 = if d = e then g.getD d 0 ||| 2 ^ l else g.getD e 0 := by
  by_cases q : d = e
  · subst q; rw [getD_set_self (by omega), if_pos rfl]
  rw [getD_set_ne q, if_neg q]
 rw [hset]
 have old := h.g e x a1 a2
 constructor
 · intro hb
   have hb : (g.getD e 0).testBit x = true ∨ (d = e ∧ l = x) := by
    by_cases q : d = e
    · subst q
      rw [if_pos rfl, Nat.testBit_or, Nat.testBit_two_pow, Bool.or_eq_true, decide_eq_true_eq] at hb
      exact hb.imp id fun h => ⟨rfl, h⟩
    rw [if_neg q] at hb; exact .inl hb
   rcases hb with hb | ⟨rfl, rfl⟩
   · obtain ⟨c, b1, b2, b3, b4, b5⟩ := old.1 hb
     exact ⟨c, b1, b2, erl_succ.2 (.inl b3), b4, by rw [hg, if_neg (hnot b3)]; exact b5⟩
   exact ⟨i, hi, hH, erl_succ.2 (.inr ⟨rfl, rfl⟩), ho, by rw [hg, if_pos ⟨rfl, rfl⟩]⟩
 rintro ⟨c, b1, b2, b3, b4, b5⟩
 have hb : (g.getD e 0).testBit x = true ∨ (d = e ∧ l = x) := by
  rcases erl_succ.1 b3 with b3 | ⟨rfl, rfl⟩
  · rw [hg, if_neg (hnot b3)] at b5; exact .inl (old.2 ⟨c, b1, b2, b3, b4, b5⟩)
  rw [hg, if_pos ⟨rfl, rfl⟩] at b5; exact .inr ⟨by omega, rfl⟩
 by_cases q : d = e
 · subst q
   rw [if_pos rfl, Nat.testBit_or, Nat.testBit_two_pow, Bool.or_eq_true, decide_eq_true_eq]
   exact hb.imp id fun h => h.2
 rw [if_neg q]
 rcases hb with hb | hb
 · exact hb
 exact absurd hb.1 q
end
theorem leafR_get {cs : List Cp} {H : List Int} {g : List Nat} {Q : Tb} (h : Tb46 Q) {c : Nat} (hc : c < 4) (a x : Nat) : ∀ l, l ≤ 6 → get2 (leafR cs H g Q c l) a x = if a = c ∧ x < l ∧ ¬ H.getD c 0 > 0 then (if decide (hasI cs c x > 0) && !(g.getD c 0).testBit x then (c : Int) else -1) else get2 Q a x
 | 0, _ => by rw [if_neg (by omega)]; rfl
 | l + 1, hl => by
  have ih := leafR_get (cs := cs) (H := H) (g := g) h hc a x l (by omega)
  simp only [leafR]
  by_cases hp : H.getD c 0 > 0
  · rw [if_pos hp, ih, if_neg (fun e => e.2.2 hp), if_neg (fun e => e.2.2 hp)]
  rw [if_neg hp, get2_set2 (leafR_ok h c l) hc (by omega)]
  by_cases e : c = a ∧ l = x
  · obtain ⟨rfl, rfl⟩ := e
    rw [if_pos ⟨rfl, rfl⟩, if_pos (show c = c ∧ l < l + 1 ∧ ¬ H.getD c 0 > 0 from ⟨rfl, by omega, hp⟩)]
  rw [if_neg e, ih]
  by_cases e2 : a = c ∧ x < l ∧ ¬ H.getD c 0 > 0
  · rw [if_pos e2, if_pos (show a = c ∧ x < l + 1 ∧ ¬ H.getD c 0 > 0 from ⟨e2.1, by omega, hp⟩)]
  rw [if_neg e2, if_neg fun q => e2 ⟨q.1, by omega, hp⟩]
theorem leafU_get {n : Nat} {cs : List Cp} {H : List Int} {g : List Nat} {P : Tb} (h : Tb46 P) (hn : n ≤ 6) (a x : Nat) : ∀ c, c ≤ 4 → get2 (leafU n cs H g P c) a x = if a < c ∧ x < n ∧ ¬ H.getD a 0 > 0 then (if decide (hasI cs a x > 0) && !(g.getD a 0).testBit x then (a : Int) else -1) else get2 P a x
 | 0, _ => by rw [if_neg (by omega)]; rfl
 | c + 1, hc => by
  have ih := leafU_get (cs := cs) (H := H) (g := g) h hn a x c (by omega)
  simp only [leafU]
  rw [leafR_get (leafU_ok h c) (by omega) a x n hn]
  by_cases e : a = c ∧ x < n ∧ ¬ H.getD c 0 > 0
  · obtain ⟨rfl, e2, e3⟩ := e
    rw [if_pos (show a = a ∧ x < n ∧ ¬ H.getD a 0 > 0 from ⟨rfl, e2, e3⟩), if_pos (show a < a + 1 ∧ x < n ∧ ¬ H.getD a 0 > 0 from ⟨by omega, e2, e3⟩)]
  rw [if_neg e, ih]
  by_cases e2 : a < c ∧ x < n ∧ ¬ H.getD a 0 > 0
  · rw [if_pos e2, if_pos (show a < c + 1 ∧ x < n ∧ ¬ H.getD a 0 > 0 from ⟨by omega, e2.2⟩)]
  rw [if_neg e2, if_neg]
  rintro ⟨q1, q2, q3⟩
  rcases Nat.lt_or_eq_of_le (Nat.le_of_lt_succ q1) with q | rfl
  · exact e2 ⟨q, q2, q3⟩
  exact e ⟨rfl, q2, q3⟩
theorem plan_leaf {n : Nat} {cs : List Cp} {H : List Int} {P Q : Tb} {g : List Nat} (hm : cs.length ≤ 4) (hn : n ≤ 6) (hH : ∀ c, 0 ≤ H.getD c 0) (h : PlP n cs H cs.length 0 P g) : Q = leafU n cs H g P cs.length ↔ PlOk n cs H Q ∧ Agr n cs H cs.length 0 Q P := by
 have hget := fun a x => leafU_get (cs := cs) (H := H) (g := g) h.t hn a x cs.length hm
 have he : ∀ {c x}, c < cs.length → erl cs.length 0 c x := fun hc => .inl hc
 have hpos : ∀ c, H.getD c 0 ≠ 0 ↔ H.getD c 0 > 0 := fun c => by have := hH c; omega
 have hhost : ∀ c x, H.getD c 0 ≠ 0 → get2 (leafU n cs H g P cs.length) c x = get2 P c x := fun c x hc => by rw [hget, if_neg fun e => e.2.2 ((hpos c).1 hc)]
 have hrest : ∀ c x, c < cs.length → x < n → H.getD c 0 = 0 → get2 (leafU n cs H g P cs.length) c x = if decide (hasI cs c x > 0) && !(g.getD c 0).testBit x then (c : Int) else -1 := fun c x a1 a2 a3 => by rw [hget, if_pos ⟨a1, a2, by omega⟩]
 have hgive : ∀ c x, c < cs.length → x < n → H.getD c 0 = 0 → ((g.getD c 0).testBit x = false ↔ ∀ c', c' < cs.length → H.getD c' 0 ≠ 0 → get2 P c' x ≠ (c : Int)) := fun c x a1 a2 a3 => by
  rw [Bool.eq_false_iff, Ne, h.g c x a2 a1]
  constructor
  · intro hno c' b1 b2 b3
    by_cases b4 : hasI cs c' x = H.getD c' 0
    · rw [h.own c' x b1 a2 b2 (he b1) b4] at b3
      obtain rfl : c' = c := by omega
      exact b2 a3
    exact hno ⟨c', b1, b2, he b1, b4, b3⟩
  rintro hall ⟨c', b1, b2, _, _, b5⟩
  exact hall c' b1 b2 b5
 have hok : PlOk n cs H (leafU n cs H g P cs.length) := by
  refine ⟨leafU_ok h.t _, fun c x hn => ?_, fun c x a1 a2 a3 a4 => ?_, fun c x a1 a2 a3 a4 => ?_, fun c c' x a1 a2 a3 a4 a5 a6 => ?_, fun c x a1 a2 a3 a4 a5 => ?_, fun c x a1 a2 a3 a4 => ?_⟩
  · rw [hget, if_neg fun e => hn ⟨e.1, e.2.1⟩]; exact h.z c x fun e => hn ⟨e.1, e.2.1⟩
  · rw [hhost c x a3]; exact h.own c x a1 a2 a3 (he a1) a4
  · rw [hhost c x a3]; exact h.don c x a1 a2 a3 (he a1) a4
  · rw [hhost c x a4, hhost c' x a5]; exact h.inj c c' x a1 a2 a3 a4 a5 (he a1) (he a2) a6
  · rw [hrest c x a1 a2 a3, decide_eq_true a4, (hgive c x a1 a2 a3).2 fun c' b1 b2 => by have := a5 c' b1 b2; rwa [hhost c' x b2] at this]
    rfl
  rw [hrest c x a1 a2 a3]
  by_cases b : hasI cs c x > 0
  · have hb : (g.getD c 0).testBit x = true := by
     cases hb : (g.getD c 0).testBit x with
     | true => rfl
     | false => exact absurd ⟨b, fun c' b1 b2 => by rw [hhost c' x b2]; exact (hgive c x a1 a2 a3).1 hb c' b1 b2⟩ a4
    rw [hb, decide_eq_true b]; rfl
  rw [decide_eq_false b]; rfl
 constructor
 · rintro rfl
   exact ⟨hok, fun c x a1 a2 a3 _ => hhost c x a3⟩
 rintro ⟨hq, ha⟩
 refine tb_ext hq.t hok.t fun c x => ?_
 by_cases e : c < cs.length ∧ x < n
 · obtain ⟨a1, a2⟩ := e
   by_cases a3 : H.getD c 0 = 0
   · have hsame : ∀ c', c' < cs.length → H.getD c' 0 ≠ 0 → get2 Q c' x = get2 (leafU n cs H g P cs.length) c' x := fun c' b1 b2 => by rw [ha c' x b1 a2 b2 (he b1), hhost c' x b2]
     by_cases b : hasI cs c x > 0 ∧ ∀ c', c' < cs.length → H.getD c' 0 ≠ 0 → get2 Q c' x ≠ (c : Int)
     · rw [hq.keep c x a1 a2 a3 b.1 b.2, hok.keep c x a1 a2 a3 b.1 fun c' b1 b2 => by rw [← hsame c' b1 b2]; exact b.2 c' b1 b2]
     rw [hq.none c x a1 a2 a3 b, hok.none c x a1 a2 a3 fun q => b ⟨q.1, fun c' b1 b2 => by rw [hsame c' b1 b2]; exact q.2 c' b1 b2⟩]
   rw [ha c x a1 a2 a3 (he a1), hhost c x a3]
 rw [hq.out c x e, hok.out c x e]
theorem planR_mem {n : Nat} {cs : List Cp} {H : List Int} {i : Nat} {cont : Tb → List Nat → List Tb} (hm : cs.length ≤ 4) (hn : n ≤ 6) (hi : i < cs.length) {Q : Tb}
  (hcont : ∀ P g, PlP n cs H (i + 1) 0 P g → (Q ∈ cont P g ↔ PlOk n cs H Q ∧ Agr n cs H (i + 1) 0 Q P)) : ∀ r P g, r ≤ n → PlP n cs H i (n - r) P g → (Q ∈ planR n cs H i cont r P g ↔ PlOk n cs H Q ∧ Agr n cs H i (n - r) Q P)
 | 0, P, g, _, h => by
  simp only [planR]
  rw [hcont P g (h.next (.inl (by omega))), Agr.next (l := n - 0) (.inl (by omega))]
 | r + 1, P, g, hr, h => by
  simp only [planR]
  by_cases h0 : H.getD i 0 = 0
  · rw [if_pos h0, hcont P g (h.next (.inr h0)), Agr.next (.inr h0)]
  rw [if_neg h0]
  have hl : n - (r + 1) < n := by omega
  have hs : n - (r + 1) + 1 = n - r := by omega
  have hbit := fun d (hd : d < cs.length) => havN_bit hd (n - (r + 1)) (H.getD i 0)
  have hbl : bitsL (havN cs (n - (r + 1)) (H.getD i 0)) = (List.range cs.length).filter (havN cs (n - (r + 1)) (H.getD i 0)).testBit := bitsL_below (by omega) (by
   unfold havN
   exact bitsO_lt fun x hx => List.mem_range.1 (List.mem_filter.1 hx).1)
  generalize hL : n - (r + 1) = l at *
  cases hb : (havN cs l (H.getD i 0)).testBit i with
  | true =>
   have ho : hasI cs i l = H.getD i 0 := eq_of_beq ((hbit i hi).symm.trans hb)
   have h' := h.mine hi hm hl hn h0 ho
   rw [if_pos rfl]
   rw [hs] at h'
   rw [planR_mem hm hn hi hcont r _ g (by omega) h', ← hs, Agr.set h hi hm hl hn h0]
   exact ⟨fun ⟨a, b⟩ => ⟨a, b.1⟩, fun ⟨a, b⟩ => ⟨a, b, a.own i l hi hl h0 ho⟩⟩
  | false =>
   have ho : hasI cs i l ≠ H.getD i 0 := fun e => by rw [hbit i hi, e] at hb; simp at hb
   rw [if_neg (by simp), List.mem_flatMap]
   constructor
   · rintro ⟨d, hd, hq⟩
     rw [hbl, List.mem_filter, List.mem_range] at hd
     have h1 : hasI cs d l = H.getD i 0 := eq_of_beq ((hbit d hd.1).symm.trans hd.2)
     split at hq
     · cases hq
     rename_i hc
     rw [Bool.or_eq_true, not_or, beq_iff_eq] at hc
     have h' := h.give hi hm hl hn h0 ho hd.1 h1 hc.1 (by simpa using hc.2)
     rw [hs] at h'
     rw [planR_mem hm hn hi hcont r _ _ (by omega) h', ← hs, Agr.set h hi hm hl hn h0] at hq
     exact ⟨hq.1, hq.2.1⟩
   rintro ⟨hq, ha⟩
   obtain ⟨d, b1, b2, b3, b4⟩ := hq.don i l hi hl h0 ho
   have h3 : (g.getD d 0).testBit l = false := by
    cases hb : (g.getD d 0).testBit l with
    | false => rfl
    | true =>
     obtain ⟨c, c1, c2, c3, c4, c5⟩ := (h.g d l hl b1).1 hb
     have hci : c ≠ i := by unfold erl at c3; omega
     exact absurd (by rw [ha c l c1 hl c2 c3, c5, b2]) (hq.inj c i l c1 hi hl c2 h0 hci)
   have h' := h.give hi hm hl hn h0 ho b1 b3 b4 h3
   rw [hs] at h'
   refine ⟨d, by rw [hbl, List.mem_filter, List.mem_range]; exact ⟨b1, by rw [hbit d b1, b3]; simp⟩, ?_⟩
   rw [if_neg (by rw [Bool.or_eq_true, not_or, beq_iff_eq, h3]; exact ⟨b4, by simp⟩), planR_mem hm hn hi hcont r _ _ (by omega) h', ← hs, Agr.set h hi hm hl hn h0]
   exact ⟨hq, ha, b2⟩
theorem planS_mem {n : Nat} {cs : List Cp} {H : List Int} (hm : cs.length ≤ 4) (hn : n ≤ 6) (hH : ∀ c, 0 ≤ H.getD c 0) {Q : Tb} : ∀ s r P g, s ≤ cs.length → r ≤ n → (s = 0 → r = n) → PlP n cs H (cs.length - s) (n - r) P g → (Q ∈ planS n cs H s r P g ↔ PlOk n cs H Q ∧ Agr n cs H (cs.length - s) (n - r) Q P)
 | 0, r, P, g, _, _, hr0, h => by
  have hr := hr0 rfl
  subst hr
  rw [Nat.sub_self] at h ⊢
  simp only [planS, List.mem_singleton]
  exact plan_leaf hm hn hH h
 | s + 1, r, P, g, hs, hr, _, h => by
  simp only [planS]
  refine planR_mem hm hn (by omega) (fun P' g' h' => ?_) r P g hr h
  have e : cs.length - (s + 1) + 1 = cs.length - s := by omega
  rw [e] at h' ⊢
  have := planS_mem hm hn hH (Q := Q) s n P' g' (by omega) (Nat.le_refl _) (fun _ => rfl) (by rw [Nat.sub_self]; exact h')
  rw [Nat.sub_self] at this
  exact this
theorem get_z46 (c x : Nat) : get2 z46 c x = 0 := by
 unfold get2 z46
 match c with
 | 0 | 1 | 2 | 3 => match x with
  | 0 | 1 | 2 | 3 | 4 | 5 => rfl
  | x + 6 => rfl
 | c + 4 => simp [List.getD_eq_getElem?_getD]
theorem planA_mem {n : Nat} {cs : List Cp} {H : List Int} (hm1 : 1 ≤ cs.length) (hm : cs.length ≤ 4) (hn : n ≤ 6) (hH : ∀ c, 0 ≤ H.getD c 0) {Q : Tb} : Q ∈ planA n cs H ↔ PlOk n cs H Q := by
 unfold planA
 have he : ∀ {c x}, ¬ erl 0 0 c x := fun h => by unfold erl at h; omega
 have h0 : PlP n cs H (cs.length - cs.length) (n - n) z46 [0, 0, 0, 0] := by
  rw [Nat.sub_self, Nat.sub_self]
  refine ⟨z46_ok, fun c x _ => get_z46 c x, fun c x _ _ _ h => absurd h he, fun c x _ _ _ h => absurd h he, fun c c' x _ _ _ _ _ h => absurd h he, rfl, fun d x _ hd => ⟨fun h => ?_, fun ⟨_, _, _, h, _⟩ => absurd h he⟩⟩
  match d, (by omega : d < 4) with
  | 0, _ | 1, _ | 2, _ | 3, _ => simp at h
 rw [planS_mem hm hn hH _ _ _ _ (Nat.le_refl _) (Nat.le_refl _) (fun h => by omega) h0]
 refine ⟨fun h => h.1, fun h => ⟨h, fun c x _ _ _ he' => ?_⟩⟩
 rw [Nat.sub_self, Nat.sub_self] at he'
 exact absurd he' he
end Go.Ab.MkF
namespace Go.Ab.MkF
open Go Go.Ab Go.Ab.Pln Go.Proofs
set_option maxHeartbeats 1000000
set_option maxRecDepth 100000
noncomputable abbrev parH (gl : Gl) : Par S Unit := { par gl with hd := true }
theorem parH_ok (gl : Gl) (En : Env Unit) : ParOk PR gl (parH gl) En := { par_ok gl En with }
theorem join {p q : Prop} (h : Hold p → q) (hp : p) : q := h ⟨hp⟩
def inB (n a b : Int) : Bool := decide (a ≤ n) && decide (n ≤ b)
theorem inB_out (n a b : Int) : inB n a b = !outB a b n := by
 unfold inB outB
 rw [Bool.eq_iff_iff]
 simp [Int.not_lt]
def rgE (a b lo hi : Int) : Int := if (decide (min a b < lo) || decide (max a b > hi)) = true then 7 else if b < a then 2 else 0
theorem c72 (gl : Gl) (n a b : Int) : PCalls PR gl 72 [vI n, vI a, vI b] fun r => r = vB (inB n a b) := by
 refine fnW_sound (par_ok gl) Tryd.func72 ?_
 conv => whnf
 refine bcase_iff.2 ⟨fun g1_3 => ?_, fun g1_3 => ?_⟩
 · have g : decide (a ≤ n) = true := g1_3
   conv => whnf
   unfold inB
   rw [g]
   rfl
 have g : decide (a ≤ n) = false := g1_3
 conv => whnf
 unfold inB
 rw [g]
 rfl
theorem op72 : Opens PR 72 := ⟨_, Tryd.func72, rfl, rfl⟩
end Go.Ab.MkF
namespace Go.Ab.MkF
open Go Go.Ab Go.Ab.Pln Go.Proofs
set_option maxHeartbeats 1000000
set_option maxRecDepth 100000
def lfG (ls : List Lf) (i : Nat) (x : Lf) : Int :=
 if [x.2.1].any (outB (-1) ((ls.length : Int) - 1)) then 4
 else if x.2.1 == (i : Int) || (decide (x.2.1 ≥ 0) && (ls.getD x.2.1.toNat lf0).2.1 != (i : Int)) then 2 else if [x.2.2].any (outB 0 1000) then 7 else 0
theorem any_in (a b n : Int) : [n].any (outB a b) = !inB n a b := by rw [inB_out]; simp
theorem c74 (gl : Gl) (p : Int) (ls : List Lf) (cs : List Cp) (hl : ls.length ≤ 9223372036854775807) (i : Nat) (hi : i < ls.length) : PCalls PR gl 74 [.agg [vI p, lfsV ls, cpsV cs], vI i] fun r => r = vI (lfG ls i ls[i]) := by
 have hw1 : IntKind.i64.wrap ((ls.length : Int) - 1) = (ls.length : Int) - 1 := wrap_int (by omega) (by omega)
 refine fnW_sound (par_ok gl) Tryd.func74 ?_
 conv => whnf
 refine ⟨_, getI_nat hi, ?_⟩
 conv => whnf
 rw [hw1]
 conv => whnf
 refine byC (c72 gl _ _ _) op72 ?_
 conv => whnf
 refine bcase_iff.2 ⟨fun h2 => ?_, fun h2 => ?_⟩
 · have h2 : [ls[i].2.1].any (outB (-1) ((ls.length : Int) - 1)) = true := by rw [any_in]; exact h2
   conv => whnf
   unfold lfG
   rw [if_pos h2]
 have h2 : [ls[i].2.1].any (outB (-1) ((ls.length : Int) - 1)) = false := by rw [any_in]; exact h2
 have hr := any_one.1 h2
 conv => whnf
 refine bcase_iff.2 ⟨fun g4_3 => ?_, fun g4_3 => ?_⟩
 · have g3 : ls[i].2.1 ≠ -1 := by have g : (ls[i].2.1 != -1) = true := g4_3; simpa using g
   obtain ⟨y, hy⟩ : ∃ y : Nat, ls[i].2.1 = (y : Int) := ⟨ls[i].2.1.toNat, by omega⟩
   have hyl : y < ls.length := by omega
   conv => whnf
   refine bcase_iff.2 ⟨fun g4_8 => ?_, fun g4_8 => ?_⟩
   · have hb : (ls[i].2.1 == (i : Int) || (decide (ls[i].2.1 ≥ 0) && (ls.getD ls[i].2.1.toNat lf0).2.1 != (i : Int))) = true := by rw [show (ls[i].2.1 == (i : Int)) = true from g4_8]; rfl
     conv => whnf
     unfold lfG
     rw [h2, if_neg (by simp), if_pos hb]
   have g8 : (ls[i].2.1 == (i : Int)) = false := g4_8
   conv => whnf
   refine ⟨ls[y], by rw [hy]; exact getI_nat hyl, ?_⟩
   conv => whnf
   refine bcase_iff.2 ⟨fun h4 => ?_, fun h4 => ?_⟩
   · have hb : (ls[i].2.1 == (i : Int) || (decide (ls[i].2.1 ≥ 0) && (ls.getD ls[i].2.1.toNat lf0).2.1 != (i : Int))) = true := by rw [g8, decide_eq_true (by omega), hy, Int.toNat_natCast, getD_at hyl]; exact h4
     conv => whnf
     unfold lfG
     rw [h2, if_neg (by simp), if_pos hb]
   have hb : (ls[i].2.1 == (i : Int) || (decide (ls[i].2.1 ≥ 0) && (ls.getD ls[i].2.1.toNat lf0).2.1 != (i : Int))) = false := by rw [g8, decide_eq_true (by omega), hy, Int.toNat_natCast, getD_at hyl]; exact h4
   conv => whnf
   refine byC (c72 gl _ _ _) op72 ?_
   conv => whnf
   refine bcase_iff.2 ⟨fun h6 => ?_, fun h6 => ?_⟩
   · have h6 : [ls[i].2.2].any (outB 0 1000) = true := by rw [any_in]; exact h6
     conv => whnf
     unfold lfG
     rw [h2, if_neg (by simp), hb, if_neg (by simp), if_pos h6]
   have h6 : [ls[i].2.2].any (outB 0 1000) = false := by rw [any_in]; exact h6
   conv => whnf
   unfold lfG
   rw [h2, if_neg (by simp), hb, if_neg (by simp), h6, if_neg (by simp)]
 have g3 : ls[i].2.1 = -1 := by have g : (ls[i].2.1 != -1) = false := g4_3; simpa using g
 have hb : (ls[i].2.1 == (i : Int) || (decide (ls[i].2.1 ≥ 0) && (ls.getD ls[i].2.1.toNat lf0).2.1 != (i : Int))) = false := by rw [g3]; simp
 conv => whnf
 refine byC (c72 gl _ _ _) op72 ?_
 conv => whnf
 refine bcase_iff.2 ⟨fun h6 => ?_, fun h6 => ?_⟩
 · have h6 : [ls[i].2.2].any (outB 0 1000) = true := by rw [any_in]; exact h6
   conv => whnf
   unfold lfG
   rw [h2, if_neg (by simp), hb, if_neg (by simp), if_pos h6]
 have h6 : [ls[i].2.2].any (outB 0 1000) = false := by rw [any_in]; exact h6
 conv => whnf
 unfold lfG
 rw [h2, if_neg (by simp), hb, if_neg (by simp), h6, if_neg (by simp)]
theorem op74 : Opens PR 74 := ⟨_, Tryd.func74, rfl, rfl⟩
end Go.Ab.MkF
namespace Go.Ab.MkF
open Go Go.Ab Go.Ab.Pln Go.Proofs
set_option maxHeartbeats 1000000
set_option maxRecDepth 100000
def LensN (ls : List Lf) (cs : List Cp) : Prop := (∀ x ∈ ls, x.1.size ≤ 9223372036854775807) ∧ ∀ x ∈ cs, x.1.size ≤ 9223372036854775807
abbrev nmL (ls : List Lf) (i : Nat) : List ByteArray := (ls.take i).map fun x => x.1
abbrev nmC (cs : List Cp) (i : Nat) : List ByteArray := (cs.take i).map fun x => x.1
theorem lfF_eq {ls : List Lf} {i : Nat} (h : i < ls.length) : lfF ls i = if freE ls[i].1 (nmL ls i) = 0 then lfG ls i ls[i] else freE ls[i].1 (nmL ls i) := by
 unfold lfF lfE lfG freE
 rw [getD_at h, List.any_map]
 show (if (!nameB ls[i].1) = true then 6 else if ((ls.take i).any fun y => strEq y.1 ls[i].1) = true then 5 else _) = if (if (!nameB ls[i].1) = true then (6 : Int) else if ((ls.take i).any fun y => strEq y.1 ls[i].1) = true then 5 else 0) = 0 then _ else if (!nameB ls[i].1) = true then (6 : Int) else if ((ls.take i).any fun y => strEq y.1 ls[i].1) = true then 5 else 0
 cases nameB ls[i].1 <;> cases (ls.take i).any fun y => strEq y.1 ls[i].1 <;> simp
def cpK (e : Int) (xs : List Int) (k : Nat) : Int := if e ≠ 0 then e else if (xs.take k).any (outB 0 2) then 7 else 0
def cpG (n : Nat) (w : ByteArray) (l : List ByteArray) (xs : List Int) : Int := if freE w l = 0 then (if (xs.length : Int) ≠ n then 3 else 0) else freE w l
theorem cp_aux (nb dup bad : Bool) (p q : Prop) [Decidable p] [Decidable q] (hpq : p ↔ q) :
  (if (!nb) = true then (6 : Int) else if dup = true then 5 else if p then 3 else if bad = true then 7 else 0) =
   if (if (if (!nb) = true then (6 : Int) else if dup = true then 5 else 0) = 0 then (if q then (3 : Int) else 0) else if (!nb) = true then (6 : Int) else if dup = true then 5 else 0) ≠ 0
   then (if (if (!nb) = true then (6 : Int) else if dup = true then 5 else 0) = 0 then (if q then (3 : Int) else 0) else if (!nb) = true then (6 : Int) else if dup = true then 5 else 0) else if bad = true then 7 else 0 := by
 by_cases hq : q
 · have hp := hpq.2 hq
   cases nb <;> cases dup <;> simp [hp, hq]
 have hp : ¬ p := fun h => hq (hpq.1 h)
 cases nb <;> cases dup <;> simp [hp, hq]
theorem cpF_eq {n : Nat} {cs : List Cp} {i : Nat} (h : i < cs.length) : cpF n cs i = cpK (cpG n cs[i].1 (nmC cs i) cs[i].2) cs[i].2 cs[i].2.length := by
 unfold cpF cpE cpK cpG freE
 rw [getD_at h, List.any_map, List.take_length]
 exact cp_aux _ _ _ _ _ (by omega)
theorem cpK_succ {e : Int} {xs : List Int} {k : Nat} (h : k < xs.length) (h0 : cpK e xs k = 0) : cpK e xs (k + 1) = if inB xs[k] 0 2 = true then 0 else 7 := by
 unfold cpK at h0 ⊢
 by_cases he : e = 0
 · have hne : ¬ e ≠ 0 := fun h => h he
   rw [if_neg hne] at h0 ⊢
   have hp : (xs.take k).any (outB 0 2) = false := by
    cases hq : (xs.take k).any (outB 0 2) with
    | true => rw [hq] at h0; simp at h0
    | false => rfl
   rw [take_succ' h, List.any_append, hp, inB_out]
   simp
   cases outB 0 2 xs[k] <;> rfl
 rw [if_pos he] at h0; exact absurd h0 he
theorem cpK_last {e : Int} {xs : List Int} {k : Nat} (_h : k ≤ xs.length) (h0 : cpK e xs k ≠ 0) : cpK e xs k = cpK e xs xs.length := by
 unfold cpK at h0 ⊢
 by_cases he : e = 0
 · have hne : ¬ e ≠ 0 := fun h => h he
   rw [if_neg hne] at h0
   rw [if_neg hne, if_neg hne]
   cases hq : (xs.take k).any (outB 0 2) with
   | false => rw [hq] at h0; simp at h0
   | true =>
    have : (xs.take xs.length).any (outB 0 2) = true := by
     rw [List.take_length]
     obtain ⟨x, hx, hb⟩ := List.any_eq_true.1 hq
     exact List.any_eq_true.2 ⟨x, List.mem_of_mem_take hx, hb⟩
    rw [this]
 rw [if_pos he, if_pos he]
theorem c17 (gl : Gl) (p : Int) (ls : List Lf) (cs : List Cp) (hL : LensS ls cs) (hN : LensN ls cs) : PCalls PR gl 17 [.agg [vI p, lfsV ls, cpsV cs]] fun r => r = .tup [vI (chk p ls cs).1, vI (chk p ls cs).2.1, vI (chk p ls cs).2.2] := by
 refine fnW_sound (par_ok gl) Tryd.func17 ?_
 conv => whnf
 refine byC (c72 gl _ _ _) op72 ?_
 conv => whnf
 refine bcase_iff.2 ⟨fun h1 => ?_, fun h1 => ?_⟩
 · have g1 : [p].any (outB 0 1000000) = true := by rw [any_in]; exact h1
   conv => whnf
   unfold chk
   rw [if_pos g1]
 have g1 : [p].any (outB 0 1000000) = false := by rw [any_in]; exact h1
 conv => whnf
 refine byC (c72 gl _ _ _) op72 ?_
 conv => whnf
 refine bcase_iff.2 ⟨fun h3 => ?_, fun h3 => ?_⟩
 · have g3 : [(ls.length : Int)].any (outB 1 6) = true := by rw [any_in]; exact h3
   conv => whnf
   unfold chk
   rw [g1, if_neg (by simp)]
   unfold chk1
   rw [if_pos g3]
 have g3 : [(ls.length : Int)].any (outB 1 6) = false := by rw [any_in]; exact h3
 have hn6 := (any_one.1 g3).2
 conv => whnf
 refine ⟨⟨98, [], [5]⟩, ?_⟩
 refine LoopW_ind _ (fun i : Nat => (({ tmps := [υ, .own 1 [], υ, υ, υ, .sl (S := S) U.str (nmL ls i) (some 5), vI i, υ, υ, υ, υ, υ, υ, υ, υ, υ, υ, υ, υ, υ, υ, υ, υ, υ, υ, υ, υ, υ, υ, υ, υ, υ, υ, υ, υ, υ, υ, υ, υ, υ, υ, υ, υ, υ, υ, υ, υ, υ, υ, υ, υ, υ, υ, υ, υ, υ, υ, υ, υ, υ, υ, υ, υ, υ, υ, υ, υ, υ, υ, υ, υ, υ, υ, υ, υ, υ, υ, υ, υ, υ, υ, υ, υ, υ, υ, υ, υ, υ, υ, υ, υ, υ, υ, υ, υ, υ, υ, υ, υ, υ, υ, υ, υ, υ, υ, υ, υ, υ, υ, υ, υ, υ, υ], seg := [(1, .cells (setC p ls cs)), (5, .row U.str false)], up := [] } : St S))) (fun i : Nat => (i ≤ ls.length ∧ ∀ j, j < i → lfF ls j = 0)) (fun i : Nat => (ls.length - i)) () ?_ 0 ⟨Nat.zero_le _, fun j h => absurd h (Nat.not_lt_zero j)⟩
 intro i hinv Z1 hZ1
 obtain ⟨hi, hd⟩ := hinv
 conv => whnf
 refine bcase_iff.2 ⟨fun h7 => ?_, fun h7 => ?_⟩
 · have hlt : i < ls.length := by have := of_decide_eq_true h7; omega
   have hw : IntKind.i64.wrap ((i : Int) + 1) = ((i + 1 : Nat) : Int) := wrap_nat (by omega)
   conv => whnf
   have hlf := lfF_eq hlt
   have hnl : (nmL ls i).length = i := by simp; omega
   refine ⟨_, getI_nat hlt, ?_⟩
   conv => whnf
   refine byC (c73 gl _ (hN.1 _ (List.getElem_mem hlt)) _ (by omega)) op73 ?_
   conv => whnf
   refine bcase_iff.2 ⟨fun h10 => ?_, fun h10 => ?_⟩
   · have h10 : freE ls[i].1 (nmL ls i) = 0 := eq_of_beq (show (freE ls[i].1 (nmL ls i) == 0) = true from h10)
     rw [if_pos h10] at hlf
     conv => whnf
     refine byC (c74 gl p ls cs (by omega) i hlt) op74 ?_
     conv => whnf
     refine bcase_iff.2 ⟨fun h12 => ?_, fun h12 => ?_⟩
     · have h12 : lfF ls i ≠ 0 := by rw [hlf]; simpa using h12
       conv => whnf
       unfold chk
       rw [g1, if_neg (by simp)]
       unfold chk1
       rw [g3, if_neg (by simp), firstR_at hlt hd h12, if_pos h12, hlf]
     have h12 : lfF ls i = 0 := by rw [hlf]; simpa using h12
     conv => whnf
     refine ⟨_, getI_nat hlt, ?_⟩
     conv => whnf
     refine ⟨_, rfl, ?_⟩
     conv => whnf
     refine ⟨lim (by simp; omega), ?_⟩
     conv => whnf
     refine ⟨⟨98, [52, 53], []⟩, ?_⟩
     conv => whnf
     rw [hw]
     have hz := hZ1 (i + 1) ⟨hlt, up_succ hd h12⟩ (by omega)
     rw [show nmL ls (i + 1) = nmL ls i ++ [ls[i].1] from by unfold nmL; rw [take_succ' hlt, List.map_append]; rfl] at hz
     exact hz
   have h10 : freE ls[i].1 (nmL ls i) ≠ 0 := fun e => by have h10 : (freE ls[i].1 (nmL ls i) == 0) = false := h10; rw [e] at h10; cases h10
   rw [if_neg h10] at hlf
   conv => whnf
   refine bcase_iff.2 ⟨fun h12 => ?_, fun h12 => ?_⟩
   · have h12 : lfF ls i ≠ 0 := by rw [hlf]; simpa using h12
     conv => whnf
     unfold chk
     rw [g1, if_neg (by simp)]
     unfold chk1
     rw [g3, if_neg (by simp), firstR_at hlt hd h12, if_pos h12, hlf]
   have h12 : lfF ls i = 0 := by rw [hlf]; simpa using h12
   conv => whnf
   refine ⟨_, getI_nat hlt, ?_⟩
   conv => whnf
   refine ⟨_, rfl, ?_⟩
   conv => whnf
   refine ⟨lim (by simp; omega), ?_⟩
   conv => whnf
   refine ⟨⟨98, [52, 53], []⟩, ?_⟩
   conv => whnf
   rw [hw]
   have hz := hZ1 (i + 1) ⟨hlt, up_succ hd h12⟩ (by omega)
   rw [show nmL ls (i + 1) = nmL ls i ++ [ls[i].1] from by unfold nmL; rw [take_succ' hlt, List.map_append]; rfl] at hz
   exact hz
 have hge : i = ls.length := by have := of_decide_eq_false h7; omega
 conv => whnf
 rw [hge] at hd
 conv => whnf
 refine byC (c72 gl _ _ _) op72 ?_
 conv => whnf
 refine bcase_iff.2 ⟨fun h15 => ?_, fun h15 => ?_⟩
 · have g15 : [(cs.length : Int)].any (outB 1 4) = true := by rw [any_in]; exact h15
   conv => whnf
   unfold chk
   rw [g1, if_neg (by simp)]
   unfold chk1
   rw [g3, if_neg (by simp), firstR_no hd, if_neg (by simp)]
   unfold chk2
   rw [if_pos g15]
 have g15 : [(cs.length : Int)].any (outB 1 4) = false := by rw [any_in]; exact h15
 have hm4 := (any_one.1 g15).2
 conv => whnf
 refine ⟨⟨290, [5], [900005]⟩, ?_⟩
 refine LoopW_ind _ (fun i : Nat => (({ tmps := [υ, .own 1 [], υ, υ, υ, .sl (S := S) U.str (nmC cs i) (some 900005), υ, υ, vI i, υ, υ, υ, υ, υ, υ, υ, υ, υ, υ, υ, υ, υ, υ, υ, υ, υ, υ, υ, υ, υ, υ, υ, υ, υ, υ, υ, υ, υ, υ, υ, υ, υ, υ, υ, υ, υ, υ, υ, υ, υ, υ, υ, υ, υ, υ, υ, υ, υ, υ, υ, υ, υ, υ, υ, υ, υ, υ, υ, υ, υ, υ, υ, υ, υ, υ, υ, υ, υ, υ, υ, υ, υ, υ, υ, υ, υ, υ, υ, υ, υ, υ, υ, υ, υ, υ, υ, υ, υ, υ, υ, υ, υ, υ, υ, υ, υ, υ, υ, υ, υ, υ, υ, υ], seg := [(1, .cells (setC p ls cs)), (900005, .row U.str false)], up := [] } : St S))) (fun i : Nat => (i ≤ cs.length ∧ ∀ j, j < i → cpF ls.length cs j = 0)) (fun i : Nat => (cs.length - i)) () ?_ 0 ⟨Nat.zero_le _, fun j h => absurd h (Nat.not_lt_zero j)⟩
 intro i hinv Z2 hZ2
 obtain ⟨hi, hdc⟩ := hinv
 conv => whnf
 refine bcase_iff.2 ⟨fun h19 => ?_, fun h19 => ?_⟩
 · have hlc : i < cs.length := by have := of_decide_eq_true h19; omega
   have hwc : IntKind.i64.wrap ((i : Int) + 1) = ((i + 1 : Nat) : Int) := wrap_nat (by omega)
   conv => whnf
   have hcf := cpF_eq (n := ls.length) hlc
   have hnl : (nmC cs i).length = i := by simp; omega
   have hxl := hL.2 _ (List.getElem_mem hlc)
   refine ⟨_, getI_nat hlc, ?_⟩
   conv => whnf
   refine byC (c73 gl _ (hN.2 _ (List.getElem_mem hlc)) _ (by omega)) op73 ?_
   conv => whnf
   refine bcase_iff.2 ⟨fun g23_2 => ?_, fun g23_2 => ?_⟩
   · have g23 : freE cs[i].1 (nmC cs i) = 0 := eq_of_beq (show (freE cs[i].1 (nmC cs i) == 0) = true from g23_2)
     conv => whnf
     refine bcase_iff.2 ⟨fun h23 => ?_, fun h23 => ?_⟩
     · have h23 : (cs[i].2.length : Int) ≠ (ls.length : Int) := by have h : ((cs[i].2.length : Int) != (ls.length : Int)) = true := h23; simpa using h
       have hG : (3 : Int) = cpK (cpG ls.length cs[i].1 (nmC cs i) cs[i].2) cs[i].2 0 := by unfold cpK cpG; rw [if_pos g23, if_pos h23, if_pos (by decide)]
       conv => whnf
       rw [hG]
       refine ⟨⟨3874, [2009], [2009]⟩, ?_⟩
       refine LoopW_ind _ (fun k : Nat => (({ tmps := [υ, .own 1 [], υ, υ, υ, .sl (S := S) U.str (nmC cs i) (some 900005), υ, υ, vI i, .own 9 [], vI (cpK (cpG ls.length cs[i].1 (nmC cs i) cs[i].2) cs[i].2 k), vI k, υ, υ, υ, υ, υ, υ, υ, υ, υ, υ, υ, υ, υ, υ, υ, υ, υ, υ, υ, υ, υ, υ, υ, υ, υ, υ, υ, υ, υ, υ, υ, υ, υ, υ, υ, υ, υ, υ, υ, υ, υ, υ, υ, υ, υ, υ, υ, υ, υ, υ, υ, υ, υ, υ, υ, υ, υ, υ, υ, υ, υ, υ, υ, υ, υ, υ, υ, υ, υ, υ, υ, υ, υ, υ, υ, υ, υ, υ, υ, υ, υ, υ, υ, υ, υ, υ, υ, υ, υ, υ, υ, υ, υ, υ, υ, υ, υ, υ, υ, υ, υ], seg := [(1, .cells (setC p ls cs)), (9, .cells (cpC cs[i])), (900005, .row U.str false)], up := [] } : St S))) (fun k : Nat => (k ≤ cs[i].2.length)) (fun k : Nat => (cs[i].2.length - k)) () ?_ 0 (Nat.zero_le _)
       intro k hk Z3 hZ3
       conv => whnf
       refine bcase_iff.2 ⟨fun g26_5 => ?_, fun g26_5 => ?_⟩
       · have hkl : k < cs[i].2.length := by have := of_decide_eq_true g26_5; omega
         have hwk : IntKind.i64.wrap ((k : Int) + 1) = ((k + 1 : Nat) : Int) := wrap_nat (by omega)
         conv => whnf
         refine bcase_iff.2 ⟨fun h26 => ?_, fun h26 => ?_⟩
         · have h26 : cpK (cpG ls.length cs[i].1 (nmC cs i) cs[i].2) cs[i].2 k = 0 := eq_of_beq (show (cpK (cpG ls.length cs[i].1 (nmC cs i) cs[i].2) cs[i].2 k == 0) = true from h26)
           have hks := cpK_succ hkl h26
           conv => whnf
           refine ⟨_, getI_nat hkl, ?_⟩
           conv => whnf
           refine byC (c72 gl _ _ _) op72 ?_
           conv => whnf
           refine bcase_iff.2 ⟨fun h28 => ?_, fun h28 => ?_⟩
           · have h28 : inB cs[i].2[k] 0 2 = false := by have h : (!inB cs[i].2[k] 0 2) = true := h28; simpa using h
             rw [h28, if_neg (by simp)] at hks
             conv => whnf
             refine ⟨⟨3874, [], []⟩, ?_⟩
             conv => whnf
             rw [hwk]
             have hz := hZ3 (k + 1) hkl (by omega)
             rw [hks] at hz
             exact hz
           have h28 : inB cs[i].2[k] 0 2 = true := by have h : (!inB cs[i].2[k] 0 2) = false := h28; simpa using h
           rw [h28, if_pos rfl] at hks
           conv => whnf
           refine ⟨⟨3874, [], []⟩, ?_⟩
           conv => whnf
           rw [hwk, h26]
           have hz := hZ3 (k + 1) hkl (by omega)
           rw [hks] at hz
           exact hz
         have h26 : cpK (cpG ls.length cs[i].1 (nmC cs i) cs[i].2) cs[i].2 k ≠ 0 := fun e => by have h : (cpK (cpG ls.length cs[i].1 (nmC cs i) cs[i].2) cs[i].2 k == 0) = false := h26; rw [e] at h; cases h
         rw [cpK_last hk h26, ← hcf]
         conv => whnf
         refine bcase_iff.2 ⟨fun h30 => ?_, fun h30 => ?_⟩
         · have h30 : cpF ls.length cs i ≠ 0 := by simpa using h30
           conv => whnf
           first | rw [← hG] | skip
           unfold chk
           rw [g1, if_neg (by simp)]
           unfold chk1
           rw [g3, if_neg (by simp), firstR_no hd, if_neg (by simp)]
           unfold chk2
           rw [g15, if_neg (by simp), firstR_at hlc hdc h30, if_pos h30]
           all_goals rfl
         have h30 : cpF ls.length cs i = 0 := by simpa using h30
         conv => whnf
         refine ⟨_, rfl, ?_⟩
         conv => whnf
         refine ⟨lim (by simp; omega), ?_⟩
         conv => whnf
         refine ⟨⟨290, [9, 111, 112, 1009, 2009, 3009, 4009], []⟩, ?_⟩
         conv => whnf
         rw [hwc]
         have hz := hZ2 (i + 1) ⟨hlc, up_succ hdc h30⟩ (by omega)
         rw [show nmC cs (i + 1) = nmC cs i ++ [cs[i].1] from by unfold nmC; rw [take_succ' hlc, List.map_append]; rfl] at hz
         exact hz
       have hkl : k = cs[i].2.length := by have := of_decide_eq_false g26_5; omega
       rw [hkl, ← hcf]
       conv => whnf
       refine bcase_iff.2 ⟨fun h30 => ?_, fun h30 => ?_⟩
       · have h30 : cpF ls.length cs i ≠ 0 := by simpa using h30
         conv => whnf
         first | rw [← hG] | skip
         unfold chk
         rw [g1, if_neg (by simp)]
         unfold chk1
         rw [g3, if_neg (by simp), firstR_no hd, if_neg (by simp)]
         unfold chk2
         rw [g15, if_neg (by simp), firstR_at hlc hdc h30, if_pos h30]
         all_goals rfl
       have h30 : cpF ls.length cs i = 0 := by simpa using h30
       conv => whnf
       refine ⟨_, rfl, ?_⟩
       conv => whnf
       refine ⟨lim (by simp; omega), ?_⟩
       conv => whnf
       refine ⟨⟨290, [9, 111, 112, 1009, 2009, 3009, 4009], []⟩, ?_⟩
       conv => whnf
       rw [hwc]
       have hz := hZ2 (i + 1) ⟨hlc, up_succ hdc h30⟩ (by omega)
       rw [show nmC cs (i + 1) = nmC cs i ++ [cs[i].1] from by unfold nmC; rw [take_succ' hlc, List.map_append]; rfl] at hz
       exact hz
     have h23 : ¬ (cs[i].2.length : Int) ≠ (ls.length : Int) := by have h : ((cs[i].2.length : Int) != (ls.length : Int)) = false := h23; simpa using h
     have hG : (freE cs[i].1 (nmC cs i) : Int) = cpK (cpG ls.length cs[i].1 (nmC cs i) cs[i].2) cs[i].2 0 := by unfold cpK cpG; rw [if_pos g23, if_neg h23, if_neg (by decide), g23]; rfl
     conv => whnf
     rw [hG]
     refine ⟨⟨3874, [2009], [2009]⟩, ?_⟩
     refine LoopW_ind _ (fun k : Nat => (({ tmps := [υ, .own 1 [], υ, υ, υ, .sl (S := S) U.str (nmC cs i) (some 900005), υ, υ, vI i, .own 9 [], vI (cpK (cpG ls.length cs[i].1 (nmC cs i) cs[i].2) cs[i].2 k), vI k, υ, υ, υ, υ, υ, υ, υ, υ, υ, υ, υ, υ, υ, υ, υ, υ, υ, υ, υ, υ, υ, υ, υ, υ, υ, υ, υ, υ, υ, υ, υ, υ, υ, υ, υ, υ, υ, υ, υ, υ, υ, υ, υ, υ, υ, υ, υ, υ, υ, υ, υ, υ, υ, υ, υ, υ, υ, υ, υ, υ, υ, υ, υ, υ, υ, υ, υ, υ, υ, υ, υ, υ, υ, υ, υ, υ, υ, υ, υ, υ, υ, υ, υ, υ, υ, υ, υ, υ, υ, υ, υ, υ, υ, υ, υ, υ, υ, υ, υ, υ, υ], seg := [(1, .cells (setC p ls cs)), (9, .cells (cpC cs[i])), (900005, .row U.str false)], up := [] } : St S))) (fun k : Nat => (k ≤ cs[i].2.length)) (fun k : Nat => (cs[i].2.length - k)) () ?_ 0 (Nat.zero_le _)
     intro k hk Z3 hZ3
     conv => whnf
     refine bcase_iff.2 ⟨fun g26_5 => ?_, fun g26_5 => ?_⟩
     · have hkl : k < cs[i].2.length := by have := of_decide_eq_true g26_5; omega
       have hwk : IntKind.i64.wrap ((k : Int) + 1) = ((k + 1 : Nat) : Int) := wrap_nat (by omega)
       conv => whnf
       refine bcase_iff.2 ⟨fun h26 => ?_, fun h26 => ?_⟩
       · have h26 : cpK (cpG ls.length cs[i].1 (nmC cs i) cs[i].2) cs[i].2 k = 0 := eq_of_beq (show (cpK (cpG ls.length cs[i].1 (nmC cs i) cs[i].2) cs[i].2 k == 0) = true from h26)
         have hks := cpK_succ hkl h26
         conv => whnf
         refine ⟨_, getI_nat hkl, ?_⟩
         conv => whnf
         refine byC (c72 gl _ _ _) op72 ?_
         conv => whnf
         refine bcase_iff.2 ⟨fun h28 => ?_, fun h28 => ?_⟩
         · have h28 : inB cs[i].2[k] 0 2 = false := by have h : (!inB cs[i].2[k] 0 2) = true := h28; simpa using h
           rw [h28, if_neg (by simp)] at hks
           conv => whnf
           refine ⟨⟨3874, [], []⟩, ?_⟩
           conv => whnf
           rw [hwk]
           have hz := hZ3 (k + 1) hkl (by omega)
           rw [hks] at hz
           exact hz
         have h28 : inB cs[i].2[k] 0 2 = true := by have h : (!inB cs[i].2[k] 0 2) = false := h28; simpa using h
         rw [h28, if_pos rfl] at hks
         conv => whnf
         refine ⟨⟨3874, [], []⟩, ?_⟩
         conv => whnf
         rw [hwk, h26]
         have hz := hZ3 (k + 1) hkl (by omega)
         rw [hks] at hz
         exact hz
       have h26 : cpK (cpG ls.length cs[i].1 (nmC cs i) cs[i].2) cs[i].2 k ≠ 0 := fun e => by have h : (cpK (cpG ls.length cs[i].1 (nmC cs i) cs[i].2) cs[i].2 k == 0) = false := h26; rw [e] at h; cases h
       rw [cpK_last hk h26, ← hcf]
       conv => whnf
       refine bcase_iff.2 ⟨fun h30 => ?_, fun h30 => ?_⟩
       · have h30 : cpF ls.length cs i ≠ 0 := by simpa using h30
         conv => whnf
         first | rw [← hG] | skip
         unfold chk
         rw [g1, if_neg (by simp)]
         unfold chk1
         rw [g3, if_neg (by simp), firstR_no hd, if_neg (by simp)]
         unfold chk2
         rw [g15, if_neg (by simp), firstR_at hlc hdc h30, if_pos h30]
         all_goals rfl
       have h30 : cpF ls.length cs i = 0 := by simpa using h30
       conv => whnf
       refine ⟨_, rfl, ?_⟩
       conv => whnf
       refine ⟨lim (by simp; omega), ?_⟩
       conv => whnf
       refine ⟨⟨290, [9, 111, 112, 1009, 2009, 3009, 4009], []⟩, ?_⟩
       conv => whnf
       rw [hwc]
       have hz := hZ2 (i + 1) ⟨hlc, up_succ hdc h30⟩ (by omega)
       rw [show nmC cs (i + 1) = nmC cs i ++ [cs[i].1] from by unfold nmC; rw [take_succ' hlc, List.map_append]; rfl] at hz
       exact hz
     have hkl : k = cs[i].2.length := by have := of_decide_eq_false g26_5; omega
     rw [hkl, ← hcf]
     conv => whnf
     refine bcase_iff.2 ⟨fun h30 => ?_, fun h30 => ?_⟩
     · have h30 : cpF ls.length cs i ≠ 0 := by simpa using h30
       conv => whnf
       first | rw [← hG] | skip
       unfold chk
       rw [g1, if_neg (by simp)]
       unfold chk1
       rw [g3, if_neg (by simp), firstR_no hd, if_neg (by simp)]
       unfold chk2
       rw [g15, if_neg (by simp), firstR_at hlc hdc h30, if_pos h30]
       all_goals rfl
     have h30 : cpF ls.length cs i = 0 := by simpa using h30
     conv => whnf
     refine ⟨_, rfl, ?_⟩
     conv => whnf
     refine ⟨lim (by simp; omega), ?_⟩
     conv => whnf
     refine ⟨⟨290, [9, 111, 112, 1009, 2009, 3009, 4009], []⟩, ?_⟩
     conv => whnf
     rw [hwc]
     have hz := hZ2 (i + 1) ⟨hlc, up_succ hdc h30⟩ (by omega)
     rw [show nmC cs (i + 1) = nmC cs i ++ [cs[i].1] from by unfold nmC; rw [take_succ' hlc, List.map_append]; rfl] at hz
     exact hz
   have g23 : freE cs[i].1 (nmC cs i) ≠ 0 := fun e => by have g : (freE cs[i].1 (nmC cs i) == 0) = false := g23_2; rw [e] at g; cases g
   have hG : freE cs[i].1 (nmC cs i) = cpK (cpG ls.length cs[i].1 (nmC cs i) cs[i].2) cs[i].2 0 := by unfold cpK cpG; rw [if_neg g23, if_pos g23]
   conv => whnf
   rw [hG]
   refine ⟨⟨3874, [2009], [2009]⟩, ?_⟩
   refine LoopW_ind _ (fun k : Nat => (({ tmps := [υ, .own 1 [], υ, υ, υ, .sl (S := S) U.str (nmC cs i) (some 900005), υ, υ, vI i, .own 9 [], vI (cpK (cpG ls.length cs[i].1 (nmC cs i) cs[i].2) cs[i].2 k), vI k, υ, υ, υ, υ, υ, υ, υ, υ, υ, υ, υ, υ, υ, υ, υ, υ, υ, υ, υ, υ, υ, υ, υ, υ, υ, υ, υ, υ, υ, υ, υ, υ, υ, υ, υ, υ, υ, υ, υ, υ, υ, υ, υ, υ, υ, υ, υ, υ, υ, υ, υ, υ, υ, υ, υ, υ, υ, υ, υ, υ, υ, υ, υ, υ, υ, υ, υ, υ, υ, υ, υ, υ, υ, υ, υ, υ, υ, υ, υ, υ, υ, υ, υ, υ, υ, υ, υ, υ, υ, υ, υ, υ, υ, υ, υ, υ, υ, υ, υ, υ, υ], seg := [(1, .cells (setC p ls cs)), (9, .cells (cpC cs[i])), (900005, .row U.str false)], up := [] } : St S))) (fun k : Nat => (k ≤ cs[i].2.length)) (fun k : Nat => (cs[i].2.length - k)) () ?_ 0 (Nat.zero_le _)
   intro k hk Z3 hZ3
   conv => whnf
   refine bcase_iff.2 ⟨fun g26_5 => ?_, fun g26_5 => ?_⟩
   · have hkl : k < cs[i].2.length := by have := of_decide_eq_true g26_5; omega
     have hwk : IntKind.i64.wrap ((k : Int) + 1) = ((k + 1 : Nat) : Int) := wrap_nat (by omega)
     conv => whnf
     refine bcase_iff.2 ⟨fun h26 => ?_, fun h26 => ?_⟩
     · have h26 : cpK (cpG ls.length cs[i].1 (nmC cs i) cs[i].2) cs[i].2 k = 0 := eq_of_beq (show (cpK (cpG ls.length cs[i].1 (nmC cs i) cs[i].2) cs[i].2 k == 0) = true from h26)
       have hks := cpK_succ hkl h26
       conv => whnf
       refine ⟨_, getI_nat hkl, ?_⟩
       conv => whnf
       refine byC (c72 gl _ _ _) op72 ?_
       conv => whnf
       refine bcase_iff.2 ⟨fun h28 => ?_, fun h28 => ?_⟩
       · have h28 : inB cs[i].2[k] 0 2 = false := by have h : (!inB cs[i].2[k] 0 2) = true := h28; simpa using h
         rw [h28, if_neg (by simp)] at hks
         conv => whnf
         refine ⟨⟨3874, [], []⟩, ?_⟩
         conv => whnf
         rw [hwk]
         have hz := hZ3 (k + 1) hkl (by omega)
         rw [hks] at hz
         exact hz
       have h28 : inB cs[i].2[k] 0 2 = true := by have h : (!inB cs[i].2[k] 0 2) = false := h28; simpa using h
       rw [h28, if_pos rfl] at hks
       conv => whnf
       refine ⟨⟨3874, [], []⟩, ?_⟩
       conv => whnf
       rw [hwk, h26]
       have hz := hZ3 (k + 1) hkl (by omega)
       rw [hks] at hz
       exact hz
     have h26 : cpK (cpG ls.length cs[i].1 (nmC cs i) cs[i].2) cs[i].2 k ≠ 0 := fun e => by have h : (cpK (cpG ls.length cs[i].1 (nmC cs i) cs[i].2) cs[i].2 k == 0) = false := h26; rw [e] at h; cases h
     rw [cpK_last hk h26, ← hcf]
     conv => whnf
     refine bcase_iff.2 ⟨fun h30 => ?_, fun h30 => ?_⟩
     · have h30 : cpF ls.length cs i ≠ 0 := by simpa using h30
       conv => whnf
       first | rw [← hG] | skip
       unfold chk
       rw [g1, if_neg (by simp)]
       unfold chk1
       rw [g3, if_neg (by simp), firstR_no hd, if_neg (by simp)]
       unfold chk2
       rw [g15, if_neg (by simp), firstR_at hlc hdc h30, if_pos h30]
       all_goals rfl
     have h30 : cpF ls.length cs i = 0 := by simpa using h30
     conv => whnf
     refine ⟨_, rfl, ?_⟩
     conv => whnf
     refine ⟨lim (by simp; omega), ?_⟩
     conv => whnf
     refine ⟨⟨290, [9, 111, 112, 1009, 2009, 3009, 4009], []⟩, ?_⟩
     conv => whnf
     rw [hwc]
     have hz := hZ2 (i + 1) ⟨hlc, up_succ hdc h30⟩ (by omega)
     rw [show nmC cs (i + 1) = nmC cs i ++ [cs[i].1] from by unfold nmC; rw [take_succ' hlc, List.map_append]; rfl] at hz
     exact hz
   have hkl : k = cs[i].2.length := by have := of_decide_eq_false g26_5; omega
   rw [hkl, ← hcf]
   conv => whnf
   refine bcase_iff.2 ⟨fun h30 => ?_, fun h30 => ?_⟩
   · have h30 : cpF ls.length cs i ≠ 0 := by simpa using h30
     conv => whnf
     first | rw [← hG] | skip
     unfold chk
     rw [g1, if_neg (by simp)]
     unfold chk1
     rw [g3, if_neg (by simp), firstR_no hd, if_neg (by simp)]
     unfold chk2
     rw [g15, if_neg (by simp), firstR_at hlc hdc h30, if_pos h30]
     all_goals rfl
   have h30 : cpF ls.length cs i = 0 := by simpa using h30
   conv => whnf
   refine ⟨_, rfl, ?_⟩
   conv => whnf
   refine ⟨lim (by simp; omega), ?_⟩
   conv => whnf
   refine ⟨⟨290, [9, 111, 112, 1009, 2009, 3009, 4009], []⟩, ?_⟩
   conv => whnf
   rw [hwc]
   have hz := hZ2 (i + 1) ⟨hlc, up_succ hdc h30⟩ (by omega)
   rw [show nmC cs (i + 1) = nmC cs i ++ [cs[i].1] from by unfold nmC; rw [take_succ' hlc, List.map_append]; rfl] at hz
   exact hz
 have hgc : i = cs.length := by have := of_decide_eq_false h19; omega
 conv => whnf
 rw [hgc] at hdc
 unfold chk
 rw [g1, if_neg (by simp)]
 unfold chk1
 rw [g3, if_neg (by simp), firstR_no hd, if_neg (by simp)]
 unfold chk2
 rw [g15, if_neg (by simp), firstR_no hdc, if_neg (by simp)]
theorem op17 : Opens PR 17 := ⟨_, Tryd.func17, rfl, rfl⟩
theorem c45 (gl : Gl) (p : Int) (ls : List Lf) (cs : List Cp) (hL : LensS ls cs) (hN : LensN ls cs) : PCalls PR gl 45 [.agg [vI p, lfsV ls, cpsV cs]] fun r => r = vB (chE p ls cs == 0) := by
 refine fnW_sound (par_ok gl) Tryd.func45 ?_
 conv => whnf
 refine byC (c17 gl p ls cs hL hN) op17 ?_
 conv => whnf
theorem op45 : Opens PR 45 := ⟨_, Tryd.func45, rfl, rfl⟩
end Go.Ab.MkF
namespace Go.Ab.MkF
open Go Go.Ab Go.Ab.Pln Go.Proofs
set_option maxHeartbeats 1000000
set_option maxRecDepth 100000
def kdU (l : List Int) (k : Nat) : Int := if k ≤ 2 then 1 else kindI l
def hvN (cs : List Cp) (l : Nat) (k : Int) (i : Nat) : Nat := ((List.range i).filter fun c => hasI cs c l == k).length
theorem hvN_succ (cs : List Cp) (l : Nat) (k : Int) (i : Nat) : hvN cs l k (i + 1) = hvN cs l k i + if (hasI cs i l == k) = true then 1 else 0 := by
 unfold hvN
 rw [List.range_succ, List.filter_append, List.length_append, List.filter_cons, List.filter_nil]
 cases hasI cs i l == k <;> rfl
abbrev hvA (cs : List Cp) (l : Nat) (k : Int) : Nat := hvN cs l k cs.length
theorem hvA_ones {cs : List Cp} (h4 : cs.length ≤ 4) (l : Nat) (k : Int) : onesN (havN cs l k) = hvA cs l k := by
 have h1 := bitsL_bitsO (c := cs.length) (by omega) (fun i => hasI cs i l == k)
 have hlt := havN_lt h4 l k
 have h2 : (bitsL (havN cs l k)).length = onesN (havN cs l k) := by rw [bitsL_below (c := 8) (by omega) (by omega)]; rfl
 rw [← h2]
 unfold havN
 rw [h1]
 rfl
def scaU (cs : List Cp) (k : Int) : Nat → Nat
 | 0 => 0
 | l + 1 => if l = 0 then 0 else if hvA cs l k < hvA cs (scaU cs k l) k then l else scaU cs k l
end Go.Ab.MkF
namespace Go.Ab.MkF
open Go Go.Ab Go.Ab.Pln
theorem cntI_cons (x : Int) (r : List Int) (k : Int) : cntI (x :: r) k = (if x = k then 1 else 0) + cntI r k := by
 unfold cntI
 rw [List.filter_cons]
 by_cases h : x = k
 · rw [if_pos h, if_pos (by simpa using h), List.length_cons]; omega
 rw [if_neg h, if_neg (by simpa using h)]; omega
theorem hostL_mem : ∀ (m : Nat) (lf pre : List Int), lf.length = 3 → (∀ k, k < 3 → 0 ≤ lf.getD k 0) → lf.getD 0 0 + lf.getD 1 0 + lf.getD 2 0 = m → ∀ q, (q ∈ hostL m lf pre ↔
  ∃ r, q = pre ++ r ∧ r.length = m ∧ (∀ x ∈ r, x = 0 ∨ x = 1 ∨ x = 2) ∧ ∀ k : Nat, k < 3 → (cntI r (k : Int) : Int) = lf.getD k 0)
 | 0, lf, pre, hl, h0, hs, q => by
  simp only [hostL, List.mem_singleton]
  constructor
  · rintro rfl
    refine ⟨[], by simp, rfl, (fun x hx => by cases hx), fun k hk => ?_⟩
    have a0 := h0 0 (by omega)
    have a1 := h0 1 (by omega)
    have a2 := h0 2 (by omega)
    show ((0 : Nat) : Int) = _
    match k, hk with
    | 0, _ => omega
    | 1, _ => omega
    | 2, _ => omega
  rintro ⟨r, rfl, hr, _⟩
  rw [List.length_eq_zero_iff.1 hr, List.append_nil]
 | m + 1, lf, pre, hl, h0, hs, q => by
  simp only [hostL, List.mem_flatMap, List.mem_range]
  have hset : ∀ k j, k < 3 → (lf.set k (lf.getD k 0 - 1)).getD j 0 = if k = j then lf.getD k 0 - 1 else lf.getD j 0 := fun k j hk => by
   by_cases e : k = j
   · subst e; rw [getD_set_self (by omega), if_pos rfl]
   rw [getD_set_ne e, if_neg e]
  have ih := fun k (hk : k < 3) (hne : lf.getD k 0 ≠ 0) => hostL_mem m (lf.set k (lf.getD k 0 - 1)) (pre ++ [(k : Int)]) (by rw [List.length_set]; exact hl) (fun j hj => by
    rw [hset k j hk]; have := h0 j hj; have := h0 k hk; split <;> omega) (by
    rw [hset k 0 hk, hset k 1 hk, hset k 2 hk]
    match k, hk with
    | 0, _ => rw [if_pos rfl, if_neg (by decide), if_neg (by decide)]; omega
    | 1, _ => rw [if_neg (by decide), if_pos rfl, if_neg (by decide)]; omega
    | 2, _ => rw [if_neg (by decide), if_neg (by decide), if_pos rfl]; omega) q
  constructor
  · rintro ⟨k, hk, hq⟩
    by_cases hne : lf.getD k 0 = 0
    · rw [if_pos hne] at hq; cases hq
    rw [if_neg hne, ih k hk hne] at hq
    obtain ⟨r, rfl, hr, hx, hc⟩ := hq
    refine ⟨(k : Int) :: r, by simp, by simp [hr], fun x hx' => ?_, fun j hj => ?_⟩
    · rcases List.mem_cons.1 hx' with rfl | hx'
      · omega
      exact hx x hx'
    have := hc j hj
    rw [hset k j hk] at this
    rw [cntI_cons]
    by_cases e : k = j
    · subst e; rw [if_pos rfl] at this ⊢; omega
    rw [if_neg e] at this; rw [if_neg (by omega)]; omega
  rintro ⟨r, rfl, hr, hx, hc⟩
  match r, hr with
  | x :: r, hr =>
   have hx0 := hx x List.mem_cons_self
   obtain ⟨k, hk, rfl⟩ : ∃ k : Nat, k < 3 ∧ x = (k : Int) := ⟨x.toNat, by omega, by omega⟩
   have hck := hc k hk
   rw [cntI_cons, if_pos rfl] at hck
   have hne : lf.getD k 0 ≠ 0 := by omega
   refine ⟨k, hk, ?_⟩
   rw [if_neg hne, ih k hk hne]
   refine ⟨r, by simp, by simpa using hr, fun y hy => hx y (List.mem_cons_of_mem _ hy), fun j hj => ?_⟩
   have := hc j hj
   rw [cntI_cons] at this
   rw [hset k j hk]
   by_cases e : k = j
   · subst e; rw [if_pos rfl] at this ⊢; omega
   rw [if_neg (by omega)] at this; rw [if_neg e]; omega
theorem cntI_all : ∀ (r : List Int), (∀ x ∈ r, x = 0 ∨ x = 1 ∨ x = 2) → cntI r 0 + cntI r 1 + cntI r 2 = r.length
 | [], _ => rfl
 | x :: r, h => by
  have ih := cntI_all r fun y hy => h y (List.mem_cons_of_mem _ hy)
  rw [cntI_cons, cntI_cons, cntI_cons, List.length_cons]
  rcases h x List.mem_cons_self with rfl | rfl | rfl <;> simp <;> omega
theorem most_le {cs : List Cp} (h4 : cs.length ≤ 4) (k : Int) : ∀ L l, l < L → (mostU cs k L).1 ≤ hvA cs l k
 | 0, _, h => absurd h (Nat.not_lt_zero _)
 | L + 1, l, h => by
  have hs : mostU cs k (L + 1) = if onesN (havN cs L k) < (mostU cs k L).1 then (onesN (havN cs L k), L) else mostU cs k L := rfl
  rw [hs, hvA_ones h4]
  rcases Nat.lt_or_eq_of_le (Nat.le_of_lt_succ h) with h1 | rfl
  · have ih := most_le h4 k L l h1
    split
    · show hvA cs L k ≤ _; omega
    exact ih
  split
  · exact Nat.le_refl _
  omega
theorem hvN_two (cs : List Cp) (l : Nat) {k k' : Int} (hk : k ≠ k') : ∀ i, hvN cs l k i + hvN cs l k' i ≤ i
 | 0 => Nat.le_refl _
 | i + 1 => by
  have ih := hvN_two cs l hk i
  rw [hvN_succ, hvN_succ]
  by_cases h : hasI cs i l = k
  · rw [if_pos (by simpa using h), if_neg (by rw [h]; simpa using hk)]; omega
  rw [if_neg (by simpa using h)]; split <;> omega
theorem most_two {ls : List Lf} {cs : List Cp} (h4 : cs.length ≤ 4) (hn : 1 ≤ ls.length) : (mostN ls cs 1).1 + (mostN ls cs 2).1 ≤ cs.length := by
 have h1 := most_le h4 1 ls.length 0 (by omega)
 have h2 := most_le h4 2 ls.length 0 (by omega)
 have h3 : hvA cs 0 1 + hvA cs 0 2 ≤ cs.length := hvN_two cs 0 (show (1 : Int) ≠ 2 by decide) cs.length
 unfold mostN
 omega
structure HostOk (ls : List Lf) (cs : List Cp) (h : List Int) : Prop where
 len : h.length = cs.length
 kind : ∀ x ∈ h, x = 0 ∨ x = 1 ∨ x = 2
 one : cntI h 1 = (mostN ls cs 1).1
 two : cntI h 2 = (mostN ls cs 2).1
theorem hostA_mem {ls : List Lf} {cs : List Cp} (h4 : cs.length ≤ 4) (hn : 1 ≤ ls.length) {h : List Int} : h ∈ hostA ls cs ↔ HostOk ls cs h := by
 have h2 := most_two h4 hn
 have hlf : leftU ls cs 3 = [(cs.length : Int) - (mostN ls cs 1).1 - (mostN ls cs 2).1, ((mostN ls cs 1).1 : Int), ((mostN ls cs 2).1 : Int)] := rfl
 unfold hostA
 rw [hostL_mem cs.length (leftU ls cs 3) [] (leftU_len _ _ _) (fun k hk => by
   rw [hlf]
   match k, hk with
   | 0, _ => show 0 ≤ (cs.length : Int) - _ - _; omega
   | 1, _ => show (0 : Int) ≤ ((mostN ls cs 1).1 : Int); omega
   | 2, _ => show (0 : Int) ≤ ((mostN ls cs 2).1 : Int); omega) (by
   rw [hlf]
   show (cs.length : Int) - _ - _ + ((mostN ls cs 1).1 : Int) + ((mostN ls cs 2).1 : Int) = _
   omega) h]
 constructor
 · rintro ⟨r, hrr, hr, hx, hc⟩
   rw [List.nil_append] at hrr
   subst hrr
   rw [hlf] at hc
   refine ⟨hr, hx, ?_, ?_⟩
   · have := hc 1 (by omega)
     have this : (cntI h 1 : Int) = ((mostN ls cs 1).1 : Int) := this
     omega
   have := hc 2 (by omega)
   have this : (cntI h 2 : Int) = ((mostN ls cs 2).1 : Int) := this
   omega
 rintro ⟨h1, hx, hc1, hc2⟩
 have ha := cntI_all h hx
 refine ⟨h, rfl, h1, hx, fun k hk => ?_⟩
 rw [hlf]
 match k, hk with
 | 0, _ => show (cntI h 0 : Int) = (cs.length : Int) - _ - _; omega
 | 1, _ => show (cntI h 1 : Int) = _; rw [hc1]; rfl
 | 2, _ => show (cntI h 2 : Int) = _; rw [hc2]; rfl
theorem pad_get {h : List Int} (c : Nat) : (pad4 h).getD c 0 = h.getD c 0 := by
 rcases Nat.lt_or_ge c h.length with hc | hc
 · rw [getD_at (by rw [List.length_append]; omega), getD_at hc, List.getElem_append_left hc]
 rw [List.getD_eq_getElem?_getD, List.getD_eq_getElem?_getD, List.getElem?_eq_none hc, List.getElem?_append_right hc]
 rcases Nat.lt_or_ge (c - h.length) (4 - h.length) with h2 | h2
 · rw [List.getElem?_replicate, if_pos h2]; rfl
 rw [List.getElem?_replicate, if_neg (by omega)]
theorem HostOk.nn {ls : List Lf} {cs : List Cp} {h : List Int} (hh : HostOk ls cs h) (c : Nat) : 0 ≤ (pad4 h).getD c 0 ∧ (pad4 h).getD c 0 ≤ 2 := by
 rw [pad_get]
 rcases Nat.lt_or_ge c h.length with hc | hc
 · rw [getD_at hc]; have := hh.kind _ (List.getElem_mem hc); omega
 rw [List.getD_eq_getElem?_getD, List.getElem?_eq_none hc]; decide
def tbOf (f : Nat → Nat → Int) : Tb := (List.range 4).map fun c => (List.range 6).map fun l => f c l
theorem tbOf_ok (f : Nat → Nat → Int) : Tb46 (tbOf f) := ⟨rfl, fun c hc => by
 unfold tbOf
 rw [getD_at (xs := (List.range 4).map fun c => (List.range 6).map fun l => f c l) (i := c) (by simp; exact hc)]
 simp⟩
theorem tbOf_get {f : Nat → Nat → Int} {c l : Nat} (hc : c < 4) (hl : l < 6) : get2 (tbOf f) c l = f c l := by
 unfold get2 tbOf
 rw [getD_at (xs := (List.range 4).map fun c => (List.range 6).map fun l => f c l) (i := c) (by simp; exact hc), List.getElem_map, getD_at (by simp; exact hl)]
 simp
theorem tbOf_out {f : Nat → Nat → Int} {c l : Nat} (h : ¬ (c < 4 ∧ l < 6)) : get2 (tbOf f) c l = 0 := by
 unfold get2 tbOf
 rcases Nat.lt_or_ge c 4 with hc | hc
 · rw [getD_at (xs := (List.range 4).map fun c => (List.range 6).map fun l => f c l) (i := c) (by simp; exact hc), List.getElem_map, List.getD_eq_getElem?_getD, List.getElem?_eq_none]
   · rfl
   simp; omega
 rw [List.getD_eq_getElem?_getD (l := List.map _ _), List.getElem?_eq_none (by simp; omega)]; rfl
def needL (cs : List Cp) (H : List Int) (l : Nat) (k : Int) : List Nat := (List.range cs.length).filter fun c => H.getD c 0 == k && hasI cs c l != k
def freeL (cs : List Cp) (H : List Int) (l : Nat) (k : Int) : List Nat := (List.range cs.length).filter fun d => hasI cs d l == k && H.getD d 0 != k
theorem range_split (p q : Nat → Bool) : ∀ i, ((List.range i).filter fun c => p c && !q c).length + ((List.range i).filter fun c => p c && q c).length = ((List.range i).filter p).length
 | 0 => rfl
 | i + 1 => by
  have ih := range_split p q i
  simp only [List.range_succ, List.filter_append, List.length_append, List.filter_cons, List.filter_nil]
  cases p i <;> cases q i <;> simp <;> omega
theorem cnt_host (H : List Int) (k : Int) : ∀ i, i ≤ H.length → ((List.range i).filter fun c => H.getD c 0 == k).length = cntI (H.take i) k
 | 0, _ => rfl
 | i + 1, h => by
  rw [List.range_succ, List.filter_append, List.length_append, cnt_host H k i (by omega), cntI_succ (by omega), List.filter_cons, List.filter_nil, getD_at (by omega : i < H.length)]
  by_cases e : H[i] = k
  · rw [if_pos e, if_pos (by simpa using e)]; rfl
  rw [if_neg e, if_neg (by simpa using e)]; rfl
theorem need_free {ls : List Lf} {cs : List Cp} (h4 : cs.length ≤ 4) {h : List Int} (hh : HostOk ls cs h) {l : Nat} (hl : l < ls.length) {k : Int} (hk : k = 1 ∨ k = 2) : (needL cs (pad4 h) l k).length ≤ (freeL cs (pad4 h) l k).length := by
 have e1 := range_split (fun c => (pad4 h).getD c 0 == k) (fun c => hasI cs c l == k) cs.length
 have e2 := range_split (fun c => hasI cs c l == k) (fun c => (pad4 h).getD c 0 == k) cs.length
 have e3 : ((List.range cs.length).filter fun c => (pad4 h).getD c 0 == k && hasI cs c l == k).length = ((List.range cs.length).filter fun c => hasI cs c l == k && (pad4 h).getD c 0 == k).length := by
  congr 1
  apply List.filter_congr
  intro c _
  rw [Bool.and_comm]
 have e4 : ((List.range cs.length).filter fun c => (pad4 h).getD c 0 == k).length = cntI h k := by
  have : ((List.range cs.length).filter fun c => (pad4 h).getD c 0 == k) = (List.range cs.length).filter fun c => h.getD c 0 == k := by
   apply List.filter_congr
   intro c _
   rw [pad_get]
  rw [this, cnt_host h k _ (by rw [hh.len]; exact Nat.le_refl _), ← hh.len, List.take_length]
 have e5 : (mostN ls cs k).1 ≤ hvA cs l k := most_le h4 k ls.length l hl
 have e6 : cntI h k = (mostN ls cs k).1 := by rcases hk with rfl | rfl; exact hh.one; exact hh.two
 unfold needL freeL
 unfold hvA hvN at e5
 have e7 : ((List.range cs.length).filter fun c => (pad4 h).getD c 0 == k && hasI cs c l != k) = (List.range cs.length).filter fun c => (pad4 h).getD c 0 == k && !(hasI cs c l == k) := rfl
 have e8 : ((List.range cs.length).filter fun c => hasI cs c l == k && (pad4 h).getD c 0 != k) = (List.range cs.length).filter fun c => hasI cs c l == k && !((pad4 h).getD c 0 == k) := rfl
 rw [e7, e8]
 omega
def fromI (cs : List Cp) (H : List Int) (c l : Nat) : Nat := if hasI cs c l = H.getD c 0 then c else (freeL cs H l (H.getD c 0)).getD ((needL cs H l (H.getD c 0)).idxOf c) 0
theorem from_don {ls : List Lf} {cs : List Cp} (h4 : cs.length ≤ 4) {h : List Int} (hh : HostOk ls cs h) {c l : Nat} (hc : c < cs.length) (hl : l < ls.length) (h0 : (pad4 h).getD c 0 ≠ 0) (hne : hasI cs c l ≠ (pad4 h).getD c 0) :
  (needL cs (pad4 h) l ((pad4 h).getD c 0)).idxOf c < (freeL cs (pad4 h) l ((pad4 h).getD c 0)).length ∧ c ∈ needL cs (pad4 h) l ((pad4 h).getD c 0) ∧ fromI cs (pad4 h) c l ∈ freeL cs (pad4 h) l ((pad4 h).getD c 0) := by
 have hn := hh.nn c
 have hle := need_free h4 hh hl (k := (pad4 h).getD c 0) (by omega)
 have hm : c ∈ needL cs (pad4 h) l ((pad4 h).getD c 0) := by
  unfold needL
  rw [List.mem_filter, List.mem_range]
  exact ⟨hc, by simpa using hne⟩
 have hi := List.idxOf_lt_length_of_mem hm
 refine ⟨by omega, hm, ?_⟩
 unfold fromI
 rw [if_neg hne, getD_at (xs := freeL cs (pad4 h) l ((pad4 h).getD c 0)) (by omega)]
 exact List.getElem_mem _
theorem free_mem {cs : List Cp} {H : List Int} {l d : Nat} {k : Int} : d ∈ freeL cs H l k ↔ d < cs.length ∧ hasI cs d l = k ∧ H.getD d 0 ≠ k := by
 unfold freeL
 rw [List.mem_filter, List.mem_range, Bool.and_eq_true, beq_iff_eq, bne_iff_ne]
theorem idx_inj {l : List Nat} {a b : Nat} (ha : a ∈ l) (hb : b ∈ l) (h : l.idxOf a = l.idxOf b) : a = b := by
 have h1 := List.getElem_idxOf (List.idxOf_lt_length_of_mem ha)
 have h2 := List.getElem_idxOf (List.idxOf_lt_length_of_mem hb)
 simp only [h] at h1
 exact h1.symm.trans h2
theorem from_inj {ls : List Lf} {cs : List Cp} (h4 : cs.length ≤ 4) {h : List Int} (hh : HostOk ls cs h) {c c' l : Nat} (hc : c < cs.length) (hc' : c' < cs.length) (hl : l < ls.length) (h0 : (pad4 h).getD c 0 ≠ 0) (h0' : (pad4 h).getD c' 0 ≠ 0) (hcc : c ≠ c') :
  fromI cs (pad4 h) c l ≠ fromI cs (pad4 h) c' l := by
 have one : ∀ {a b : Nat}, b < cs.length → (pad4 h).getD b 0 ≠ 0 → hasI cs a l = (pad4 h).getD a 0 → hasI cs b l ≠ (pad4 h).getD b 0 → fromI cs (pad4 h) a l ≠ fromI cs (pad4 h) b l := fun {a b} hb hb0 ha hbn e => by
  have h1 := (from_don h4 hh hb hl hb0 hbn).2.2
  rw [← e] at h1
  unfold fromI at h1
  rw [if_pos ha, free_mem] at h1
  exact h1.2.2 (by rw [← ha, h1.2.1])
 by_cases ho : hasI cs c l = (pad4 h).getD c 0
 · by_cases ho' : hasI cs c' l = (pad4 h).getD c' 0
   · unfold fromI; rw [if_pos ho, if_pos ho']; exact hcc
   exact one hc' h0' ho ho'
 by_cases ho' : hasI cs c' l = (pad4 h).getD c' 0
 · exact (one hc h0 ho' ho).symm
 obtain ⟨g1, g2, g3⟩ := from_don h4 hh hc hl h0 ho
 obtain ⟨g1', g2', g3'⟩ := from_don h4 hh hc' hl h0' ho'
 intro e
 by_cases hk : (pad4 h).getD c 0 = (pad4 h).getD c' 0
 · unfold fromI at e
   rw [if_neg ho, if_neg ho', ← hk] at e
   rw [← hk] at g1' g2'
   rw [getD_at (xs := freeL cs (pad4 h) l ((pad4 h).getD c 0)) g1, getD_at (xs := freeL cs (pad4 h) l ((pad4 h).getD c 0)) g1'] at e
   have hnd : (freeL cs (pad4 h) l ((pad4 h).getD c 0)).Nodup := List.nodup_range.filter _
   have := (List.getElem_inj hnd).1 e
   exact hcc (idx_inj g2 g2' this)
 rw [e] at g3
 exact hk ((free_mem.1 g3).2.1.symm.trans (free_mem.1 g3').2.1)
theorem plan_ex {ls : List Lf} {cs : List Cp} (h4 : cs.length ≤ 4) (hn6 : ls.length ≤ 6) {h : List Int} (hh : HostOk ls cs h) : ∃ Q, PlOk ls.length cs (pad4 h) Q := by
 let tk : Nat → Nat → Bool := fun c l => (List.range cs.length).any fun c' => decide ((pad4 h).getD c' 0 ≠ 0) && fromI cs (pad4 h) c' l == c
 let f : Nat → Nat → Int := fun c l => if c < cs.length ∧ l < ls.length then (if (pad4 h).getD c 0 ≠ 0 then (fromI cs (pad4 h) c l : Int) else if hasI cs c l > 0 ∧ tk c l = false then (c : Int) else -1) else 0
 have hg : ∀ c l, get2 (tbOf f) c l = f c l := fun c l => by
  by_cases e : c < 4 ∧ l < 6
  · exact tbOf_get e.1 e.2
  rw [tbOf_out e]
  show 0 = if c < cs.length ∧ l < ls.length then _ else (0 : Int)
  rw [if_neg (by omega)]
 have hin : ∀ c l, c < cs.length → l < ls.length → (pad4 h).getD c 0 ≠ 0 → f c l = (fromI cs (pad4 h) c l : Int) := fun c l a1 a2 a3 => by
  show (if c < cs.length ∧ l < ls.length then _ else _) = _
  rw [if_pos ⟨a1, a2⟩, if_pos a3]
 have hre : ∀ c l, c < cs.length → l < ls.length → (pad4 h).getD c 0 = 0 → f c l = if hasI cs c l > 0 ∧ tk c l = false then (c : Int) else -1 := fun c l a1 a2 a3 => by
  show (if c < cs.length ∧ l < ls.length then _ else _) = _
  rw [if_pos ⟨a1, a2⟩, if_neg (by simpa using a3)]
 have htk : ∀ c l, l < ls.length → (tk c l = false ↔ ∀ c', c' < cs.length → (pad4 h).getD c' 0 ≠ 0 → f c' l ≠ (c : Int)) := fun c l hl => by
  show ((List.range cs.length).any _) = false ↔ _
  rw [List.any_eq_false]
  constructor
  · intro hall c' a1 a2 e
    have := hall c' (List.mem_range.2 a1)
    rw [hin c' l a1 hl a2] at e
    rw [decide_eq_true a2, Bool.true_and, beq_iff_eq] at this
    exact this (by omega)
  intro hall c' hc'
  have hc' := List.mem_range.1 hc'
  intro hb
  rw [Bool.and_eq_true, decide_eq_true_eq, beq_iff_eq] at hb
  exact hall c' hc' hb.1 (by rw [hin c' l hc' hl hb.1, hb.2])
 refine ⟨tbOf f, tbOf_ok f, fun c x hz => ?_, fun c x a1 a2 a3 a4 => ?_, fun c x a1 a2 a3 a4 => ?_, fun c c' x a1 a2 a3 a4 a5 a6 => ?_, fun c x a1 a2 a3 a4 a5 => ?_, fun c x a1 a2 a3 a4 => ?_⟩
 · rw [hg]; show (if c < cs.length ∧ x < ls.length then _ else (0 : Int)) = 0; rw [if_neg hz]
 · rw [hg, hin c x a1 a2 a3]; unfold fromI; rw [if_pos a4]
 · obtain ⟨_, _, g3⟩ := from_don h4 hh a1 a2 a3 a4
   obtain ⟨b1, b2, b3⟩ := free_mem.1 g3
   exact ⟨_, b1, by rw [hg, hin c x a1 a2 a3], b2, b3⟩
 · rw [hg, hg, hin c x a1 a3 a4, hin c' x a2 a3 a5]
   have := from_inj h4 hh a1 a2 a3 a4 a5 a6
   omega
 · rw [hg, hre c x a1 a2 a3, if_pos]
   exact ⟨a4, (htk c x a2).2 fun c' b1 b2 => by have := a5 c' b1 b2; rwa [hg] at this⟩
 rw [hg, hre c x a1 a2 a3, if_neg]
 rintro ⟨b1, b2⟩
 exact a4 ⟨b1, fun c' c1 c2 => by rw [hg]; exact (htk c x a2).1 b2 c' c1 c2⟩
end Go.Ab.MkF
namespace Go.Ab.MkF
open Go Go.Ab Go.Ab.Pln
theorem befL_cons (x y : Int) (a b : List Int) : befL (x :: a) (y :: b) = (decide (x < y) || (decide (x = y) && befL a b)) := by
 rw [← cmpL_lt, ← cmpL_lt, cmpL_cons]
 rcases Int.lt_trichotomy x y with h | rfl | h
 · rw [if_neg (by omega), if_pos h, decide_eq_true h]; rfl
 · rw [if_pos rfl]; simp
 rw [if_neg (by omega), if_neg (by omega)]; simp; omega
theorem befL_app : ∀ {a b c d : List Int}, a.length = b.length → befL (a ++ c) (b ++ d) = if a = b then befL c d else befL a b
 | [], [], c, d, _ => by simp
 | x :: a, y :: b, c, d, h => by
  rw [List.cons_append, List.cons_append, befL_cons, befL_cons, befL_app (by simpa using h)]
  by_cases hxy : x = y
  · subst hxy
    by_cases hab : a = b
    · subst hab; rw [if_pos rfl, if_pos rfl]; simp
    rw [if_neg hab, if_neg (fun e => hab (List.cons.inj e).2)]
  rw [if_neg (fun e => hxy (List.cons.inj e).1)]
  simp [hxy]
theorem rwC_zero {n : Nat} {P Q : Tb} {c : Nat} (hl : ((P.getD c []).take n).length = ((Q.getD c []).take n).length) : rwC n P Q c = 0 ↔ (P.getD c []).take n = (Q.getD c []).take n := by
 unfold rwC
 constructor
 · intro h
   refine befL_total _ _ hl ?_ ?_
   · cases hb : befL ((P.getD c []).take n) ((Q.getD c []).take n) with
     | false => rfl
     | true => have := (cmpL_lt' _ _).2 hb; omega
   cases hb : befL ((Q.getD c []).take n) ((P.getD c []).take n) with
   | false => rfl
   | true => have := (cmpL_gt' _ _).2 hb; omega
 intro h
 rw [h]
 have h1 : ¬ cmpL cmpI ((Q.getD c []).take n) ((Q.getD c []).take n) < 0 := fun e => by have := (cmpL_lt' _ _).1 e; rw [befL_irr] at this; cases this
 have h2 : ¬ cmpL cmpI ((Q.getD c []).take n) ((Q.getD c []).take n) > 0 := fun e => by have := (cmpL_gt' _ _).1 e; rw [befL_irr] at this; cases this
 omega
def flL (n : Nat) (P : Tb) : Nat → List Int
 | 0 => []
 | m + 1 => flL n P m ++ (P.getD m []).take n
theorem row_len {P : Tb} (h : Tb46 P) (n : Nat) {c : Nat} (hc : c < 4) : ((P.getD c []).take n).length = min n 6 := by rw [List.length_take, h.row c hc]
theorem flL_len {P Q : Tb} (hP : Tb46 P) (hQ : Tb46 Q) (n : Nat) : ∀ m, m ≤ 4 → (flL n P m).length = (flL n Q m).length
 | 0, _ => rfl
 | m + 1, h => by
  simp only [flL, List.length_append]
  rw [flL_len hP hQ n m (by omega), row_len hP n (by omega), row_len hQ n (by omega)]
theorem flL_eq {P Q : Tb} (hP : Tb46 P) (hQ : Tb46 Q) (n : Nat) : ∀ m, m ≤ 4 → (flL n P m = flL n Q m ↔ ∀ j, j < m → rwC n P Q j = 0)
 | 0, _ => ⟨fun _ j h => absurd h (Nat.not_lt_zero j), fun _ => rfl⟩
 | m + 1, h => by
  have ih := flL_eq hP hQ n m (by omega)
  have hl := flL_len hP hQ n m (by omega)
  have hr := rwC_zero (n := n) (P := P) (Q := Q) (c := m) (by rw [row_len hP n (by omega), row_len hQ n (by omega)])
  simp only [flL]
  rw [show flL n P m ++ (P.getD m []).take n = flL n Q m ++ (Q.getD m []).take n ↔ flL n P m = flL n Q m ∧ (P.getD m []).take n = (Q.getD m []).take n from ⟨fun h => List.append_inj h hl, fun ⟨h1, h2⟩ => by rw [h1, h2]⟩, ih, ← hr]
  constructor
  · rintro ⟨h1, h2⟩ j hj
    rcases Nat.lt_or_eq_of_le (Nat.le_of_lt_succ hj) with h3 | rfl
    · exact h1 j h3
    exact h2
  exact fun h1 => ⟨fun j hj => h1 j (by omega), h1 m (by omega)⟩
theorem rowsB_bef {P Q : Tb} (hP : Tb46 P) (hQ : Tb46 Q) (n : Nat) : ∀ m, m ≤ 4 → rowsB n P Q m = befL (flL n P m) (flL n Q m)
 | 0, _ => rfl
 | m + 1, h => by
  have ih := rowsB_bef hP hQ n m (by omega)
  have he := flL_eq hP hQ n m (by omega)
  simp only [flL]
  rw [befL_app (flL_len hP hQ n m (by omega))]
  by_cases hall : ∀ j, j < m → rwC n P Q j = 0
  · rw [if_pos (he.2 hall)]
    by_cases h0 : rwC n P Q m = 0
    · rw [rows_no (fun j hj => by
       rcases Nat.lt_or_eq_of_le (Nat.le_of_lt_succ hj) with h3 | rfl
       · exact hall j h3
       · exact h0)]
      have := (rwC_zero (by rw [row_len hP n (by omega), row_len hQ n (by omega)])).1 h0
      rw [this, befL_irr]
    rw [rows_hit (Nat.lt_succ_self m) hall h0]
    unfold rwC
    exact cmpL_lt _ _
  rw [if_neg (fun e => hall (he.1 e)), ← ih]
  have : ∃ c, c < m ∧ (∀ j, j < c → rwC n P Q j = 0) ∧ rwC n P Q c ≠ 0 := by
   apply Classical.byContradiction
   intro hno
   apply hall
   intro j
   induction j using Nat.strongRecOn with
   | _ j ihj =>
    intro hj
    apply Classical.byContradiction
    intro h0
    exact hno ⟨j, hj, fun i hi => ihj i hi (by omega), h0⟩
  obtain ⟨c, hc, h1, h2⟩ := this
  rw [rows_hit (show c < m + 1 by omega) h1 h2, rows_hit hc h1 h2]
def keyV (n m : Nat) (v : Way) : List Int := v.2.1 :: v.2.2 :: flL n v.1 m
theorem betB_key {n m : Nat} (hm : m ≤ 4) {v w : Way} (hv : Tb46 v.1) (hw : Tb46 w.1) : betB n m v w = befL (keyV n m v) (keyV n m w) := by
 unfold betB keyV
 rw [befL_cons, befL_cons, ← rowsB_bef hv hw n m hm]
 by_cases h1 : v.2.1 = w.2.1
 · rw [if_neg (by simpa using h1), decide_eq_true h1, decide_eq_false (by omega : ¬ v.2.1 < w.2.1)]
   by_cases h2 : v.2.2 = w.2.2
   · rw [if_neg (by simpa using h2), decide_eq_true h2, decide_eq_false (by omega : ¬ v.2.2 < w.2.2)]; rfl
   rw [if_pos (by simpa using h2), decide_eq_false h2]; simp
 rw [if_pos (by simpa using h1), decide_eq_false h1]; simp
theorem keyW_len {n m : Nat} (hm : m ≤ 4) {v w : Way} (hv : Tb46 v.1) (hw : Tb46 w.1) : (keyV n m v).length = (keyV n m w).length := by
 unfold keyV; rw [List.length_cons, List.length_cons, List.length_cons, List.length_cons, flL_len hv hw n m hm]
def stepB (n m : Nat) (w v : Way) : Way := if betB n m v w = true then v else w
theorem foldB {n m : Nat} (hm : m ≤ 4) : ∀ (l : List Way) (w : Way), (∀ v ∈ l, Tb46 v.1) → Tb46 w.1 → (l.foldl (stepB n m) w = w ∨ l.foldl (stepB n m) w ∈ l) ∧ Tb46 (l.foldl (stepB n m) w).1 ∧
  befL (keyV n m w) (keyV n m (l.foldl (stepB n m) w)) = false ∧ ∀ v ∈ l, befL (keyV n m v) (keyV n m (l.foldl (stepB n m) w)) = false
 | [], w, _, hw => ⟨.inl rfl, hw, befL_irr _, fun v hv => by cases hv⟩
 | a :: l, w, hl, hw => by
  have ha := hl a List.mem_cons_self
  have hs : Tb46 (stepB n m w a).1 := by unfold stepB; split <;> assumption
  obtain ⟨h1, h2, h3, h4⟩ := foldB hm l (stepB n m w a) (fun v hv => hl v (List.mem_cons_of_mem _ hv)) hs
  rw [List.foldl_cons]
  generalize hb : l.foldl (stepB n m) (stepB n m w a) = b at h1 h2 h3 h4
  have neg : ∀ x : Way, Tb46 x.1 → befL (keyV n m x) (keyV n m (stepB n m w a)) = false → befL (keyV n m x) (keyV n m b) = false := fun x hx hn => by
   cases hq : befL (keyV n m x) (keyV n m b) with
   | false => rfl
   | true =>
    cases hr : befL (keyV n m b) (keyV n m (stepB n m w a)) with
    | true => rw [befL_trans _ _ _ hq hr] at hn; cases hn
    | false =>
     have := befL_total _ _ (keyW_len hm hs h2) h3 hr
     rw [← this, hn] at hq; cases hq
  refine ⟨?_, h2, neg w hw ?_, fun v hv => ?_⟩
  · rcases h1 with h1 | h1
    · unfold stepB at h1
      split at h1
      · exact .inr (by rw [h1]; exact List.mem_cons_self)
      exact .inl h1
    exact .inr (List.mem_cons_of_mem _ h1)
  · unfold stepB
    split
    · rename_i hc
      rw [betB_key hm ha hw] at hc
      cases hq : befL (keyV n m w) (keyV n m a) with
      | false => rfl
      | true => have := befL_trans _ _ _ hq hc; rw [befL_irr] at this; cases this
    exact befL_irr _
  rcases List.mem_cons.1 hv with rfl | hv
  · refine neg v ha ?_
    unfold stepB
    split
    · exact befL_irr _
    rename_i hc
    rw [betB_key hm ha hw] at hc
    simpa using hc
  exact h4 v hv
end Go.Ab.MkF
namespace Go.Ab.MkF
open Go Go.Ab Go.Ab.Pln
def mvR (Q : Tb) (c : Nat) : Nat → Nat
 | 0 => 0
 | l + 1 => mvR Q c l + if get2 Q c l ≠ (c : Int) ∧ get2 Q c l ≠ -1 then 1 else 0
def mvU (n : Nat) (Q : Tb) : Nat → Nat
 | 0 => 0
 | c + 1 => mvU n Q c + mvR Q c n
theorem PlOk.move {n : Nat} {cs : List Cp} {H : List Int} {Q : Tb} (h : PlOk n cs H Q) (hH : ∀ c, 0 ≤ H.getD c 0) {c l : Nat} (hc : c < cs.length) (hl : l < n) : (get2 Q c l ≠ (c : Int) ∧ get2 Q c l ≠ -1) ↔ (decide (H.getD c 0 > 0) && H.getD c 0 != hasI cs c l) = true := by
 rw [Bool.and_eq_true, decide_eq_true_eq, bne_iff_ne]
 have := hH c
 by_cases h0 : H.getD c 0 = 0
 · constructor
   · rintro ⟨h1, h2⟩
     exfalso
     by_cases hk : hasI cs c l > 0 ∧ ∀ c', c' < cs.length → H.getD c' 0 ≠ 0 → get2 Q c' l ≠ (c : Int)
     · exact h1 (h.keep c l hc hl h0 hk.1 hk.2)
     exact h2 (h.none c l hc hl h0 hk)
   rintro ⟨h1, _⟩; omega
 by_cases ho : hasI cs c l = H.getD c 0
 · have := h.own c l hc hl h0 ho
   exact ⟨fun ⟨h1, _⟩ => absurd this h1, fun ⟨_, h2⟩ => absurd ho.symm h2⟩
 obtain ⟨d, h1, h2, h3, h4⟩ := h.don c l hc hl h0 ho
 refine ⟨fun _ => ⟨by omega, fun e => ho e.symm⟩, fun _ => ⟨fun e => ?_, by omega⟩⟩
 obtain rfl : d = c := by omega
 exact ho h3
theorem PlOk.row {p : Int} {ls : List Lf} {cs : List Cp} (hV : Valid p ls cs) {H : List Int} {Q : Tb} (h : PlOk ls.length cs H Q) (hH : ∀ c, 0 ≤ H.getD c 0) {c : Nat} (hc : c < cs.length) : ∀ l, l ≤ ls.length → mvR Q c l = lkN (H.getD c 0) ((cs.getD c cp0).2.take l)
 | 0, _ => rfl
 | l + 1, hl => by
  have hlen := hV.len hc
  have ih := h.row hV hH hc l (by omega)
  have hm := h.move hH hc (l := l) (by omega)
  simp only [mvR]
  rw [lkN_succ (by omega), ih]
  have hg : (cs.getD c cp0).2[l]'(by omega) = hasI cs c l := by unfold hasI; rw [getD_at (by omega : l < (cs.getD c cp0).2.length)]
  rw [hg]
  by_cases e : (decide (H.getD c 0 > 0) && H.getD c 0 != hasI cs c l) = true
  · rw [if_pos e, if_pos (hm.2 e)]
  rw [if_neg e, if_neg fun q => e (hm.1 q)]
theorem PlOk.moved {p : Int} {ls : List Lf} {cs : List Cp} (hV : Valid p ls cs) {H : List Int} {Q : Tb} (h : PlOk ls.length cs H Q) (hH : ∀ c, 0 ≤ H.getD c 0) : ∀ c, c ≤ cs.length → lackU cs H c = mvU ls.length Q c
 | 0, _ => rfl
 | c + 1, hc => by
  simp only [lackU, mvU]
  rw [h.moved hV hH c (by omega), h.row hV hH (by omega) _ (Nat.le_refl _), ← hV.len (show c < cs.length by omega), List.take_length]
def waysH (ls : List Lf) (cs : List Cp) (h : List Int) : List Way := (planA ls.length cs (pad4 h)).map (wayQ ls cs (lackN cs (pad4 h)))
def allW (ls : List Lf) (cs : List Cp) : List Way := (hostA ls cs).flatMap (waysH ls cs)
abbrev w0 : Way := (z46, 25, 0)
theorem foldl_flat' {α β γ : Type} (f : α → β → α) (g : γ → List β) : ∀ (l : List γ) (s : α), (l.flatMap g).foldl f s = l.foldl (fun s x => (g x).foldl f s) s
 | [], _ => rfl
 | a :: l, s => by rw [List.flatMap_cons, List.foldl_append, List.foldl_cons, foldl_flat' f g l]
section
variable {p : Int} {ls : List Lf} {cs : List Cp}
theorem ways_mem (hV : Valid p ls cs) {h : List Int} (hh : HostOk ls cs h) {v : Way} : v ∈ waysH ls cs h ↔ ∃ Q, PlOk ls.length cs (pad4 h) Q ∧ v = wayQ ls cs (lackN cs (pad4 h)) Q := by
 unfold waysH
 rw [List.mem_map]
 constructor
 · rintro ⟨Q, hq, rfl⟩; exact ⟨Q, (planA_mem hV.m1 hV.m4 hV.n6 (fun c => (hh.nn c).1)).1 hq, rfl⟩
 rintro ⟨Q, hq, rfl⟩; exact ⟨Q, (planA_mem hV.m1 hV.m4 hV.n6 (fun c => (hh.nn c).1)).2 hq, rfl⟩
def WayIn (ls : List Lf) (cs : List Cp) (w : Way) : Prop := w = w0 ∨ ∃ h Q, HostOk ls cs h ∧ PlOk ls.length cs (pad4 h) Q ∧ w = wayQ ls cs (lackN cs (pad4 h)) Q
theorem WayIn.t {w : Way} (h : WayIn ls cs w) : Tb46 w.1 := by
 rcases h with rfl | ⟨_, Q, _, hq, rfl⟩
 · exact z46_ok
 exact hq.t
theorem lack_24 (hV : Valid p ls cs) (H : List Int) : lackN cs H ≤ 24 := by
 have := lackU_le hV H cs.length (Nat.le_refl _)
 have := hV.m4
 unfold lackN
 omega
theorem upd_step (hV : Valid p ls cs) {w : Way} (hw : WayIn ls cs w) {h : List Int} (hh : HostOk ls cs h) {v : Way} (hv : v ∈ waysH ls cs h) : updW ls.length cs.length w v = stepB ls.length cs.length w v := by
 obtain ⟨Q, hq, rfl⟩ := (ways_mem hV hh).1 hv
 have hl := lack_24 hV (pad4 h)
 unfold updW stepB
 rcases hw with rfl | ⟨h', Q', hh', hq', rfl⟩
 · have hb : betB ls.length cs.length (wayQ ls cs (lackN cs (pad4 h)) Q) w0 = true := by
    unfold betB
    have hlt : ((lackN cs (pad4 h) : Nat) : Int) < 25 := by omega
    show (if (((lackN cs (pad4 h) : Nat) : Int) != 25) = true then decide (((lackN cs (pad4 h) : Nat) : Int) < 25) else _) = true
    rw [if_pos (by simp; omega), decide_eq_true hlt]
   rw [if_pos hb, if_pos]
   rw [Bool.or_eq_true]
   right
   exact decide_eq_true (show (25 : Int) > ((lackN cs (pad4 h) : Nat) : Int) by omega)
 by_cases e : Q = Q'
 · subst e
   have hm := hq.moved hV (fun c => (hh.nn c).1) cs.length (Nat.le_refl _)
   have hm' := hq'.moved hV (fun c => (hh'.nn c).1) cs.length (Nat.le_refl _)
   have heq : wayQ ls cs (lackN cs (pad4 h)) Q = wayQ ls cs (lackN cs (pad4 h')) Q := by
    unfold lackN; rw [hm, hm']
   rw [heq]
   split <;> split <;> rfl
 have hne : ((wayQ ls cs (lackN cs (pad4 h)) Q).1 != (wayQ ls cs (lackN cs (pad4 h')) Q').1) = true := by
  show (Q != Q') = true
  simpa using e
 rw [hne, Bool.true_and]
 by_cases hb : betB ls.length cs.length (wayQ ls cs (lackN cs (pad4 h)) Q) (wayQ ls cs (lackN cs (pad4 h')) Q') = true
 · rw [hb, Bool.true_or, if_pos rfl]
 rw [if_neg hb, if_neg]
 rw [Bool.or_eq_true, not_or]
 refine ⟨hb, fun hd => hb ?_⟩
 have hd := of_decide_eq_true hd
 unfold betB
 rw [if_pos (by simp; omega), decide_eq_true hd]
theorem step_in (hV : Valid p ls cs) {w : Way} (hw : WayIn ls cs w) {h : List Int} (hh : HostOk ls cs h) {v : Way} (hv : v ∈ waysH ls cs h) : WayIn ls cs (stepB ls.length cs.length w v) := by
 unfold stepB
 split
 · obtain ⟨Q, hq, rfl⟩ := (ways_mem hV hh).1 hv
   exact .inr ⟨h, Q, hh, hq, rfl⟩
 exact hw
theorem fold_step (hV : Valid p ls cs) {h : List Int} (hh : HostOk ls cs h) : ∀ (l : List Way) (w : Way), WayIn ls cs w → (∀ v ∈ l, v ∈ waysH ls cs h) → l.foldl (updW ls.length cs.length) w = l.foldl (stepB ls.length cs.length) w ∧ WayIn ls cs (l.foldl (stepB ls.length cs.length) w)
 | [], w, hw, _ => ⟨rfl, hw⟩
 | v :: l, w, hw, hl => by
  have hv := hl v List.mem_cons_self
  rw [List.foldl_cons, List.foldl_cons, upd_step hV hw hh hv]
  exact fold_step hV hh l _ (step_in hV hw hh hv) fun u hu => hl u (List.mem_cons_of_mem _ hu)
theorem round_step (hV : Valid p ls cs) {w : Way} (hw : WayIn ls cs w) {h : List Int} (hh : HostOk ls cs h) : roundW ls cs w h = (waysH ls cs h).foldl (stepB ls.length cs.length) w ∧ WayIn ls cs (roundW ls cs w h) := by
 have hf := fold_step hV hh (waysH ls cs h) w hw fun v hv => hv
 have he : (waysH ls cs h).foldl (updW ls.length cs.length) w = (planA ls.length cs (pad4 h)).foldl (fun w q => updW ls.length cs.length w (wayQ ls cs (lackN cs (pad4 h)) q)) w := by
  unfold waysH; rw [List.foldl_map]
 unfold roundW
 by_cases hc : ((lackN cs (pad4 h) : Nat) : Int) ≤ w.2.1
 · rw [if_pos hc, ← he, hf.1]; exact ⟨rfl, hf.2⟩
 rw [if_neg hc]
 have hsame : ∀ l : List Way, (∀ v ∈ l, v ∈ waysH ls cs h) → l.foldl (stepB ls.length cs.length) w = w := by
  intro l
  induction l with
  | nil => exact fun _ => rfl
  | cons v l ih =>
   intro hl
   rw [List.foldl_cons]
   have : stepB ls.length cs.length w v = w := by
    obtain ⟨Q, hq, rfl⟩ := (ways_mem hV hh).1 (hl v List.mem_cons_self)
    unfold stepB betB
    have h2 : (wayQ ls cs (lackN cs (pad4 h)) Q).2.1 = ((lackN cs (pad4 h) : Nat) : Int) := rfl
    rw [h2, if_pos (show (((lackN cs (pad4 h) : Nat) : Int) != w.2.1) = true by simp; omega), decide_eq_false (by omega : ¬ ((lackN cs (pad4 h) : Nat) : Int) < w.2.1)]
    rfl
   rw [this]
   exact ih fun u hu => hl u (List.mem_cons_of_mem _ hu)
 rw [hsame _ fun v hv => hv]
 exact ⟨rfl, hw⟩
theorem best_all (hV : Valid p ls cs) : bestW ls cs = (allW ls cs).foldl (stepB ls.length cs.length) w0 := by
 unfold bestW allW
 rw [foldl_flat']
 have key : ∀ (l : List (List Int)) (w : Way), WayIn ls cs w → (∀ h ∈ l, HostOk ls cs h) → l.foldl (roundW ls cs) w = l.foldl (fun s x => (waysH ls cs x).foldl (stepB ls.length cs.length) s) w := by
  intro l
  induction l with
  | nil => exact fun _ _ _ => rfl
  | cons h l ih =>
   intro w hw hl
   obtain ⟨h1, h2⟩ := round_step hV hw (hl h List.mem_cons_self)
   rw [List.foldl_cons, List.foldl_cons, ← h1]
   exact ih _ h2 fun x hx => hl x (List.mem_cons_of_mem _ hx)
 exact key _ _ (.inl rfl) fun h hh => (hostA_mem hV.m4 hV.n1).1 hh
theorem host_ex (hV : Valid p ls cs) : ∃ h, HostOk ls cs h := by
 have h2 := most_two (ls := ls) hV.m4 hV.n1
 refine ⟨List.replicate (mostN ls cs 1).1 1 ++ (List.replicate (mostN ls cs 2).1 2 ++ List.replicate (cs.length - (mostN ls cs 1).1 - (mostN ls cs 2).1) 0), ?_, fun x hx => ?_, ?_, ?_⟩
 · simp; omega
 · simp only [List.mem_append, List.mem_replicate] at hx
   omega
 · unfold cntI; simp [List.filter_append, List.filter_replicate]
 unfold cntI; simp [List.filter_append, List.filter_replicate]
theorem best_spec (hV : Valid p ls cs) : ∃ h Q, HostOk ls cs h ∧ PlOk ls.length cs (pad4 h) Q ∧ bestW ls cs = wayQ ls cs (lackN cs (pad4 h)) Q ∧
  ∀ h' Q', HostOk ls cs h' → PlOk ls.length cs (pad4 h') Q' → befL (keyV ls.length cs.length (wayQ ls cs (lackN cs (pad4 h')) Q')) (keyV ls.length cs.length (bestW ls cs)) = false := by
 have hall : ∀ v, v ∈ allW ls cs ↔ ∃ h Q, HostOk ls cs h ∧ PlOk ls.length cs (pad4 h) Q ∧ v = wayQ ls cs (lackN cs (pad4 h)) Q := fun v => by
  unfold allW
  rw [List.mem_flatMap]
  constructor
  · rintro ⟨h, h1, h2⟩
    have hh := (hostA_mem hV.m4 hV.n1).1 h1
    obtain ⟨Q, hq, he⟩ := (ways_mem hV hh).1 h2
    exact ⟨h, Q, hh, hq, he⟩
  rintro ⟨h, Q, hh, hq, he⟩
  exact ⟨h, (hostA_mem hV.m4 hV.n1).2 hh, (ways_mem hV hh).2 ⟨Q, hq, he⟩⟩
 obtain ⟨h1, _, h3, h4⟩ := foldB (n := ls.length) hV.m4 (allW ls cs) w0 (fun v hv => by
  obtain ⟨_, Q, _, hq, rfl⟩ := (hall v).1 hv; exact hq.t) z46_ok
 rw [← best_all hV] at h1 h3 h4
 obtain ⟨h0, hh0⟩ := host_ex hV
 obtain ⟨Q0, hq0⟩ := plan_ex hV.m4 hV.n6 hh0
 have hle := h4 _ ((hall _).2 ⟨h0, Q0, hh0, hq0, rfl⟩)
 rcases h1 with h1 | h1
 · exfalso
   rw [h1] at hle
   unfold keyV at hle
   rw [befL_cons] at hle
   have hl := lack_24 hV (pad4 h0)
   have : ((lackN cs (pad4 h0) : Nat) : Int) < 25 := by omega
   rw [show decide ((wayQ ls cs (lackN cs (pad4 h0)) Q0).2.1 < w0.2.1) = true from decide_eq_true this] at hle
   cases hle
 obtain ⟨h, Q, hh, hq, he⟩ := (hall _).1 h1
 exact ⟨h, Q, hh, hq, he, fun h' Q' hh' hq' => h4 _ ((hall _).2 ⟨h', Q', hh', hq', rfl⟩)⟩
end
end Go.Ab.MkF
namespace Go.Ab.MkF
open Go Go.Ab Go.Ab.Pln Go.Proofs
set_option maxRecDepth 100000
def give (cs : List Cp) (a b : Nat) (k : Int) : List Cp := cs.set a ((cs.getD a cp0).1, (cs.getD a cp0).2.set b k)
theorem give_len (cs : List Cp) (a b : Nat) (k : Int) : (give cs a b k).length = cs.length := by simp [give]
theorem give_at {cs : List Cp} {a b : Nat} {k : Int} (ha : a < cs.length) : (give cs a b k).getD a cp0 = (cs[a].1, cs[a].2.set b k) := by
 unfold give; rw [getD_set_self ha, getD_at ha]
theorem give_ne {cs : List Cp} {a b c : Nat} {k : Int} (h : a ≠ c) : (give cs a b k).getD c cp0 = cs.getD c cp0 := by
 unfold give; rw [getD_set_ne h]
theorem give_names (cs : List Cp) (a b : Nat) (k : Int) : (give cs a b k).map (fun x => x.1) = cs.map fun x => x.1 := by
 apply List.ext_getElem (by simp [give])
 intro i h1 h2
 simp only [give, List.getElem_map, List.getElem_set]
 by_cases e : a = i
 · subst e
   have ha : a < cs.length := by simpa using h2
   rw [if_pos rfl, getD_at ha]
 rw [if_neg e]
theorem cpF_zero {n : Nat} {cs : List Cp} {i : Nat} (hi : i < cs.length) (h1 : nameB cs[i].1 = true) (h2 : ((cs.take i).any fun y => strEq y.1 cs[i].1) = false) (h3 : cs[i].2.length = n) (h4 : ∀ x ∈ cs[i].2, 0 ≤ x ∧ x ≤ 2) : cpF n cs i = 0 := by
 unfold cpF cpE
 rw [getD_at hi, h1, h2, if_neg (by simp), if_neg (by simp), if_neg (by simpa using h3), if_neg]
 intro h
 obtain ⟨x, hx, hb⟩ := List.any_eq_true.1 h
 have := h4 x hx
 unfold outB at hb
 rw [Bool.or_eq_true, decide_eq_true_eq, decide_eq_true_eq] at hb
 omega
theorem any_names (l : List Cp) (w : ByteArray) : (l.any fun y => strEq y.1 w) = (l.map fun x => x.1).any fun y => strEq y w := by rw [List.any_map]; rfl
theorem Valid.give {p : Int} {ls : List Lf} {cs : List Cp} (h : Valid p ls cs) {a b : Nat} {k : Int} (ha : a < cs.length) (hk : 0 ≤ k ∧ k ≤ 2) : Valid p ls (give cs a b k) := by
 have hl := give_len cs a b k
 refine ⟨h.price, h.n1, h.n6, h.leaf, by rw [hl]; exact h.m1, by rw [hl]; exact h.m4, fun i hi => ?_⟩
 have hi' : i < cs.length := by rw [← hl]; exact hi
 obtain ⟨h1, h2, h3, h4⟩ := h.cp hi'
 have hn : (Go.Ab.MkF.give cs a b k)[i].1 = cs[i].1 := by
  have e := List.getElem_of_eq (give_names cs a b k) (i := i) (by simpa using hi)
  simpa using e
 have hp : (((Go.Ab.MkF.give cs a b k).take i).any fun y => strEq y.1 (Go.Ab.MkF.give cs a b k)[i].1) = false := by
  rw [any_names, List.map_take, give_names, hn, ← List.map_take, ← any_names]; exact h4
 have hg : (Go.Ab.MkF.give cs a b k)[i] = (Go.Ab.MkF.give cs a b k).getD i cp0 := (getD_at hi).symm
 refine cpF_zero hi (by rw [hn]; exact h1) hp ?_ fun x hx => ?_
 · by_cases e : a = i
   · subst e; rw [hg, give_at ha]; simpa using h2
   rw [hg, give_ne e, getD_at hi']; exact h2
 by_cases e : a = i
 · subst e
   rw [hg, give_at ha] at hx
   rcases List.mem_or_eq_of_mem_set hx with hx | rfl
   · exact h3 x hx
   exact hk
 rw [hg, give_ne e, getD_at hi'] at hx; exact h3 x hx
end Go.Ab.MkF
namespace Go.Ab.MkF
open Go Go.Ab Go.Ab.Pln
theorem strEq_comm (a b : ByteArray) : strEq a b = strEq b a := by
 unfold strEq
 rw [Bool.eq_iff_iff]
 constructor <;> intro h <;> simp only [beq_iff_eq, decide_eq_true_eq] at h ⊢ <;> exact h.symm
theorem Valid.names {p : Int} {ls : List Lf} {cs : List Cp} (hV : Valid p ls cs) : cs.Pairwise fun x y => strEq x.1 y.1 = false := by
 rw [List.pairwise_iff_getElem]
 intro i j hi hj hij
 have := (hV.cp hj).2.2.2
 rw [List.any_eq_false] at this
 have := this cs[i] (by
  rw [List.mem_iff_getElem]
  exact ⟨i, by rw [List.length_take]; omega, by rw [List.getElem_take]⟩)
 simpa using this
theorem valid_copies {p : Int} {ls : List Lf} {cs cs' : List Cp} (hV : Valid p ls cs) (h1 : 1 ≤ cs'.length) (h4 : cs'.length ≤ 4) (hn : ∀ x ∈ cs', nameB x.1 = true) (hd : cs'.Pairwise fun x y => strEq x.1 y.1 = false)
  (hl : ∀ x ∈ cs', x.2.length = ls.length) (hr : ∀ x ∈ cs', ∀ k ∈ x.2, 0 ≤ k ∧ k ≤ 2) : Valid p ls cs' := by
 refine ⟨hV.price, hV.n1, hV.n6, hV.leaf, h1, h4, fun i hi => ?_⟩
 have hm := List.getElem_mem hi
 refine cpF_zero hi (hn _ hm) ?_ (hl _ hm) (hr _ hm)
 rw [List.any_eq_false]
 intro x hx
 obtain ⟨j, hj, rfl⟩ := List.getElem_of_mem hx
 rw [List.length_take] at hj
 rw [List.getElem_take]
 have := List.pairwise_iff_getElem.1 hd j i (by omega) hi (by omega)
 rw [this]; simp
theorem best_same {p : Int} {ls : List Lf} {cs cs' : List Cp} (hV : Valid p ls cs) (hV' : Valid p ls cs') (hm : cs'.length = cs.length)
  (h1 : ∀ h Q, HostOk ls cs h → PlOk ls.length cs (pad4 h) Q → ∃ h', HostOk ls cs' h' ∧ PlOk ls.length cs' (pad4 h') Q) (h2 : ∀ h Q, HostOk ls cs' h → PlOk ls.length cs' (pad4 h) Q → ∃ h', HostOk ls cs h' ∧ PlOk ls.length cs (pad4 h') Q)
  (hc : ∀ Q, cutN ls cs' Q = cutN ls cs Q) : keyV ls.length cs.length (bestW ls cs) = keyV ls.length cs.length (bestW ls cs') := by
 obtain ⟨h, Q, hh, hq, he, hle⟩ := best_spec hV
 obtain ⟨h', Q', hh', hq', he', hle'⟩ := best_spec hV'
 have hway : ∀ {a : List Cp} {h0 h0' : List Int} {Q0 : Tb}, Valid p ls a → a.length = cs.length → HostOk ls cs h0 → PlOk ls.length cs (pad4 h0) Q0 → HostOk ls a h0' → PlOk ls.length a (pad4 h0') Q0 → cutN ls a Q0 = cutN ls cs Q0 →
   wayQ ls a (lackN a (pad4 h0')) Q0 = wayQ ls cs (lackN cs (pad4 h0)) Q0 := fun {a h0 h0' Q0} b0 b1 b2 b3 b4 b5 b6 => by
  have e1 := b3.moved hV (fun c => (b2.nn c).1) cs.length (Nat.le_refl _)
  have e2 := b5.moved b0 (fun c => (b4.nn c).1) a.length (Nat.le_refl _)
  unfold wayQ lackN
  rw [e1, e2, b1, b6]
 obtain ⟨g, hg, hgq⟩ := h1 h Q hh hq
 obtain ⟨g', hg', hgq'⟩ := h2 h' Q' hh' hq'
 have a1 := hle g' Q' hg' hgq'
 have a2 := hle' g Q hg hgq
 rw [hway hV' hm hh hq hg hgq (hc Q), ← he, hm] at a2
 rw [← hway hV' hm hg' hgq' hh' hq' (hc Q'), ← he'] at a1
 refine befL_total _ _ (keyW_len hV.m4 ?_ ?_) a2 a1
 · rw [he]; exact hq.t
 rw [he']; exact hq'.t
theorem key_rows {n m : Nat} (hm : m ≤ 4) {v w : Way} (hv : Tb46 v.1) (hw : Tb46 w.1) (h : keyV n m v = keyV n m w) : v.2.1 = w.2.1 ∧ v.2.2 = w.2.2 ∧ rowsW v n m = rowsW w n m := by
 unfold keyV at h
 have h1 := (List.cons.inj h).1
 have h2 := (List.cons.inj (List.cons.inj h).2).1
 have h3 := (List.cons.inj (List.cons.inj h).2).2
 refine ⟨h1, h2, ?_⟩
 unfold rowsW
 apply List.map_congr_left
 intro c hc
 have hc := List.mem_range.1 hc
 exact (rwC_zero (by rw [row_len hv n (by omega), row_len hw n (by omega)])).1 ((flL_eq hv hw n m hm).1 h3 c hc)
def exK (k : Int) : Int := if k > 0 then 3 - k else k
def exgC (cs : List Cp) : List Cp := cs.map fun x => (x.1, x.2.map exK)
theorem exgC_len (cs : List Cp) : (exgC cs).length = cs.length := by simp [exgC]
theorem getD_map0 {α β : Type} (f : α → β) (l : List α) (i : Nat) (a : α) : (l.map f).getD i (f a) = f (l.getD i a) := by
 rw [List.getD_eq_getElem?_getD, List.getD_eq_getElem?_getD, List.getElem?_map]
 cases l[i]? <;> rfl
theorem hasI_ex (cs : List Cp) (c l : Nat) : hasI (exgC cs) c l = exK (hasI cs c l) := by
 unfold hasI exgC
 have h1 : (cs.map fun x : Cp => (x.1, x.2.map exK)).getD c cp0 = ((cs.getD c cp0).1, (cs.getD c cp0).2.map exK) := getD_map0 (fun x : Cp => (x.1, x.2.map exK)) cs c cp0
 have h3 : ((cs.getD c cp0).2.map exK).getD l 0 = exK ((cs.getD c cp0).2.getD l 0) := getD_map0 exK (cs.getD c cp0).2 l 0
 rw [h1]
 exact h3
theorem exK_exK {k : Int} (h : 0 ≤ k ∧ k ≤ 2) : exK (exK k) = k := by
 have : k = 0 ∨ k = 1 ∨ k = 2 := by omega
 rcases this with rfl | rfl | rfl <;> rfl
theorem exK_in {k : Int} (h : 0 ≤ k ∧ k ≤ 2) : 0 ≤ exK k ∧ exK k ≤ 2 := by unfold exK; split <;> omega
theorem exK_zero {k : Int} (h : 0 ≤ k ∧ k ≤ 2) : exK k = 0 ↔ k = 0 := by unfold exK; split <;> omega
theorem exK_pos {k : Int} (h : 0 ≤ k ∧ k ≤ 2) : exK k > 0 ↔ k > 0 := by unfold exK; split <;> omega
theorem exK_eq {a b : Int} (ha : 0 ≤ a ∧ a ≤ 2) (hb : 0 ≤ b ∧ b ≤ 2) : exK a = exK b ↔ a = b := by
 constructor
 · intro h; rw [← exK_exK ha, ← exK_exK hb, h]
 rintro rfl; rfl
theorem valid_ex {p : Int} {ls : List Lf} {cs : List Cp} (hV : Valid p ls cs) : Valid p ls (exgC cs) := by
 have hx : ∀ x ∈ exgC cs, ∃ y ∈ cs, x = (y.1, y.2.map exK) := fun x hx => by
  obtain ⟨y, hy, rfl⟩ := List.mem_map.1 hx; exact ⟨y, hy, rfl⟩
 have hc : ∀ y ∈ cs, nameB y.1 = true ∧ y.2.length = ls.length ∧ ∀ k ∈ y.2, 0 ≤ k ∧ k ≤ 2 := fun y hy => by
  obtain ⟨i, hi, rfl⟩ := List.getElem_of_mem hy
  have := hV.cp hi
  exact ⟨this.1, this.2.1, this.2.2.1⟩
 refine valid_copies hV (by rw [exgC_len]; exact hV.m1) (by rw [exgC_len]; exact hV.m4) (fun x h => ?_) ?_ (fun x h => ?_) (fun x h k hk => ?_)
 · obtain ⟨y, hy, rfl⟩ := hx x h; exact (hc y hy).1
 · exact List.pairwise_map.2 hV.names
 · obtain ⟨y, hy, rfl⟩ := hx x h; rw [List.length_map]; exact (hc y hy).2.1
 obtain ⟨y, hy, rfl⟩ := hx x h
 obtain ⟨z, hz, rfl⟩ := List.mem_map.1 hk
 exact exK_in ((hc y hy).2.2 z hz)
theorem has_in {p : Int} {ls : List Lf} {cs : List Cp} (hV : Valid p ls cs) (c l : Nat) : 0 ≤ hasI cs c l ∧ hasI cs c l ≤ 2 := by
 unfold hasI
 rcases Nat.lt_or_ge c cs.length with hc | hc
 · rcases Nat.lt_or_ge l (cs.getD c cp0).2.length with hl | hl
   · have h1 := (hV.cp hc).2.2.1
     rw [← getD_at (d := cp0) hc] at h1
     rw [getD_at hl]
     exact h1 _ (List.getElem_mem hl)
   rw [List.getD_eq_getElem?_getD (l := (cs.getD c cp0).2), List.getElem?_eq_none hl]; decide
 rw [List.getD_eq_getElem?_getD (l := cs), List.getElem?_eq_none hc]
 show 0 ≤ ([] : List Int).getD l 0 ∧ _
 simp
theorem hvN_ex {p : Int} {ls : List Lf} {cs : List Cp} (hV : Valid p ls cs) (l : Nat) {k : Int} (hk : 0 ≤ k ∧ k ≤ 2) (i : Nat) : hvN (exgC cs) l (exK k) i = hvN cs l k i := by
 unfold hvN
 congr 1
 apply List.filter_congr
 intro c _
 rw [hasI_ex, Bool.eq_iff_iff, beq_iff_eq, beq_iff_eq, exK_eq (has_in hV c l) hk]
theorem most_ex {p : Int} {ls : List Lf} {cs : List Cp} (hV : Valid p ls cs) {k : Int} (hk : 0 ≤ k ∧ k ≤ 2) : ∀ L, mostU (exgC cs) (exK k) L = mostU cs k L
 | 0 => by show ((exgC cs).length + 1, 0) = (cs.length + 1, 0); rw [exgC_len]
 | L + 1 => by
  have e : onesN (havN (exgC cs) L (exK k)) = onesN (havN cs L k) := by
   rw [hvA_ones (by rw [exgC_len]; exact hV.m4), hvA_ones hV.m4]
   unfold hvA
   rw [exgC_len, hvN_ex hV L hk]
  show (if onesN (havN (exgC cs) L (exK k)) < (mostU (exgC cs) (exK k) L).1 then (onesN (havN (exgC cs) L (exK k)), L) else mostU (exgC cs) (exK k) L) = _
  rw [e, most_ex hV hk L]
  rfl
theorem cntI_ex : ∀ (h : List Int), (∀ x ∈ h, x = 0 ∨ x = 1 ∨ x = 2) → ∀ k : Int, 0 ≤ k ∧ k ≤ 2 → cntI (h.map exK) (exK k) = cntI h k
 | [], _, _, _ => rfl
 | x :: h, hx, k, hk => by
  rw [List.map_cons, cntI_cons, cntI_cons, cntI_ex h (fun y hy => hx y (List.mem_cons_of_mem _ hy)) k hk]
  have hx0 := hx x List.mem_cons_self
  have := exK_eq (a := x) (b := k) (by omega) hk
  by_cases e : x = k
  · rw [if_pos e, if_pos (this.2 e)]
  rw [if_neg e, if_neg (fun q => e (this.1 q))]
theorem HostOk.ex {p : Int} {ls : List Lf} {cs : List Cp} (hV : Valid p ls cs) {h : List Int} (hh : HostOk ls cs h) : HostOk ls (exgC cs) (h.map exK) := by
 refine ⟨by rw [List.length_map, exgC_len]; exact hh.len, fun x hx => ?_, ?_, ?_⟩
 · obtain ⟨y, hy, rfl⟩ := List.mem_map.1 hx
   have := hh.kind y hy
   unfold exK; split <;> omega
 · have h1 := cntI_ex h hh.kind 2 (by omega)
   have h2 := most_ex hV (k := 2) (by omega) ls.length
   show cntI (h.map exK) (exK 2) = (mostU (exgC cs) (exK 2) ls.length).1
   rw [h1, h2]; exact hh.two
 have h1 := cntI_ex h hh.kind 1 (by omega)
 have h2 := most_ex hV (k := 1) (by omega) ls.length
 show cntI (h.map exK) (exK 1) = (mostU (exgC cs) (exK 1) ls.length).1
 rw [h1, h2]; exact hh.one
theorem pad_ex (h : List Int) (c : Nat) : (pad4 (h.map exK)).getD c 0 = exK ((pad4 h).getD c 0) := by
 rw [pad_get, pad_get]
 exact getD_map0 exK h c 0
theorem PlOk.ex {p : Int} {ls : List Lf} {cs : List Cp} (hV : Valid p ls cs) {h : List Int} (hh : HostOk ls cs h) {Q : Tb} (hq : PlOk ls.length cs (pad4 h) Q) : PlOk ls.length (exgC cs) (pad4 (h.map exK)) Q := by
 have hz : ∀ c, (pad4 (h.map exK)).getD c 0 = 0 ↔ (pad4 h).getD c 0 = 0 := fun c => by rw [pad_ex]; exact exK_zero (hh.nn c)
 have hs : ∀ c d x, hasI (exgC cs) d x = (pad4 (h.map exK)).getD c 0 ↔ hasI cs d x = (pad4 h).getD c 0 := fun c d x => by rw [hasI_ex, pad_ex]; exact exK_eq (has_in hV d x) (hh.nn c)
 have hp : ∀ c x, hasI (exgC cs) c x > 0 ↔ hasI cs c x > 0 := fun c x => by rw [hasI_ex]; exact exK_pos (has_in hV c x)
 refine ⟨hq.t, fun c x hn => hq.out c x (by rw [exgC_len] at hn; exact hn), fun c x a1 a2 a3 a4 => hq.own c x (by rw [exgC_len] at a1; exact a1) a2 (fun e => a3 ((hz c).2 e)) ((hs c c x).1 a4), fun c x a1 a2 a3 a4 => ?_, fun c c' x a1 a2 a3 a4 a5 a6 => ?_, fun c x a1 a2 a3 a4 a5 => ?_, fun c x a1 a2 a3 a4 => ?_⟩
 · rw [exgC_len] at a1
   obtain ⟨d, b1, b2, b3, b4⟩ := hq.don c x a1 a2 (fun e => a3 ((hz c).2 e)) (fun e => a4 ((hs c c x).2 e))
   exact ⟨d, by rw [exgC_len]; exact b1, b2, (hs c d x).2 b3, fun e => b4 (by
    rw [pad_ex, pad_ex] at e
    exact (exK_eq (hh.nn d) (hh.nn c)).1 e)⟩
 · rw [exgC_len] at a1 a2
   exact hq.inj c c' x a1 a2 a3 (fun e => a4 ((hz c).2 e)) (fun e => a5 ((hz c').2 e)) a6
 · rw [exgC_len] at a1 a5
   exact hq.keep c x a1 a2 ((hz c).1 a3) ((hp c x).1 a4) fun c' b1 b2 => a5 c' b1 fun e => b2 ((hz c').1 e)
 rw [exgC_len] at a1 a4
 exact hq.none c x a1 a2 ((hz c).1 a3) fun ⟨b1, b2⟩ => a4 ⟨(hp c x).2 b1, fun c' c1 c2 => b2 c' c1 fun e => c2 ((hz c').2 e)⟩
theorem exgC_exgC {p : Int} {ls : List Lf} {cs : List Cp} (hV : Valid p ls cs) : exgC (exgC cs) = cs := by
 unfold exgC
 rw [List.map_map]
 conv => rhs; rw [← List.map_id cs]
 apply List.map_congr_left
 intro x hx
 obtain ⟨i, hi, rfl⟩ := List.getElem_of_mem hx
 have hr := (hV.cp hi).2.2.1
 show (cs[i].1, (cs[i].2.map exK).map exK) = cs[i]
 rw [List.map_map]
 have : cs[i].2.map (exK ∘ exK) = cs[i].2 := by
  conv => rhs; rw [← List.map_id cs[i].2]
  apply List.map_congr_left
  intro k hk
  exact exK_exK (hr k hk)
 rw [this]
theorem cut_ex {p : Int} {ls : List Lf} {cs : List Cp} (hV : Valid p ls cs) (Q : Tb) : cutN ls (exgC cs) Q = cutN ls cs Q := by
 have hb : ∀ A c l, cutB ls (exgC cs) A c l = cutB ls cs A c l := fun A c l => by
  unfold cutB
  have e : (hasI (exgC cs) c l * hasI (exgC cs) c (ls.getD l lf0).2.1.toNat > 0) ↔ (hasI cs c l * hasI cs c (ls.getD l lf0).2.1.toNat > 0) := by
   rw [hasI_ex, hasI_ex]
   have h1 := has_in hV c l
   have h2 := has_in hV c (ls.getD l lf0).2.1.toNat
   generalize hasI cs c l = a at *
   generalize hasI cs c (ls.getD l lf0).2.1.toNat = b at *
   have ha : a = 0 ∨ a = 1 ∨ a = 2 := by omega
   have hb : b = 0 ∨ b = 1 ∨ b = 2 := by omega
   rcases ha with rfl | rfl | rfl <;> rcases hb with rfl | rfl | rfl <;> decide
  rw [decide_eq_decide.2 e]
 have hr : ∀ A c l, cutR ls (exgC cs) A c l = cutR ls cs A c l := fun A c l => by
  induction l with
  | zero => rfl
  | succ l ih => simp only [cutR]; rw [ih, hb]
 have hu : ∀ A c, cutU ls (exgC cs) A c = cutU ls cs A c := fun A c => by
  induction c with
  | zero => rfl
  | succ c ih => simp only [cutU]; rw [ih, hr]
 unfold cutN atA
 rw [exgC_len, hu]
theorem whole_ex {p : Int} {ls : List Lf} {cs : List Cp} (hV : Valid p ls cs) : whoV p ls (exgC cs) = whoV p ls cs := by
 have hV' := valid_ex hV
 have hk := best_same hV hV' (exgC_len cs) (fun h Q hh hq => ⟨h.map exK, hh.ex hV, hq.ex hV hh⟩) (fun h Q hh hq => by
  have h1 := hh.ex hV'
  have h2 := hq.ex hV' hh
  rw [exgC_exgC hV] at h1 h2
  exact ⟨_, h1, h2⟩) fun Q => cut_ex hV Q
 obtain ⟨h, Q, _, hq, he, _⟩ := best_spec hV
 obtain ⟨h', Q', _, hq', he', _⟩ := best_spec hV'
 obtain ⟨e1, e2, e3⟩ := key_rows hV.m4 (v := bestW ls cs) (w := bestW ls (exgC cs)) (by rw [he]; exact hq.t) (by rw [he']; exact hq'.t) hk
 unfold whoV
 rw [if_pos (chk_valid.2 hV'), if_pos (chk_valid.2 hV), exgC_len, e3, e1, e2]
 have m1 : mostN ls (exgC cs) 1 = mostN ls cs 2 := most_ex hV (k := 2) (by omega) ls.length
 have m2 : mostN ls (exgC cs) 2 = mostN ls cs 1 := most_ex hV (k := 1) (by omega) ls.length
 have hmany : manyU ls (exgC cs) 3 = manyU ls cs 3 := by
  show (((mostN ls (exgC cs) 1).1 + (mostN ls (exgC cs) 2).1 : Nat) : Int) = (((mostN ls cs 1).1 + (mostN ls cs 2).1 : Nat) : Int)
  rw [m1, m2]; omega
 rw [hmany]
end Go.Ab.MkF
namespace Go.Ab.MkF
open Go Go.Ab Go.Ab.Pln
def sm (f : Nat → Nat) : Nat → Nat
 | 0 => 0
 | i + 1 => sm f i + f i
theorem sm_list (f : Nat → Nat) : ∀ m, sm f m = ((List.range m).map f).sum
 | 0 => rfl
 | m + 1 => by rw [List.range_succ, List.map_append, List.sum_append, ← sm_list f m]; simp [sm]
theorem sm_rev (f : Nat → Nat) (m : Nat) : sm (fun c => f (m - 1 - c)) m = sm f m := by
 rw [sm_list, sm_list, ← List.sum_reverse ((List.range m).map f)]
 congr 1
 apply List.ext_getElem
 · simp
 intro i h1 h2
 simp at h1 ⊢
theorem sm_eq {f g : Nat → Nat} : ∀ {m : Nat}, (∀ c, c < m → f c = g c) → sm f m = sm g m
 | 0, _ => rfl
 | m + 1, h => by show sm f m + f m = sm g m + g m; rw [sm_eq fun c hc => h c (by omega), h m (by omega)]
theorem mvU_sm (n : Nat) (Q : Tb) : ∀ m, mvU n Q m = sm (fun c => mvR Q c n) m
 | 0 => rfl
 | m + 1 => by show mvU n Q m + mvR Q m n = _; rw [mvU_sm n Q m]; rfl
theorem mvR_sm (Q : Tb) (c : Nat) : ∀ n, mvR Q c n = sm (fun l => if get2 Q c l ≠ (c : Int) ∧ get2 Q c l ≠ -1 then 1 else 0) n
 | 0 => rfl
 | n + 1 => by show mvR Q c n + _ = _; rw [mvR_sm Q c n]; rfl
theorem cutU_sm (ls : List Lf) (cs : List Cp) (A : Tb) : ∀ m, cutU ls cs A m = sm (fun c => cutR ls cs A c ls.length) m
 | 0 => rfl
 | m + 1 => by show cutU ls cs A m + _ = _; rw [cutU_sm ls cs A m]; rfl
theorem cutR_sm (ls : List Lf) (cs : List Cp) (A : Tb) (c : Nat) : ∀ n, cutR ls cs A c n = sm (fun l => if cutB ls cs A c l = true then 1 else 0) n
 | 0 => rfl
 | n + 1 => by show cutR ls cs A c n + _ = _; rw [cutR_sm ls cs A c n]; rfl
theorem hvN_sm (cs : List Cp) (l : Nat) (k : Int) : ∀ m, hvN cs l k m = sm (fun c => if (hasI cs c l == k) = true then 1 else 0) m
 | 0 => rfl
 | m + 1 => by rw [hvN_succ, hvN_sm cs l k m]; rfl
theorem getD_rev {α : Type} (xs : List α) (a : α) {c : Nat} (hc : c < xs.length) : xs.reverse.getD c a = xs.getD (xs.length - 1 - c) a := by
 rw [getD_at (by rw [List.length_reverse]; exact hc), getD_at (by omega), List.getElem_reverse]
theorem hasI_rev {cs : List Cp} {c : Nat} (hc : c < cs.length) (l : Nat) : hasI cs.reverse c l = hasI cs (cs.length - 1 - c) l := by
 unfold hasI; rw [getD_rev cs cp0 hc]
theorem hvA_rev (cs : List Cp) (l : Nat) (k : Int) : hvA cs.reverse l k = hvA cs l k := by
 show hvN cs.reverse l k cs.reverse.length = hvN cs l k cs.length
 rw [List.length_reverse, hvN_sm, hvN_sm, ← sm_rev (fun c => if (hasI cs c l == k) = true then 1 else 0)]
 exact sm_eq fun c hc => by rw [hasI_rev hc]
theorem most_rev {cs : List Cp} (h4 : cs.length ≤ 4) (k : Int) : ∀ L, mostU cs.reverse k L = mostU cs k L
 | 0 => by show (cs.reverse.length + 1, 0) = (cs.length + 1, 0); rw [List.length_reverse]
 | L + 1 => by
  have e : onesN (havN cs.reverse L k) = onesN (havN cs L k) := by
   rw [hvA_ones (by rw [List.length_reverse]; exact h4), hvA_ones h4, hvA_rev]
  show (if onesN (havN cs.reverse L k) < (mostU cs.reverse k L).1 then (onesN (havN cs.reverse L k), L) else mostU cs.reverse k L) = _
  rw [e, most_rev h4 k L]
  rfl
theorem cntI_rev (h : List Int) (k : Int) : cntI h.reverse k = cntI h k := by unfold cntI; rw [List.filter_reverse, List.length_reverse]
theorem strEq_sw {a b : ByteArray} (h : strEq a b = false) : strEq b a = false := by rw [strEq_comm]; exact h
theorem valid_rev {p : Int} {ls : List Lf} {cs : List Cp} (hV : Valid p ls cs) : Valid p ls cs.reverse := by
 have hc : ∀ y ∈ cs.reverse, nameB y.1 = true ∧ y.2.length = ls.length ∧ ∀ k ∈ y.2, 0 ≤ k ∧ k ≤ 2 := fun y hy => by
  obtain ⟨i, hi, rfl⟩ := List.getElem_of_mem (List.mem_reverse.1 hy)
  have := hV.cp hi
  exact ⟨this.1, this.2.1, this.2.2.1⟩
 refine valid_copies hV (by rw [List.length_reverse]; exact hV.m1) (by rw [List.length_reverse]; exact hV.m4) (fun x h => (hc x h).1) ?_ (fun x h => (hc x h).2.1) (fun x h => (hc x h).2.2)
 exact List.pairwise_reverse.2 (hV.names.imp strEq_sw)
theorem HostOk.rev {ls : List Lf} {cs : List Cp} (h4 : cs.length ≤ 4) {h : List Int} (hh : HostOk ls cs h) : HostOk ls cs.reverse h.reverse :=
 ⟨by rw [List.length_reverse, List.length_reverse]; exact hh.len, fun x hx => hh.kind x (List.mem_reverse.1 hx), by rw [cntI_rev, hh.one]; unfold mostN; rw [most_rev h4], by rw [cntI_rev, hh.two]; unfold mostN; rw [most_rev h4]⟩
theorem PlOk.range {n : Nat} {cs : List Cp} {H : List Int} {Q : Tb} (h : PlOk n cs H Q) {c x : Nat} (hc : c < cs.length) (hx : x < n) : -1 ≤ get2 Q c x ∧ get2 Q c x < cs.length := by
 by_cases h0 : H.getD c 0 = 0
 · by_cases hk : hasI cs c x > 0 ∧ ∀ c', c' < cs.length → H.getD c' 0 ≠ 0 → get2 Q c' x ≠ (c : Int)
   · rw [h.keep c x hc hx h0 hk.1 hk.2]; omega
   rw [h.none c x hc hx h0 hk]; omega
 by_cases ho : hasI cs c x = H.getD c 0
 · rw [h.own c x hc hx h0 ho]; omega
 obtain ⟨d, h1, h2, _, _⟩ := h.don c x hc hx h0 ho
 rw [h2]; omega
theorem PlOk.free {n : Nat} {cs : List Cp} {H : List Int} {Q : Tb} (h : PlOk n cs H Q) {c x : Nat} (hc : c < cs.length) (hx : x < n) (h0 : H.getD c 0 = 0) : get2 Q c x = -1 ∨ (get2 Q c x = c ∧ ∀ c', c' < cs.length → H.getD c' 0 ≠ 0 → get2 Q c' x ≠ (c : Int)) := by
 by_cases hk : hasI cs c x > 0 ∧ ∀ c', c' < cs.length → H.getD c' 0 ≠ 0 → get2 Q c' x ≠ (c : Int)
 · exact .inr ⟨h.keep c x hc hx h0 hk.1 hk.2, hk.2⟩
 exact .inl (h.none c x hc hx h0 hk)
theorem PlOk.once {n : Nat} {cs : List Cp} {H : List Int} {Q : Tb} (h : PlOk n cs H Q) {c c' x : Nat} (hc : c < cs.length) (hc' : c' < cs.length) (hx : x < n) (hn : get2 Q c x ≠ -1) (he : get2 Q c x = get2 Q c' x) : c = c' := by
 by_cases e : c = c'
 · exact e
 exfalso
 by_cases h0 : H.getD c 0 = 0
 · rcases h.free hc hx h0 with h1 | ⟨h1, h2⟩
   · exact hn h1
   by_cases h0' : H.getD c' 0 = 0
   · rcases h.free hc' hx h0' with h3 | ⟨h3, _⟩ <;> omega
   exact h2 c' hc' h0' (by omega)
 by_cases h0' : H.getD c' 0 = 0
 · rcases h.free hc' hx h0' with h3 | ⟨h3, h4⟩
   · omega
   exact h4 c hc h0 (by omega)
 exact h.inj c c' x hc hc' hx h0 h0' e he
theorem outR_get {A : Tb} (hA : Tb46 A) {c : Nat} (hc : c < 4) {c' x : Nat} : ∀ l, l ≤ 6 → get2 (outR A c l) c' x = if c = c' ∧ x < l then -1 else get2 A c' x
 | 0, _ => by rw [if_neg (by omega)]; rfl
 | l + 1, hl => by
  show get2 (set2 (outR A c l) c l (-1)) c' x = _
  rw [get2_set2 (outR_ok hA c l) hc (by omega), outR_get hA hc l (by omega)]
  split <;> split <;> (try split) <;> first | rfl | omega
theorem outU_get {n : Nat} (hn : n ≤ 6) {c' x : Nat} (hx : x < n) : ∀ m, m ≤ 4 → c' < m → get2 (outU n m) c' x = -1
 | 0, _, h => by omega
 | m + 1, hm, h => by
  show get2 (outR (outU n m) m n) c' x = -1
  rw [outR_get (outU_ok n m) (by omega) n hn]
  by_cases e : m = c'
  · rw [if_pos ⟨e, hx⟩]
  rw [if_neg fun q => e q.1]; exact outU_get hn hx m (by omega) (by omega)
def AtP (Q A : Tb) (m n : Nat) (Z : Nat → Nat → Prop) : Prop := Tb46 A ∧ ∀ k x, k < m → x < n → (∀ c, c < m → Z c x → get2 Q c x = (k : Int) → get2 A k x = (c : Int)) ∧ ((∀ c, c < m → Z c x → get2 Q c x ≠ (k : Int)) → get2 A k x = -1)
theorem AtP.mono {Q A : Tb} {m n : Nat} {Z W : Nat → Nat → Prop} (h : AtP Q A m n Z) (e : ∀ c x, c < m → x < n → (Z c x ↔ W c x)) : AtP Q A m n W :=
 ⟨h.1, fun k x hk hx => ⟨fun c hc hw => (h.2 k x hk hx).1 c hc ((e c x hc hx).2 hw), fun hw => (h.2 k x hk hx).2 fun c hc hz => hw c hc ((e c x hc hx).1 hz)⟩⟩
section
variable {p : Int} {ls : List Lf} {cs : List Cp} {H : List Int} {Q : Tb}
theorem atR_get (hV : Valid p ls cs) (h : PlOk ls.length cs H Q) {A : Tb} {c : Nat} (hc : c < cs.length) (h0 : AtP Q A cs.length ls.length fun c' _ => c' < c) :
  ∀ l, l ≤ ls.length → AtP Q (atR Q A c l) cs.length ls.length fun c' x => c' < c ∨ (c' = c ∧ x < l)
 | 0, _ => h0.mono fun _ _ _ _ => by omega
 | l + 1, hl => by
  have ih := atR_get hV h hc h0 l (by omega)
  have hr := h.range hc (x := l) (by omega)
  have h4 := hV.m4
  have h6 := hV.n6
  simp only [atR]
  by_cases e : get2 Q c l ≠ -1
  · rw [if_pos e]
    refine ⟨ih.1.set2 _ _ _, fun k x hk hx => ?_⟩
    rw [get2_set2 ih.1 (by omega) (by omega)]
    obtain ⟨i1, i2⟩ := ih.2 k x hk hx
    by_cases e2 : (get2 Q c l).toNat = k ∧ l = x
    · rw [if_pos e2]
      obtain ⟨e3, rfl⟩ := e2
      refine ⟨fun d hd _ hq => ?_, fun hq => absurd (by omega : get2 Q c l = (k : Int)) (hq c hc (.inr ⟨rfl, by omega⟩))⟩
      have := h.once hc hd (by omega) e (by omega)
      rw [this]
    rw [if_neg e2]
    refine ⟨fun d hd hz hq => ?_, fun hq => i2 fun d hd hz => hq d hd (by omega)⟩
    rcases hz with hz | ⟨rfl, hz⟩
    · exact i1 d hd (.inl hz) hq
    by_cases e4 : x = l
    · subst e4; exact absurd ⟨by omega, rfl⟩ e2
    exact i1 _ hd (.inr ⟨rfl, by omega⟩) hq
  rw [if_neg e]
  refine ⟨ih.1, fun k x hk hx => ?_⟩
  obtain ⟨i1, i2⟩ := ih.2 k x hk hx
  refine ⟨fun d hd hz hq => ?_, fun hq => i2 fun d hd hz => hq d hd (by omega)⟩
  rcases hz with hz | ⟨rfl, hz⟩
  · exact i1 d hd (.inl hz) hq
  by_cases e4 : x = l
  · subst e4; exfalso; omega
  exact i1 _ hd (.inr ⟨rfl, by omega⟩) hq
theorem atU_get (hV : Valid p ls cs) (h : PlOk ls.length cs H Q) : ∀ c, c ≤ cs.length → AtP Q (atU Q ls.length cs.length c) cs.length ls.length fun c' _ => c' < c
 | 0, _ => ⟨outU_ok _ _, fun k x hk hx => ⟨fun c _ hc => absurd hc (Nat.not_lt_zero c), fun _ => outU_get hV.n6 hx _ hV.m4 hk⟩⟩
 | c + 1, hc => (atR_get hV h (by omega) (atU_get hV h c (by omega)) ls.length (Nat.le_refl _)).mono fun _ _ _ _ => by omega
theorem atA_get (hV : Valid p ls cs) (h : PlOk ls.length cs H Q) {k x : Nat} (hk : k < cs.length) (hx : x < ls.length) : (∀ c, c < cs.length → get2 Q c x = (k : Int) → get2 (atA ls cs Q) k x = (c : Int)) ∧ ((∀ c, c < cs.length → get2 Q c x ≠ (k : Int)) → get2 (atA ls cs Q) k x = -1) := by
 have := (atU_get hV h cs.length (Nat.le_refl _)).2 k x hk hx
 exact ⟨fun c hc => this.1 c hc hc, fun hq => this.2 fun c hc _ => hq c hc⟩
end
def rvI (m : Nat) (d : Int) : Int := if d = -1 then -1 else (m : Int) - 1 - d
def rvT (m n : Nat) (Q : Tb) : Tb := tbOf fun c x => if c < m ∧ x < n then rvI m (get2 Q (m - 1 - c) x) else 0
theorem rvT_in {m n : Nat} (hm : m ≤ 4) (hn : n ≤ 6) (Q : Tb) {c x : Nat} (hc : c < m) (hx : x < n) : get2 (rvT m n Q) c x = rvI m (get2 Q (m - 1 - c) x) := by
 unfold rvT; rw [tbOf_get (by omega) (by omega), if_pos ⟨hc, hx⟩]
theorem pad_rev {h : List Int} {c : Nat} (hc : c < h.length) : (pad4 h.reverse).getD c 0 = (pad4 h).getD (h.length - 1 - c) 0 := by rw [pad_get, pad_get, getD_rev h 0 hc]
section
variable {p : Int} {ls : List Lf} {cs : List Cp} {h : List Int} {Q : Tb}
theorem PlOk.rev (hV : Valid p ls cs) (hh : HostOk ls cs h) (hq : PlOk ls.length cs (pad4 h) Q) : PlOk ls.length cs.reverse (pad4 h.reverse) (rvT cs.length ls.length Q) := by
 have h4 := hV.m4
 have h6 := hV.n6
 have hlen := hh.len
 have hp : ∀ {c}, c < cs.length → (pad4 h.reverse).getD c 0 = (pad4 h).getD (cs.length - 1 - c) 0 := fun {c} hc => by rw [pad_rev (by omega), hlen]
 have hg : ∀ {c x}, c < cs.length → x < ls.length → get2 (rvT cs.length ls.length Q) c x = rvI cs.length (get2 Q (cs.length - 1 - c) x) := fun {c x} hc hx => rvT_in h4 h6 Q hc hx
 have hr : ∀ {c x}, c < cs.length → x < ls.length → -1 ≤ get2 Q (cs.length - 1 - c) x ∧ get2 Q (cs.length - 1 - c) x < cs.length := fun {c x} hc hx => hq.range (by omega) hx
 have hback : ∀ {c x : Nat} {P : Prop}, c < cs.length → x < ls.length → (∀ c', c' < cs.length → (pad4 h.reverse).getD c' 0 ≠ 0 → get2 (rvT cs.length ls.length Q) c' x ≠ (c : Int)) → ∀ c', c' < cs.length → (pad4 h).getD c' 0 ≠ 0 → get2 Q c' x ≠ ((cs.length - 1 - c : Nat) : Int) := fun {c x P} hc hx hall c' hc' hn e => by
  have h1 := hall (cs.length - 1 - c') (by omega) (by rw [hp (by omega), show cs.length - 1 - (cs.length - 1 - c') = c' by omega]; exact hn)
  rw [hg (by omega) hx, show cs.length - 1 - (cs.length - 1 - c') = c' by omega, e] at h1
  apply h1; unfold rvI; rw [if_neg (by omega)]; omega
 have hforth : ∀ {c x : Nat}, c < cs.length → x < ls.length → (∀ c', c' < cs.length → (pad4 h).getD c' 0 ≠ 0 → get2 Q c' x ≠ ((cs.length - 1 - c : Nat) : Int)) → ∀ c', c' < cs.length → (pad4 h.reverse).getD c' 0 ≠ 0 → get2 (rvT cs.length ls.length Q) c' x ≠ (c : Int) := fun {c x} hc hx hall c' hc' hn e => by
  have h1 := hall (cs.length - 1 - c') (by omega) (by rw [← hp hc']; exact hn)
  rw [hg hc' hx] at e
  apply h1
  have := hr hc' hx
  unfold rvI at e; split at e <;> omega
 refine ⟨tbOf_ok _, fun c x hn => ?_, fun c x a1 a2 a3 a4 => ?_, fun c x a1 a2 a3 a4 => ?_, fun c c' x a1 a2 a3 a4 a5 a6 => ?_, fun c x a1 a2 a3 a4 a5 => ?_, fun c x a1 a2 a3 a4 => ?_⟩
 · rw [List.length_reverse] at hn
   unfold rvT
   by_cases e : c < 4 ∧ x < 6
   · rw [tbOf_get e.1 e.2, if_neg hn]
   rw [tbOf_out e]
 all_goals simp only [List.length_reverse] at *
 · rw [hp a1] at a3 a4
   rw [hasI_rev a1] at a4
   rw [hg a1 a2, hq.own _ x (by omega) a2 a3 a4]
   unfold rvI; rw [if_neg (by omega)]; omega
 · rw [hp a1] at a3 a4
   rw [hasI_rev a1] at a4
   obtain ⟨d, b1, b2, b3, b4⟩ := hq.don _ x (by omega) a2 a3 a4
   refine ⟨cs.length - 1 - d, by omega, ?_, ?_, ?_⟩
   · rw [hg a1 a2, b2]; unfold rvI; rw [if_neg (by omega)]; omega
   · rw [hasI_rev (by omega), show cs.length - 1 - (cs.length - 1 - d) = d by omega, hp a1]; exact b3
   rw [hp (by omega), show cs.length - 1 - (cs.length - 1 - d) = d by omega, hp a1]; exact b4
 · rw [hp a1] at a4
   rw [hp a2] at a5
   have h1 := hq.inj _ _ x (by omega) (by omega) a3 a4 a5 (by omega)
   have r1 := hr a1 a3
   have r2 := hr a2 a3
   rw [hg a1 a3, hg a2 a3]
   unfold rvI; split <;> split <;> omega
 · rw [hp a1] at a3
   rw [hasI_rev a1] at a4
   rw [hg a1 a2, hq.keep _ x (by omega) a2 a3 a4 (hback (P := True) a1 a2 a5)]
   unfold rvI; rw [if_neg (by omega)]; omega
 rw [hp a1] at a3
 rw [hasI_rev a1] at a4
 rw [hg a1 a2, hq.none _ x (by omega) a2 a3 fun q => a4 ⟨q.1, hforth a1 a2 q.2⟩]
 rfl
theorem mv_rev (hV : Valid p ls cs) (hq : PlOk ls.length cs (pad4 h) Q) : mvU ls.length (rvT cs.length ls.length Q) cs.length = mvU ls.length Q cs.length := by
 rw [mvU_sm, mvU_sm, ← sm_rev (fun c => mvR Q c ls.length)]
 refine sm_eq fun c hc => ?_
 rw [mvR_sm, mvR_sm]
 refine sm_eq fun x hx => ?_
 have := hq.range (c := cs.length - 1 - c) (by omega) hx
 rw [rvT_in hV.m4 hV.n6 Q hc hx]
 have e : (rvI cs.length (get2 Q (cs.length - 1 - c) x) ≠ (c : Int) ∧ rvI cs.length (get2 Q (cs.length - 1 - c) x) ≠ -1) ↔ (get2 Q (cs.length - 1 - c) x ≠ ((cs.length - 1 - c : Nat) : Int) ∧ get2 Q (cs.length - 1 - c) x ≠ -1) := by
  unfold rvI; split <;> omega
 by_cases g : get2 Q (cs.length - 1 - c) x ≠ ((cs.length - 1 - c : Nat) : Int) ∧ get2 Q (cs.length - 1 - c) x ≠ -1
 · rw [if_pos g, if_pos (e.2 g)]
 rw [if_neg g, if_neg fun q => g (e.1 q)]
theorem at_rev (hV : Valid p ls cs) (hh : HostOk ls cs h) (hq : PlOk ls.length cs (pad4 h) Q) {c x : Nat} (hc : c < cs.length) (hx : x < ls.length) :
  get2 (atA ls cs.reverse (rvT cs.length ls.length Q)) c x = rvI cs.length (get2 (atA ls cs Q) (cs.length - 1 - c) x) ∧ -1 ≤ get2 (atA ls cs Q) (cs.length - 1 - c) x ∧ get2 (atA ls cs Q) (cs.length - 1 - c) x < cs.length := by
 have hV' := valid_rev hV
 obtain ⟨i1, i2⟩ := atA_get hV hq (k := cs.length - 1 - c) (by omega) hx
 obtain ⟨j1, j2⟩ := atA_get hV' (hq.rev hV hh) (k := c) (by rw [List.length_reverse]; exact hc) hx
 rw [List.length_reverse] at j1 j2
 by_cases e : ∃ d, d < cs.length ∧ get2 Q d x = ((cs.length - 1 - c : Nat) : Int)
 · obtain ⟨d, hd, he⟩ := e
   rw [i1 d hd he, j1 (cs.length - 1 - d) (by omega) (by
    rw [rvT_in hV.m4 hV.n6 Q (by omega) hx, show cs.length - 1 - (cs.length - 1 - d) = d by omega, he]
    unfold rvI; rw [if_neg (by omega)]; omega)]
   refine ⟨?_, by omega, by omega⟩
   unfold rvI; rw [if_neg (by omega)]; omega
 rw [i2 fun d hd he => e ⟨d, hd, he⟩, j2 fun d hd he => ?_]
 · exact ⟨rfl, by omega, by omega⟩
 rw [rvT_in hV.m4 hV.n6 Q hd hx] at he
 have hr := hq.range (c := cs.length - 1 - d) (by omega) hx
 refine e ⟨cs.length - 1 - d, by omega, ?_⟩
 unfold rvI at he; split at he <;> omega
theorem cut_rev (hV : Valid p ls cs) (hh : HostOk ls cs h) (hq : PlOk ls.length cs (pad4 h) Q) : cutN ls cs.reverse (rvT cs.length ls.length Q) = cutN ls cs Q := by
 unfold cutN
 rw [List.length_reverse, cutU_sm, cutU_sm, ← sm_rev (fun c => cutR ls cs (atA ls cs Q) c ls.length)]
 refine sm_eq fun c hc => ?_
 rw [cutR_sm, cutR_sm]
 refine sm_eq fun x hx => ?_
 have e : cutB ls cs.reverse (atA ls cs.reverse (rvT cs.length ls.length Q)) c x = cutB ls cs (atA ls cs Q) (cs.length - 1 - c) x := by
  unfold cutB
  rw [hasI_rev hc, hasI_rev hc]
  by_cases hy : (ls.getD x lf0).2.1 > (x : Int)
  · have hl := (hV.lf hx).2.1
    rw [getD_at hx] at hy ⊢
    obtain ⟨e1, r1, r2⟩ := at_rev hV hh hq hc hx
    obtain ⟨e2, r3, r4⟩ := at_rev hV hh hq hc (x := ls[x].2.1.toNat) (by omega)
    rw [e1, e2]
    congr 1
    rw [Bool.eq_iff_iff, bne_iff_ne, bne_iff_ne]
    unfold rvI; split <;> split <;> omega
  rw [decide_eq_false hy]; rfl
 rw [e]
theorem way_rev (hV : Valid p ls cs) (hh : HostOk ls cs h) (hq : PlOk ls.length cs (pad4 h) Q) : ∃ h' Q', HostOk ls cs.reverse h' ∧ PlOk ls.length cs.reverse (pad4 h') Q' ∧ (lackN cs.reverse (pad4 h') = lackN cs (pad4 h)) ∧ cutN ls cs.reverse Q' = cutN ls cs Q := by
 have h1 := hh.rev hV.m4
 have h2 := hq.rev hV hh
 refine ⟨_, _, h1, h2, ?_, cut_rev hV hh hq⟩
 unfold lackN
 rw [h2.moved (valid_rev hV) (fun c => (h1.nn c).1) _ (Nat.le_refl _), hq.moved hV (fun c => (hh.nn c).1) _ (Nat.le_refl _), List.length_reverse]
 exact mv_rev hV hq
theorem best_le {p : Int} {ls : List Lf} {a b : List Cp} (hV : Valid p ls a) (hV' : Valid p ls b) (hm : a.length = b.length)
  (hw : ∀ h Q, HostOk ls a h → PlOk ls.length a (pad4 h) Q → ∃ h' Q', HostOk ls b h' ∧ PlOk ls.length b (pad4 h') Q' ∧ (lackN b (pad4 h') = lackN a (pad4 h)) ∧ cutN ls b Q' = cutN ls a Q) :
  ¬ ((bestW ls a).2.1 < (bestW ls b).2.1) ∧ ((bestW ls a).2.1 = (bestW ls b).2.1 → ¬ ((bestW ls a).2.2 < (bestW ls b).2.2)) := by
 obtain ⟨h, Q, hh, hq, he, _⟩ := best_spec hV
 obtain ⟨_, _, _, _, _, hle⟩ := best_spec hV'
 obtain ⟨h', Q', g1, g2, g3, g4⟩ := hw h Q hh hq
 have := hle h' Q' g1 g2
 unfold keyV at this
 rw [befL_cons, befL_cons] at this
 rw [he]
 unfold wayQ at this ⊢
 rw [g3, g4] at this
 simp only [Bool.or_eq_false_iff, Bool.and_eq_false_iff, decide_eq_false_iff_not] at this
 refine ⟨this.1, fun e => ?_⟩
 rcases this.2 with h2 | h2
 · exact absurd e h2
 exact h2.1
theorem whole_rev {p : Int} {ls : List Lf} {cs : List Cp} (hV : Valid p ls cs) : (whoV p ls cs.reverse).2 = (whoV p ls cs).2 := by
 have hV' := valid_rev hV
 have h1 := best_le hV hV' (List.length_reverse).symm fun h Q hh hq => way_rev hV hh hq
 have h2 := best_le hV' hV List.length_reverse fun h Q hh hq => by
  have := way_rev hV' hh hq
  rwa [List.reverse_reverse] at this
 have e1 : (bestW ls cs.reverse).2.1 = (bestW ls cs).2.1 := by have := h1.1; have := h2.1; omega
 have e2 : (bestW ls cs.reverse).2.2 = (bestW ls cs).2.2 := by have := h1.2 e1.symm; have := h2.2 e1; omega
 have hmany : manyU ls cs.reverse 3 = manyU ls cs 3 := by
  show (((mostN ls cs.reverse 1).1 + (mostN ls cs.reverse 2).1 : Nat) : Int) = (((mostN ls cs 1).1 + (mostN ls cs 2).1 : Nat) : Int)
  unfold mostN
  rw [most_rev hV.m4, most_rev hV.m4]
 unfold whoV
 rw [if_pos (chk_valid.2 hV'), if_pos (chk_valid.2 hV), e1, e2, hmany]
end
end Go.Ab.MkF
namespace Go.Ab.MkF
open Go Go.Ab Go.Ab.Pln Go.Proofs
set_option maxHeartbeats 1000000
set_option maxRecDepth 100000
theorem eqPt9 {n : Int} (h : (n == n) = false) : False := by simp at h
theorem getI_at {α : Type} {xs : List α} {j : Int} {n : Nat} (e : j = (n : Int)) (h : n < xs.length) : getI xs j = some xs[n] := by rw [e]; exact getI_nat h
theorem lens_rev {ls : List Lf} {cs : List Cp} (h : LensS ls cs) : LensS ls cs.reverse := ⟨⟨h.1.1, by rw [List.length_reverse]; exact h.1.2⟩, fun x hx => h.2 x (List.mem_reverse.1 hx)⟩
theorem lens_ex {ls : List Lf} {cs : List Cp} (h : LensS ls cs) : LensS ls (exgC cs) := ⟨⟨h.1.1, by rw [exgC_len]; exact h.1.2⟩, fun x hx => by
 obtain ⟨y, hy, rfl⟩ := List.mem_map.1 hx
 rw [List.length_map]; exact h.2 y hy⟩
theorem rev_up {α : Type} {cs : List α} {i : Nat} (h : i < cs.length) : cs.reverse.take (i + 1) = cs.reverse.take i ++ [cs[cs.length - 1 - i]'(by omega)] := by
 rw [take_succ' (by rw [List.length_reverse]; exact h), List.getElem_reverse]
theorem exg_up {cs : List Cp} {i : Nat} (h : i < cs.length) : exgC (cs.take (i + 1)) = exgC (cs.take i) ++ [(cs[i].1, cs[i].2.map exK)] := by
 unfold exgC; rw [take_succ' h, List.map_append]; rfl
theorem map_up {xs : List Int} {i : Nat} (h : i < xs.length) : (xs.map exK).take (i + 1) = (xs.map exK).take i ++ [exK xs[i]] := by
 rw [take_succ' (by rw [List.length_map]; exact h), List.getElem_map]
theorem who_rows {p : Int} {ls : List Lf} {cs : List Cp} (hV : Valid p ls cs) : (whoV p ls cs).1.length ≤ 9223372036854775807 ∧ ∀ x ∈ (whoV p ls cs).1, x.length ≤ 9223372036854775807 := by
 have h4 := hV.m4
 have h6 := hV.n6
 unfold whoV
 rw [if_pos (chk_valid.2 hV)]
 constructor
 · show ((List.range cs.length).map _).length ≤ _
   rw [List.length_map, List.length_range]; omega
 intro x hx
 obtain ⟨c, _, rfl⟩ := List.mem_map.1 hx
 rw [List.length_take]; omega
theorem c14 (p : Int) (ls : List Lf) (cs : List Cp) (hL : LensS ls cs) (hN : LensN ls cs) : PCalls PR glT 14 [.agg [vI p, lfsV ls, cpsV cs]] fun r => r = vB true := by
 refine fnW_sound (parH_ok glT) Tryd.func14 ?_
 conv => whnf
 refine ⟨?_⟩
 conv => whnf
 refine ⟨?_⟩
 conv => whnf
 refine byC (c45 glT p ls cs hL hN) op45 ?_
 rcases Classical.em (chE p ls cs = 0) with hk | hk
 · have hV := chk_valid.1 hk
   have hm4 := hV.m4
   have hn6 := hV.n6
   rw [show (chE p ls cs == 0) = true from by rw [hk]; rfl]
   conv => whnf
   refine ⟨[0, 1, 2, 3, 4, 5], [1, 2, 3, 4], [4], [3], ⟨46768052394588893382517914646921056628989841375231, [], []⟩, by decide +kernel, ?_⟩
   conv => whnf
   refine ⟨?_⟩
   conv => whnf
   refine ⟨?_⟩
   conv => whnf
   dsimp only [List.getElem_toArray, List.getElem_cons_zero, List.getElem_cons_succ, Option.getD_some]
   refine ⟨⟨58, [2003, 2004, 3003, 3004], [2003, 2004, 3003, 3004, 903003, 903004]⟩, ?_⟩
   refine LoopW_ind _ (fun i : Nat => (({ tmps := [υ, .own 1 [], υ, .own 3 [], .own 4 [], vI i, υ, υ, υ, υ, υ, υ, υ, υ, υ, υ, υ, υ, υ, υ, υ, υ, υ, υ, υ, υ, υ, υ, υ, υ, υ, υ, υ, υ, υ, υ, υ, υ, υ, υ, υ, υ, υ, υ, υ, υ, υ, υ, υ, υ, υ, υ, υ, υ, υ, υ, υ, υ, υ, υ, υ, υ, υ, υ, υ, υ, υ, υ, υ, υ, υ, υ, υ, υ, υ, υ, υ, υ, υ, υ, υ, υ, υ, υ, υ, υ, υ, υ, υ, υ, υ, υ, υ, υ, υ, υ, υ, υ, υ, υ, υ, υ, υ, υ, υ, υ, υ, υ, υ, υ, υ, υ, υ, υ, υ, υ, υ, υ, υ, υ, υ, υ, υ, υ, υ, υ, υ, υ, υ, υ, υ, υ, υ, υ, υ, υ, υ, υ, υ, υ, υ, υ, υ, υ, υ, υ, υ, υ, υ, υ, υ, υ, υ, υ, υ, υ, υ, υ, υ, υ, υ, υ, υ, υ, υ], seg := [(1, .cells [vI p, lfsV ls, cpsV cs]), (3, .cells [vI p, lfsV ls, .sl (S := S) U.copy (cs.reverse.take i) (some 903003)]), (4, .cells [vI p, lfsV ls, .sl (S := S) U.copy (exgC (cs.take i)) (some 903004)]), (903003, .row U.copy false), (903004, .row U.copy false)], up := [] } : St S))) (fun i : Nat => (i ≤ cs.length)) (fun i : Nat => (cs.length - i)) () ?_ 0 (Nat.zero_le _)
   intro i hi Z1 hZ1
   conv => whnf
   refine ⟨?_⟩
   conv => whnf
   refine bcase_iff.2 ⟨fun h6 => ?_, fun h6 => ?_⟩
   · have hlt : i < cs.length := by have := of_decide_eq_true h6; omega
     have hw : IntKind.i64.wrap ((i : Int) + 1) = ((i + 1 : Nat) : Int) := wrap_nat (by omega)
     have hwl : IntKind.i64.wrap (IntKind.i64.wrap ((cs.length : Int) - 1) - (i : Int)) = ((cs.length - 1 - i : Nat) : Int) := by rw [wrap_int (n := (cs.length : Int) - 1) (by omega) (by omega), wrap_int (by omega) (by omega)]; omega
     have hl1 : (cs.reverse.take i).length = i := by rw [List.length_take, List.length_reverse]; omega
     have hl2 : (exgC (cs.take i)).length = i := by rw [exgC_len, List.length_take]; omega
     obtain ⟨_, hcl, hcr, _⟩ := hV.cp hlt
     conv => whnf
     refine ⟨[0, 1, 2, 3, 4, 5, 6, 7, 8, 9, 10, 11, 12, 13, 14, 15], [12], [], [], ⟨46768052394588893382517914646921056628989841375231, [], []⟩, by decide +kernel, ?_⟩
     conv => whnf
     refine ⟨_, getI_at hwl (show cs.length - 1 - i < cs.length by omega), ?_⟩
     conv => whnf
     refine ⟨_, rfl, ?_⟩
     conv => whnf
     refine ⟨lim (by show (cs.reverse.take i).length + 1 ≤ _; omega), ?_⟩
     conv => whnf
     refine ⟨?_⟩
     conv => whnf
     refine ⟨_, getI_nat hlt, ?_⟩
     conv => whnf
     refine ⟨?_⟩
     conv => whnf
     rw [← rev_up hlt]
     refine ⟨⟨250, [51, 2006], [2006, 902006, 903003]⟩, ?_⟩
     refine LoopW_ind _ (fun l : Nat => (({ tmps := [υ, .own 1 [], υ, .own 3 [], .own 4 [], vI i, .own 6 [], vI l, υ, υ, υ, υ, υ, υ, υ, υ, υ, υ, υ, υ, υ, υ, υ, υ, υ, υ, υ, υ, υ, υ, υ, υ, υ, υ, υ, υ, υ, υ, υ, υ, υ, υ, υ, υ, υ, υ, υ, υ, υ, υ, υ, υ, υ, υ, υ, υ, υ, υ, υ, υ, υ, υ, υ, υ, υ, υ, υ, υ, υ, υ, υ, υ, υ, υ, υ, υ, υ, υ, υ, υ, υ, υ, υ, υ, υ, υ, υ, υ, υ, υ, υ, υ, υ, υ, υ, υ, υ, υ, υ, υ, υ, υ, υ, υ, υ, υ, υ, υ, υ, υ, υ, υ, υ, υ, υ, υ, υ, υ, υ, υ, υ, υ, υ, υ, υ, υ, υ, υ, υ, υ, υ, υ, υ, υ, υ, υ, υ, υ, υ, υ, υ, υ, υ, υ, υ, υ, υ, υ, υ, υ, υ, υ, υ, υ, υ, υ, υ, υ, υ, υ, υ, υ, υ, υ, υ], seg := [(1, .cells [vI p, lfsV ls, cpsV cs]), (3, .cells [vI p, lfsV ls, .sl (S := S) U.copy (cs.reverse.take (i + 1)) (some 903003)]), (4, .cells [vI p, lfsV ls, .sl (S := S) U.copy (exgC (cs.take i)) (some 903004)]), (6, .cells [.str cs[i].1, .sl (S := S) U.int ((cs[i].2.map exK).take l) (some 902006)]), (902006, .row U.int false), (903003, .row U.copy false), (903004, .row U.copy false)], up := [] } : St S))) (fun l : Nat => (l ≤ ls.length)) (fun l : Nat => (ls.length - l)) () ?_ 0 (Nat.zero_le _)
     intro l hl Z2 hZ2
     conv => whnf
     refine ⟨?_⟩
     conv => whnf
     refine bcase_iff.2 ⟨fun h11 => ?_, fun h11 => ?_⟩
     · have hll : l < ls.length := by have := of_decide_eq_true h11; omega
       have hw2 : IntKind.i64.wrap ((l : Int) + 1) = ((l + 1 : Nat) : Int) := wrap_nat (by omega)
       have hlk : l < cs[i].2.length := by omega
       have hrk := hcr _ (List.getElem_mem hlk)
       have hl3 : ((cs[i].2.map exK).take l).length = l := by rw [List.length_take, List.length_map]; omega
       conv => whnf
       refine ⟨?_⟩
       conv => whnf
       refine ⟨_, getI_nat hlt, ?_⟩
       conv => whnf
       refine ⟨_, getI_nat hlk, ?_⟩
       conv => whnf
       refine ⟨?_⟩
       conv => whnf
       refine bcase_iff.2 ⟨fun h14 => ?_, fun h14 => ?_⟩
       · have h14 : cs[i].2[l] > 0 := of_decide_eq_true h14
         have hek : IntKind.i64.wrap (3 - cs[i].2[l]) = exK cs[i].2[l] := by rw [wrap_int (by omega) (by omega)]; unfold exK; rw [if_pos h14]
         conv => whnf
         refine ⟨?_⟩
         conv => whnf
         refine ⟨?_⟩
         conv => whnf
         refine ⟨_, rfl, ?_⟩
         conv => whnf
         refine ⟨lim (by show ((cs[i].2.map exK).take l).length + 1 ≤ _; omega), ?_⟩
         conv => whnf
         refine ⟨?_⟩
         conv => whnf
         refine ⟨⟨250, [84, 85], []⟩, ?_⟩
         conv => whnf
         rw [hw2, hek]
         have hz := hZ2 (l + 1) hll (by omega)
         rw [map_up hlk] at hz
         exact hz
       have h14 : ¬ cs[i].2[l] > 0 := of_decide_eq_false h14
       have hek : cs[i].2[l] = exK cs[i].2[l] := by unfold exK; rw [if_neg h14]
       conv => whnf
       refine ⟨?_⟩
       conv => whnf
       refine ⟨_, rfl, ?_⟩
       conv => whnf
       refine ⟨lim (by show ((cs[i].2.map exK).take l).length + 1 ≤ _; omega), ?_⟩
       conv => whnf
       refine ⟨?_⟩
       conv => whnf
       refine ⟨⟨250, [84, 85], []⟩, ?_⟩
       conv => whnf
       rw [hw2]
       have hz := hZ2 (l + 1) hll (by omega)
       rw [map_up hlk, ← hek] at hz
       exact hz
     have hgl : (cs[i].2.map exK).take l = cs[i].2.map exK := by have := of_decide_eq_false h11; exact List.take_of_length_le (by rw [List.length_map]; omega)
     rw [hgl]
     conv => whnf
     refine ⟨?_⟩
     conv => whnf
     refine ⟨_, rfl, ?_⟩
     conv => whnf
     refine ⟨lim (by show (exgC (cs.take i)).length + 1 ≤ _; omega), ?_⟩
     conv => whnf
     refine ⟨?_⟩
     conv => whnf
     refine ⟨⟨58, [6, 51, 52, 84, 85, 90, 91, 1006, 2006, 3006, 4006, 902006], []⟩, ?_⟩
     conv => whnf
     rw [hw]
     have hz := hZ1 (i + 1) hlt (by omega)
     rw [exg_up hlt] at hz
     exact hz
   have hge : i = cs.length := by have := of_decide_eq_false h6; omega
   have ht1 : cs.reverse.take i = cs.reverse := by rw [hge]; exact List.take_of_length_le (by simp)
   have ht2 : cs.take i = cs := by rw [hge, List.take_length]
   rw [ht1, ht2]
   have h28 := c28 p ls cs hL
   have h28b := c28 p ls cs.reverse (lens_rev hL)
   have h28c := c28 p ls (exgC cs) (lens_ex hL)
   rw [whole_ex hV] at h28c
   obtain ⟨q1, q2⟩ := who_rows hV
   have hrv := whole_rev hV
   have e0 : (whoV p ls cs).2.2.2.2 = 0 := by unfold whoV; rw [if_pos hk]
   generalize whoV p ls cs = W at *
   generalize whoV p ls cs.reverse = W2 at *
   obtain ⟨R, a, b, c, e⟩ := W
   obtain ⟨R2, W2⟩ := W2
   dsimp only at hrv e0 q1 q2
   subst hrv
   subst e0
   conv => whnf
   refine ⟨?_⟩
   conv => whnf
   refine byC h28 op28 ?_
   conv => whnf
   refine ⟨?_⟩
   conv => whnf
   refine byC h28b op28 ?_
   conv => whnf
   refine ⟨?_⟩
   conv => whnf
   refine byC h28c op28 ?_
   conv => whnf
   refine ⟨?_⟩
   conv => whnf
   refine bcase_iff.2 ⟨fun g21_15 => ?_, fun g21_15 => ?_⟩
   · conv => whnf
     refine bcase_iff.2 ⟨fun g21_20 => ?_, fun g21_20 => ?_⟩
     · conv => whnf
       refine bcase_iff.2 ⟨fun g21_25 => ?_, fun g21_25 => ?_⟩
       · conv => whnf
         refine bcase_iff.2 ⟨fun g21_30 => ?_, fun g21_30 => ?_⟩
         · conv => whnf
           refine bcase_iff.2 ⟨fun g21_35 => ?_, fun g21_35 => ?_⟩
           · conv => whnf
             refine bcase_iff.2 ⟨fun g21_40 => ?_, fun g21_40 => ?_⟩
             · conv => whnf
               refine byC (to (c30 glT R R q1 q2) (by rw [decide_eq_true rfl])) op30 ?_
               conv => whnf
               refine byC c27 op27 ?_
               conv => whnf
               all_goals rfl
             exfalso
             first | exact eqPt9 g21_40 | cases g21_40 | simp at g21_40
           exfalso
           first | exact eqPt9 g21_35 | cases g21_35 | simp at g21_35
         exfalso
         first | exact eqPt9 g21_30 | cases g21_30 | simp at g21_30
       exfalso
       first | exact eqPt9 g21_25 | cases g21_25 | simp at g21_25
     exfalso
     first | exact eqPt9 g21_20 | cases g21_20 | simp at g21_20
   exfalso
   first | exact eqPt9 g21_15 | cases g21_15 | simp at g21_15
 rw [show (chE p ls cs == 0) = false from by simpa using hk]
 conv => whnf
 refine ⟨?_⟩
 conv => whnf
 refine byC c27 op27 ?_
 conv => whnf
 all_goals rfl
end Go.Ab.MkF
namespace Go.Ab.MkF
open Go Go.Ab Go.Proofs Go.Proofs.YtmchcpmkadhmjaaDoor Go.ChangeShapes Go.WideShapes Go.ChangeAt Go.RowKit
theorem post_same {H : Type} {enc : TypeId × Value → H} {P : Program} {f : Func} {s : ChangeSpec} {apart fresh handsOn again : Bool} {W W' : World} {args : Array Value} {v : Value} {ds gs : List (DataW H)} {before pa pv : List MemPlace}
  (hW : DataW.Whole enc P f.params.toList s.vars apart W args.toList ds gs before)
  (hres : ∀ (b : Nat) (sp : Nat → Bool) (hd : Bool), DataW.TrodAll enc P W' b sp hd f.resultTypes.toList (v.resultList f.resultTypes.size) (s.fn H (ds ++ gs)).results [])
  (hargs : ∀ sp : Nat → Bool, (∀ p ∈ before, sp p.block = true) → DataW.TrodAll enc P W' 0 sp true f.params.toList args.toList (s.fn H (ds ++ gs)).args pa)
  (hvars : ∀ sp : Nat → Bool, (∀ p ∈ before, sp p.block = true) → DataW.TrodVars enc P W' sp s.vars (s.fn H (ds ++ gs)).vars pv)
  (hps : before = pa ++ pv) (hk : W.keptBut W' (· ∈ before)) (hfz : ∀ a, a.block < W.heap.size → W'.frozen? a = W.frozen? a)
  (hok : ∀ (j : Nat) (t : TypeId) (r : Value), f.resultTypes[j]? = some t → (v.resultList f.resultTypes.size)[j]? = some r → Value.okWide P W' .any 0 t r) :
  s.post enc P f apart fresh handsOn again W args v W' := by
 have hlt := hW.lt
 have hold : ∀ p ∈ before, (fun b => decide (b < W.heap.size)) p.block = true := fun p hp => by simpa using hlt p hp
 refine ⟨ds, gs, before, [], pa, pv, hW, hres _ _ _, hargs _ hold, hvars _ hold, World.keptBut_mono (fun p hp => ⟨hp, ?_⟩) hk, fun _ => ?_⟩
 · rw [hps, List.mem_append] at hp
   exact Or.inr hp
 obtain ⟨_, _, _, _, _, hz, hn⟩ := hW
 refine ⟨hok, _, _, ([] ++ pa) ++ pv, ⟨[] ++ pa, pv, trodAll_append (hargs _ (fun _ _ => rfl)) (hres _ _ _), hvars _ (fun _ _ => rfl), rfl, ?_, ?_⟩, ?_⟩
 · intro b off hp
   have hp' : MemPlace.cell b off ∈ before := by rw [hps]; simpa using hp
   rw [hfz _ (hlt _ hp')]
   exact hz b off hp'
 · intro ha
   have := hn ha
   rw [hps] at this
   simpa using this
 intro p hp _
 rw [hps]
 simpa using hp
theorem grow_kept {w w' : World} (h : Grow w w') (may : MemPlace → Prop) : w.keptBut w' may := by
 refine ⟨h.os, h.output, fun i hi => ?_⟩
 rw [h.block i hi]
 cases w.heap[i]? with
 | none => trivial
 | some o => cases o <;> simp
theorem grow_fz {w w' : World} (h : Grow w w') (a : Addr) (ha : a.block < w.heap.size) : w'.frozen? a = w.frozen? a := by
 unfold World.frozen?
 rw [h.block _ ha]
theorem gTab : Tryd.prog.globalNamed "math/bits.deBruijn64tab" = some 1 := by kernel_rfl
theorem gTabType : (Tryd.prog.globals[1]?).map (·.type) = some 198 := by kernel_rfl
theorem cells198 : Tryd.prog.cellsOf 198 = 64 := by kernel_rfl
theorem cells5 : Tryd.prog.cellsOf 5 = 1 := by kernel_rfl
theorem laid_glT {W : World} (h : laidMetH Tryd.prog [("math/bits.deBruijn32tab", Rows.laid_math_bits_deBruijn32tab), ("math/bits.deBruijn64tab", Rows.laid_math_bits_deBruijn64tab)] W) : glT.G W := by
 have h1 := laidMetH.filter (fun x => x.1 == "math/bits.deBruijn64tab") h
 have e : ([("math/bits.deBruijn32tab", Rows.laid_math_bits_deBruijn32tab), ("math/bits.deBruijn64tab", Rows.laid_math_bits_deBruijn64tab)] : List (String × DataW Unit)).filter (fun x => x.1 == "math/bits.deBruijn64tab") = [("math/bits.deBruijn64tab", Rows.laid_math_bits_deBruijn64tab)] := by rfl
 rw [e, Go.MakeChecks.laidMetH_plain _ _ _ (by kernel_rfl)] at h1
 have ht : Lib.TabIs Tryd.prog W "math/bits.deBruijn64tab" .u8 (Lib.deBruijn64tab.map fun n : Nat => (n : Int)) := Lib.tabIs_of_head (rest := []) gTab gTabType Tryd.underlying198 Tryd.underlying5 cells5 cells198 h1
 have hc : TabAt 1 Lib.deBruijn64tab W := fun j hj => by
  have := ht.cell gTab j (by simpa using hj)
  rw [this]
  simp [List.getD, hj]
 refine ⟨?_, hc⟩
 have := hc 0 (by decide)
 rcases Nat.lt_or_ge 1 W.heap.size with hlt | hge
 · exact hlt
 exfalso
 have hn : W.heap[1]? = none := Array.getElem?_eq_none hge
 simp [World.cell?, hn] at this
def tab32 : List Int := [0, 1, 28, 2, 29, 14, 24, 3, 30, 22, 20, 15, 25, 17, 4, 8, 31, 27, 13, 23, 21, 19, 16, 7, 26, 12, 18, 6, 11, 5, 10, 9]
def tab64 : List Int := [0, 1, 56, 2, 57, 49, 28, 3, 61, 58, 42, 50, 38, 29, 17, 4, 62, 47, 59, 36, 45, 43, 51, 22, 53, 39, 33, 30, 24, 18, 12, 5, 63, 55, 48, 27, 60, 41, 37, 16, 46, 35, 44, 21, 52, 32, 23, 11, 54, 26, 40, 15, 34, 20, 31, 10, 25, 14, 19, 9, 13, 8, 7, 6]
def setTab (zs : List Int) : Obj → Obj
 | .cells _ t frozen => .cells (zs.map fun n => Value.int .u8 n).toArray t frozen
 | o => o
def tabWorld (w : World) : World := { w with heap := (w.heap.modify 0 (setTab tab32)).modify 1 (setTab tab64) }
end Go.Ab.MkF
namespace Go.Ab.MkF
open Go Go.Ab Go.Proofs
set_option maxRecDepth 100000
theorem kids : Kids Tryd.prog (· < Tryd.prog.types.size) := kids_rows (by kernel_rfl) (by kernel_rfl)
theorem full : ∀ t e, t < Tryd.prog.types.size → Tryd.prog.underlying t = some (.slice e) → 0 < Tryd.prog.cellsOf e := slices_full_of Tryd.prog (by kernel_rfl)
theorem zc3 : Tryd.prog.cellsOf 3 = 1 := by kernel_rfl
theorem zc9 : Tryd.prog.cellsOf 9 = 1 := by kernel_rfl
theorem zc30 : Tryd.prog.cellsOf 30 = 1 := by kernel_rfl
abbrev B63 : Nat := 9223372036854775807
section
variable {H : Type} {enc : TypeId × Value → H} {w : World}
theorem oInt : OpA S enc Tryd.prog w 3 fun cl => ∃ n : Int, cl = Cod.enc (S := S) U.int n ∧ IntKind.i64.min ≤ n ∧ n ≤ IntKind.i64.max :=
 (OpA.int Tryd.underlying3).mono fun _ ⟨n, h, h1⟩ => ⟨n, h, h1⟩
theorem oInts : OpA S enc Tryd.prog w 30 fun cl => ∃ ys : List Int, cl = [vL ys] ∧ ys.length ≤ B63 ∧ ∀ y ∈ ys, IntKind.i64.min ≤ y ∧ y ≤ IntKind.i64.max :=
 OpA.slice (S := S) (u := U.int) Tryd.underlying30 zc3 oInt
end
abbrev noHand : Value := .agg #[.slice none 0 0]
end Go.Ab.MkF
namespace Go.Ab.MkF
open Go Go.Ab Go.Proofs
set_option maxRecDepth 100000
theorem zc22 : Tryd.prog.cellsOf 22 = 1 := by kernel_rfl
theorem zc23 : Tryd.prog.cellsOf 23 = 1 := by kernel_rfl
theorem zc25 : Tryd.prog.cellsOf 25 = 3 := by kernel_rfl
theorem zc88 : Tryd.prog.cellsOf 88 = 2 := by kernel_rfl
theorem zc94 : Tryd.prog.cellsOf 94 = 3 := by kernel_rfl
section
variable {H : Type} {enc : TypeId × Value → H} {w : World}
theorem oLf : OpA S enc Tryd.prog w 94 fun cl => ∃ y : Lf, cl = Cod.enc (S := S) U.leaf y ∧ y.1.size ≤ B63 := by
 refine (OpA.struct (Rs := [_, _, _]) Tryd.underlying94 ⟨rfl, _, _, rfl, OpA.str Tryd.underlying9, by rw [zc9], _, _, rfl, oInt, by rw [zc9, zc3], _, _, rfl, oInt, by rw [zc9, zc3, zc94], rfl⟩).mono ?_
 rintro cl ⟨a, b, rfl, ⟨s, rfl, hs⟩, c, d, rfl, ⟨n, rfl, _⟩, e, f, rfl, ⟨m, rfl, _⟩, rfl⟩
 exact ⟨(s, n, m), rfl, hs⟩
theorem oLfs : OpA S enc Tryd.prog w 22 fun cl => ∃ ys : List Lf, cl = [lfsV ys] ∧ ys.length ≤ B63 ∧ ∀ y ∈ ys, y.1.size ≤ B63 :=
 OpA.slice (S := S) (u := U.leaf) Tryd.underlying22 zc94 oLf
theorem oCp : OpA S enc Tryd.prog w 88 fun cl => ∃ y : Cp, cl = Cod.enc (S := S) U.copy y ∧ y.1.size ≤ B63 ∧ y.2.length ≤ B63 := by
 refine (OpA.struct (Rs := [_, _]) Tryd.underlying88 ⟨rfl, _, _, rfl, OpA.str Tryd.underlying9, by rw [zc9], _, _, rfl, oInts, by rw [zc9, zc30, zc88], rfl⟩).mono ?_
 rintro cl ⟨a, b, rfl, ⟨s, rfl, hs⟩, c, d, rfl, ⟨ys, rfl, h, _⟩, rfl⟩
 exact ⟨(s, ys), rfl, hs, h⟩
theorem oCps : OpA S enc Tryd.prog w 23 fun cl => ∃ ys : List Cp, cl = [cpsV ys] ∧ ys.length ≤ B63 ∧ ∀ y ∈ ys, y.1.size ≤ B63 ∧ y.2.length ≤ B63 :=
 OpA.slice (S := S) (u := U.copy) Tryd.underlying23 zc88 oCp
theorem oSet : OpA S enc Tryd.prog w 25 fun cl => ∃ p ls cs, cl = setC p ls cs ∧ LensS ls cs ∧ LensN ls cs := by
 refine (OpA.struct (Rs := [_, _, _]) Tryd.underlying25 ⟨rfl, _, _, rfl, oInt, by rw [zc3], _, _, rfl, oLfs, by rw [zc3, zc22], _, _, rfl, oCps, by rw [zc3, zc22, zc23, zc25], rfl⟩).mono ?_
 rintro cl ⟨a, b, rfl, ⟨p, rfl, _⟩, c, d, rfl, ⟨ls, rfl, h1, h2⟩, e, f, rfl, ⟨cs, rfl, h3, h4⟩, rfl⟩
 exact ⟨p, ls, cs, rfl, ⟨⟨h1, h3⟩, fun x hx => (h4 x hx).2⟩, h2, fun x hx => (h4 x hx).1⟩
end
abbrev noSet : Value := .agg #[.int .i64 0, .slice none 0 0, .slice none 0 0]
end Go.Ab.MkF
