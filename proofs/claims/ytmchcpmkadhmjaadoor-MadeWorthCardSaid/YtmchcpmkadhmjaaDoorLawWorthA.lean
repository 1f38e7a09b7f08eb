/-
  THE MADE FAMILY, PART RA: the reference: a hand.
  THE MADE FAMILY, PART RB: the reference: a leaf of a set.
  THE MADE FAMILY, PART RC: the reference: Check.
  THE MADE FAMILY, PART PD: a copy that gets a leaf: what it is worth.
  THE MADE FAMILY, PART LA: MadeWorth.
  THE MADE FAMILY: WHAT ALL ITS CARDS NEED: from a contract of the engine to the given statements' form.
  THE MADE FAMILY: the arguments of its laws, read as ours.
  THE MADE FAMILY: a set, read as ours.
-/
import Derived.Test.YtmchcpmkadhmjaaDoorCards
import Derived.Test.YtmchcpmkadhmjaaDoorTie
import Derived.WalkKit
import Derived.ProofKit
import Derived.OpenShut
import Derived.Deep.DeepHandedRow
import Derived.Lib.LaidTab
import Derived.LaidSub
import Derived.MakeChecks
import Derived.ChangeBears
import Derived.Test.YtmchcpmkadhmjaaDoorMadeB
import Derived.Test.YtmchcpmkadhmjaaDoorMadeA
import Derived.Test.YtmchcpmkadhmjaaDoorEngD
namespace Go.Ab.MkF
open Go Go.Ab Go.Ab.Pln Go.Proofs
set_option maxHeartbeats 1000000
set_option maxRecDepth 100000
noncomputable abbrev parH (gl : Gl) : Par S Unit := { par gl with hd := true }
theorem parH_ok (gl : Gl) (En : Env Unit) : ParOk PR gl (parH gl) En := { par_ok gl En with }
theorem join {p q : Prop} (h : Hold p → q) (hp : p) : q := h ⟨hp⟩
def inB (n a b : Int) : Bool := decide (a ≤ n) && decide (n ≤ b)
theorem inB_out (n a b : Int) : inB n a b = !outB a b n := by
 unfold inB outB
 rw [Bool.eq_iff_iff]
 simp [Int.not_lt]
def rgE (a b lo hi : Int) : Int := if (decide (min a b < lo) || decide (max a b > hi)) = true then 7 else if b < a then 2 else 0
theorem c72 (gl : Gl) (n a b : Int) : PCalls PR gl 72 [vI n, vI a, vI b] fun r => r = vB (inB n a b) := by
 refine fnW_sound (par_ok gl) Tryd.func72 ?_
 conv => whnf
 refine bcase_iff.2 ⟨fun g1_3 => ?_, fun g1_3 => ?_⟩
 · have g : decide (a ≤ n) = true := g1_3
   conv => whnf
   unfold inB
   rw [g]
   rfl
 have g : decide (a ≤ n) = false := g1_3
 conv => whnf
 unfold inB
 rw [g]
 rfl
theorem op72 : Opens PR 72 := ⟨_, Tryd.func72, rfl, rfl⟩
end Go.Ab.MkF
namespace Go.Ab.MkF
open Go Go.Ab Go.Ab.Pln Go.Proofs
set_option maxHeartbeats 1000000
set_option maxRecDepth 100000
def lfG (ls : List Lf) (i : Nat) (x : Lf) : Int :=
 if [x.2.1].any (outB (-1) ((ls.length : Int) - 1)) then 4
 else if x.2.1 == (i : Int) || (decide (x.2.1 ≥ 0) && (ls.getD x.2.1.toNat lf0).2.1 != (i : Int)) then 2 else if [x.2.2].any (outB 0 1000) then 7 else 0
theorem any_in (a b n : Int) : [n].any (outB a b) = !inB n a b := by rw [inB_out]; simp
theorem c74 (gl : Gl) (p : Int) (ls : List Lf) (cs : List Cp) (hl : ls.length ≤ 9223372036854775807) (i : Nat) (hi : i < ls.length) : PCalls PR gl 74 [.agg [vI p, lfsV ls, cpsV cs], vI i] fun r => r = vI (lfG ls i ls[i]) := by
 have hw1 : IntKind.i64.wrap ((ls.length : Int) - 1) = (ls.length : Int) - 1 := wrap_int (by omega) (by omega)
 refine fnW_sound (par_ok gl) Tryd.func74 ?_
 conv => whnf
 refine ⟨_, getI_nat hi, ?_⟩
 conv => whnf
 rw [hw1]
 conv => whnf
 refine byC (c72 gl _ _ _) op72 ?_
 conv => whnf
 refine bcase_iff.2 ⟨fun h2 => ?_, fun h2 => ?_⟩
 · have h2 : [ls[i].2.1].any (outB (-1) ((ls.length : Int) - 1)) = true := by rw [any_in]; exact h2
   conv => whnf
   unfold lfG
   rw [if_pos h2]
 have h2 : [ls[i].2.1].any (outB (-1) ((ls.length : Int) - 1)) = false := by rw [any_in]; exact h2
 have hr := any_one.1 h2
 conv => whnf
 refine bcase_iff.2 ⟨fun g4_3 => ?_, fun g4_3 => ?_⟩
 · have g3 : ls[i].2.1 ≠ -1 := by have g : (ls[i].2.1 != -1) = true := g4_3; simpa using g
   obtain ⟨y, hy⟩ : ∃ y : Nat, ls[i].2.1 = (y : Int) := ⟨ls[i].2.1.toNat, by omega⟩
   have hyl : y < ls.length := by omega
   conv => whnf
   refine bcase_iff.2 ⟨fun g4_8 => ?_, fun g4_8 => ?_⟩
   · have hb : (ls[i].2.1 == (i : Int) || (decide (ls[i].2.1 ≥ 0) && (ls.getD ls[i].2.1.toNat lf0).2.1 != (i : Int))) = true := by rw [show (ls[i].2.1 == (i : Int)) = true from g4_8]; rfl
     conv => whnf
     unfold lfG
     rw [h2, if_neg (by simp), if_pos hb]
   have g8 : (ls[i].2.1 == (i : Int)) = false := g4_8
   conv => whnf
   refine ⟨ls[y], by rw [hy]; exact getI_nat hyl, ?_⟩
   conv => whnf
   refine bcase_iff.2 ⟨fun h4 => ?_, fun h4 => ?_⟩
   · have hb : (ls[i].2.1 == (i : Int) || (decide (ls[i].2.1 ≥ 0) && (ls.getD ls[i].2.1.toNat lf0).2.1 != (i : Int))) = true := by rw [g8, decide_eq_true (by omega), hy, Int.toNat_natCast, getD_at hyl]; exact h4
     conv => whnf
     unfold lfG
     rw [h2, if_neg (by simp), if_pos hb]
   have hb : (ls[i].2.1 == (i : Int) || (decide (ls[i].2.1 ≥ 0) && (ls.getD ls[i].2.1.toNat lf0).2.1 != (i : Int))) = false := by rw [g8, decide_eq_true (by omega), hy, Int.toNat_natCast, getD_at hyl]; exact h4
   conv => whnf
   refine byC (c72 gl _ _ _) op72 ?_
   conv => whnf
   refine bcase_iff.2 ⟨fun h6 => ?_, fun h6 => ?_⟩
   · have h6 : [ls[i].2.2].any (outB 0 1000) = true := by rw [any_in]; exact h6
     conv => whnf
     unfold lfG
     rw [h2, if_neg (by simp), hb, if_neg (by simp), if_pos h6]
   have h6 : [ls[i].2.2].any (outB 0 1000) = false := by rw [any_in]; exact h6
   conv => whnf
   unfold lfG
   rw [h2, if_neg (by simp), hb, if_neg (by simp), h6, if_neg (by simp)]
 have g3 : ls[i].2.1 = -1 := by have g : (ls[i].2.1 != -1) = false := g4_3; simpa using g
 have hb : (ls[i].2.1 == (i : Int) || (decide (ls[i].2.1 ≥ 0) && (ls.getD ls[i].2.1.toNat lf0).2.1 != (i : Int))) = false := by rw [g3]; simp
 conv => whnf
 refine byC (c72 gl _ _ _) op72 ?_
 conv => whnf
 refine bcase_iff.2 ⟨fun h6 => ?_, fun h6 => ?_⟩
 · have h6 : [ls[i].2.2].any (outB 0 1000) = true := by rw [any_in]; exact h6
   conv => whnf
   unfold lfG
   rw [h2, if_neg (by simp), hb, if_neg (by simp), if_pos h6]
 have h6 : [ls[i].2.2].any (outB 0 1000) = false := by rw [any_in]; exact h6
 conv => whnf
 unfold lfG
 rw [h2, if_neg (by simp), hb, if_neg (by simp), h6, if_neg (by simp)]
theorem op74 : Opens PR 74 := ⟨_, Tryd.func74, rfl, rfl⟩
end Go.Ab.MkF
namespace Go.Ab.MkF
open Go Go.Ab Go.Ab.Pln Go.Proofs
set_option maxHeartbeats 1000000
set_option maxRecDepth 100000
def LensN (ls : List Lf) (cs : List Cp) : Prop := (∀ x ∈ ls, x.1.size ≤ 9223372036854775807) ∧ ∀ x ∈ cs, x.1.size ≤ 9223372036854775807
abbrev nmL (ls : List Lf) (i : Nat) : List ByteArray := (ls.take i).map fun x => x.1
abbrev nmC (cs : List Cp) (i : Nat) : List ByteArray := (cs.take i).map fun x => x.1
theorem lfF_eq {ls : List Lf} {i : Nat} (h : i < ls.length) : lfF ls i = if freE ls[i].1 (nmL ls i) = 0 then lfG ls i ls[i] else freE ls[i].1 (nmL ls i) := by
 unfold lfF lfE lfG freE
 rw [getD_at h, List.any_map]
 show (if (!nameB ls[i].1) = true then 6 else if ((ls.take i).any fun y => strEq y.1 ls[i].1) = true then 5 else _) = if (if (!nameB ls[i].1) = true then (6 : Int) else if ((ls.take i).any fun y => strEq y.1 ls[i].1) = true then 5 else 0) = 0 then _ else if (!nameB ls[i].1) = true then (6 : Int) else if ((ls.take i).any fun y => strEq y.1 ls[i].1) = true then 5 else 0
 cases nameB ls[i].1 <;> cases (ls.take i).any fun y => strEq y.1 ls[i].1 <;> simp
def cpK (e : Int) (xs : List Int) (k : Nat) : Int := if e ≠ 0 then e else if (xs.take k).any (outB 0 2) then 7 else 0
def cpG (n : Nat) (w : ByteArray) (l : List ByteArray) (xs : List Int) : Int := if freE w l = 0 then (if (xs.length : Int) ≠ n then 3 else 0) else freE w l
theorem cp_aux (nb dup bad : Bool) (p q : Prop) [Decidable p] [Decidable q] (hpq : p ↔ q) :
  (if (!nb) = true then (6 : Int) else if dup = true then 5 else if p then 3 else if bad = true then 7 else 0) =
   if (if (if (!nb) = true then (6 : Int) else if dup = true then 5 else 0) = 0 then (if q then (3 : Int) else 0) else if (!nb) = true then (6 : Int) else if dup = true then 5 else 0) ≠ 0
   then (if (if (!nb) = true then (6 : Int) else if dup = true then 5 else 0) = 0 then (if q then (3 : Int) else 0) else if (!nb) = true then (6 : Int) else if dup = true then 5 else 0) else if bad = true then 7 else 0 := by
 by_cases hq : q
 · have hp := hpq.2 hq
   cases nb <;> cases dup <;> simp [hp, hq]
 have hp : ¬ p := fun h => hq (hpq.1 h)
 cases nb <;> cases dup <;> simp [hp, hq]
theorem cpF_eq {n : Nat} {cs : List Cp} {i : Nat} (h : i < cs.length) : cpF n cs i = cpK (cpG n cs[i].1 (nmC cs i) cs[i].2) cs[i].2 cs[i].2.length := by
 unfold cpF cpE cpK cpG freE
 rw [getD_at h, List.any_map, List.take_length]
 exact cp_aux _ _ _ _ _ (by omega)
theorem cpK_succ {e : Int} {xs : List Int} {k : Nat} (h : k < xs.length) (h0 : cpK e xs k = 0) : cpK e xs (k + 1) = if inB xs[k] 0 2 = true then 0 else 7 := by
 unfold cpK at h0 ⊢
 by_cases he : e = 0
 · have hne : ¬ e ≠ 0 := fun h => h he
   rw [if_neg hne] at h0 ⊢
   have hp : (xs.take k).any (outB 0 2) = false := by
    cases hq : (xs.take k).any (outB 0 2) with
    | true => rw [hq] at h0; simp at h0
    | false => rfl
   rw [take_succ' h, List.any_append, hp, inB_out]
   simp
   cases outB 0 2 xs[k] <;> rfl
 rw [if_pos he] at h0; exact absurd h0 he
theorem cpK_last {e : Int} {xs : List Int} {k : Nat} (_h : k ≤ xs.length) (h0 : cpK e xs k ≠ 0) : cpK e xs k = cpK e xs xs.length := by
 unfold cpK at h0 ⊢
 by_cases he : e = 0
 · have hne : ¬ e ≠ 0 := fun h => h he
   rw [if_neg hne] at h0
   rw [if_neg hne, if_neg hne]
   cases hq : (xs.take k).any (outB 0 2) with
   | false => rw [hq] at h0; simp at h0
   | true =>
    have : (xs.take xs.length).any (outB 0 2) = true := by
     rw [List.take_length]
     obtain ⟨x, hx, hb⟩ := List.any_eq_true.1 hq
     exact List.any_eq_true.2 ⟨x, List.mem_of_mem_take hx, hb⟩
    rw [this]
 rw [if_pos he, if_pos he]
theorem c17 (gl : Gl) (p : Int) (ls : List Lf) (cs : List Cp) (hL : LensS ls cs) (hN : LensN ls cs) : PCalls PR gl 17 [.agg [vI p, lfsV ls, cpsV cs]] fun r => r = .tup [vI (chk p ls cs).1, vI (chk p ls cs).2.1, vI (chk p ls cs).2.2] := by
 refine fnW_sound (par_ok gl) Tryd.func17 ?_
 conv => whnf
 refine byC (c72 gl _ _ _) op72 ?_
 conv => whnf
 refine bcase_iff.2 ⟨fun h1 => ?_, fun h1 => ?_⟩
 · have g1 : [p].any (outB 0 1000000) = true := by rw [any_in]; exact h1
   conv => whnf
   unfold chk
   rw [if_pos g1]
 have g1 : [p].any (outB 0 1000000) = false := by rw [any_in]; exact h1
 conv => whnf
 refine byC (c72 gl _ _ _) op72 ?_
 conv => whnf
 refine bcase_iff.2 ⟨fun h3 => ?_, fun h3 => ?_⟩
 · have g3 : [(ls.length : Int)].any (outB 1 6) = true := by rw [any_in]; exact h3
   conv => whnf
   unfold chk
   rw [g1, if_neg (by simp)]
   unfold chk1
   rw [if_pos g3]
 have g3 : [(ls.length : Int)].any (outB 1 6) = false := by rw [any_in]; exact h3
 have hn6 := (any_one.1 g3).2
 conv => whnf
 refine ⟨⟨98, [], [5]⟩, ?_⟩
 refine LoopW_ind _ (fun i : Nat => (({ tmps := [.undef, .own 1 [], .undef, .undef, .undef, .sl (S := S) U.str (nmL ls i) (some 5), vI i, .undef, .undef, .undef, .undef, .undef, .undef, .undef, .undef, .undef, .undef, .undef, .undef, .undef, .undef, .undef, .undef, .undef, .undef, .undef, .undef, .undef, .undef, .undef, .undef, .undef, .undef, .undef, .undef, .undef, .undef, .undef, .undef, .undef, .undef, .undef, .undef, .undef, .undef, .undef, .undef, .undef, .undef, .undef, .undef, .undef, .undef, .undef, .undef, .undef, .undef, .undef, .undef, .undef, .undef, .undef, .undef, .undef, .undef, .undef, .undef, .undef, .undef, .undef, .undef, .undef, .undef, .undef, .undef, .undef, .undef, .undef, .undef, .undef, .undef, .undef, .undef, .undef, .undef, .undef, .undef, .undef, .undef, .undef, .undef, .undef, .undef, .undef, .undef, .undef, .undef, .undef, .undef, .undef, .undef, .undef, .undef, .undef, .undef, .undef, .undef, .undef, .undef, .undef, .undef, .undef, .undef], seg := [(1, .cells (setC p ls cs)), (5, .row U.str false)], up := [] } : St S))) (fun i : Nat => (i ≤ ls.length ∧ ∀ j, j < i → lfF ls j = 0)) (fun i : Nat => (ls.length - i)) () ?_ 0 ⟨Nat.zero_le _, fun j h => absurd h (Nat.not_lt_zero j)⟩
 intro i hinv Z1 hZ1
 obtain ⟨hi, hd⟩ := hinv
 conv => whnf
 refine bcase_iff.2 ⟨fun h7 => ?_, fun h7 => ?_⟩
 · have hlt : i < ls.length := by have := of_decide_eq_true h7; omega
   have hw : IntKind.i64.wrap ((i : Int) + 1) = ((i + 1 : Nat) : Int) := wrap_nat (by omega)
   conv => whnf
   have hlf := lfF_eq hlt
   have hnl : (nmL ls i).length = i := by simp; omega
   refine ⟨_, getI_nat hlt, ?_⟩
   conv => whnf
   refine byC (c73 gl _ (hN.1 _ (List.getElem_mem hlt)) _ (by omega)) op73 ?_
   conv => whnf
   refine bcase_iff.2 ⟨fun h10 => ?_, fun h10 => ?_⟩
   · have h10 : freE ls[i].1 (nmL ls i) = 0 := eq_of_beq (show (freE ls[i].1 (nmL ls i) == 0) = true from h10)
     rw [if_pos h10] at hlf
     conv => whnf
     refine byC (c74 gl p ls cs (by omega) i hlt) op74 ?_
     conv => whnf
     refine bcase_iff.2 ⟨fun h12 => ?_, fun h12 => ?_⟩
     · have h12 : lfF ls i ≠ 0 := by rw [hlf]; simpa using h12
       conv => whnf
       unfold chk
       rw [g1, if_neg (by simp)]
       unfold chk1
       rw [g3, if_neg (by simp), firstR_at hlt hd h12, if_pos h12, hlf]
     have h12 : lfF ls i = 0 := by rw [hlf]; simpa using h12
     conv => whnf
     refine ⟨_, getI_nat hlt, ?_⟩
     conv => whnf
     refine ⟨_, rfl, ?_⟩
     conv => whnf
     refine ⟨lim (by simp; omega), ?_⟩
     conv => whnf
     refine ⟨⟨98, [52, 53], []⟩, ?_⟩
     conv => whnf
     rw [hw]
     have hz := hZ1 (i + 1) ⟨hlt, up_succ hd h12⟩ (by omega)
     rw [show nmL ls (i + 1) = nmL ls i ++ [ls[i].1] from by unfold nmL; rw [take_succ' hlt, List.map_append]; rfl] at hz
     exact hz
   have h10 : freE ls[i].1 (nmL ls i) ≠ 0 := fun e => by have h10 : (freE ls[i].1 (nmL ls i) == 0) = false := h10; rw [e] at h10; cases h10
   rw [if_neg h10] at hlf
   conv => whnf
   refine bcase_iff.2 ⟨fun h12 => ?_, fun h12 => ?_⟩
   · have h12 : lfF ls i ≠ 0 := by rw [hlf]; simpa using h12
     conv => whnf
     unfold chk
     rw [g1, if_neg (by simp)]
     unfold chk1
     rw [g3, if_neg (by simp), firstR_at hlt hd h12, if_pos h12, hlf]
   have h12 : lfF ls i = 0 := by rw [hlf]; simpa using h12
   conv => whnf
   refine ⟨_, getI_nat hlt, ?_⟩
   conv => whnf
   refine ⟨_, rfl, ?_⟩
   conv => whnf
   refine ⟨lim (by simp; omega), ?_⟩
   conv => whnf
   refine ⟨⟨98, [52, 53], []⟩, ?_⟩
   conv => whnf
   rw [hw]
   have hz := hZ1 (i + 1) ⟨hlt, up_succ hd h12⟩ (by omega)
   rw [show nmL ls (i + 1) = nmL ls i ++ [ls[i].1] from by unfold nmL; rw [take_succ' hlt, List.map_append]; rfl] at hz
   exact hz
 have hge : i = ls.length := by have := of_decide_eq_false h7; omega
 conv => whnf
 rw [hge] at hd
 conv => whnf
 refine byC (c72 gl _ _ _) op72 ?_
 conv => whnf
 refine bcase_iff.2 ⟨fun h15 => ?_, fun h15 => ?_⟩
 · have g15 : [(cs.length : Int)].any (outB 1 4) = true := by rw [any_in]; exact h15
   conv => whnf
   unfold chk
   rw [g1, if_neg (by simp)]
   unfold chk1
   rw [g3, if_neg (by simp), firstR_no hd, if_neg (by simp)]
   unfold chk2
   rw [if_pos g15]
 have g15 : [(cs.length : Int)].any (outB 1 4) = false := by rw [any_in]; exact h15
 have hm4 := (any_one.1 g15).2
 conv => whnf
 refine ⟨⟨290, [5], [900005]⟩, ?_⟩
 refine LoopW_ind _ (fun i : Nat => (({ tmps := [.undef, .own 1 [], .undef, .undef, .undef, .sl (S := S) U.str (nmC cs i) (some 900005), .undef, .undef, vI i, .undef, .undef, .undef, .undef, .undef, .undef, .undef, .undef, .undef, .undef, .undef, .undef, .undef, .undef, .undef, .undef, .undef, .undef, .undef, .undef, .undef, .undef, .undef, .undef, .undef, .undef, .undef, .undef, .undef, .undef, .undef, .undef, .undef, .undef, .undef, .undef, .undef, .undef, .undef, .undef, .undef, .undef, .undef, .undef, .undef, .undef, .undef, .undef, .undef, .undef, .undef, .undef, .undef, .undef, .undef, .undef, .undef, .undef, .undef, .undef, .undef, .undef, .undef, .undef, .undef, .undef, .undef, .undef, .undef, .undef, .undef, .undef, .undef, .undef, .undef, .undef, .undef, .undef, .undef, .undef, .undef, .undef, .undef, .undef, .undef, .undef, .undef, .undef, .undef, .undef, .undef, .undef, .undef, .undef, .undef, .undef, .undef, .undef, .undef, .undef, .undef, .undef, .undef, .undef], seg := [(1, .cells (setC p ls cs)), (900005, .row U.str false)], up := [] } : St S))) (fun i : Nat => (i ≤ cs.length ∧ ∀ j, j < i → cpF ls.length cs j = 0)) (fun i : Nat => (cs.length - i)) () ?_ 0 ⟨Nat.zero_le _, fun j h => absurd h (Nat.not_lt_zero j)⟩
 intro i hinv Z2 hZ2
 obtain ⟨hi, hdc⟩ := hinv
 conv => whnf
 refine bcase_iff.2 ⟨fun h19 => ?_, fun h19 => ?_⟩
 · have hlc : i < cs.length := by have := of_decide_eq_true h19; omega
   have hwc : IntKind.i64.wrap ((i : Int) + 1) = ((i + 1 : Nat) : Int) := wrap_nat (by omega)
   conv => whnf
   have hcf := cpF_eq (n := ls.length) hlc
   have hnl : (nmC cs i).length = i := by simp; omega
   have hxl := hL.2 _ (List.getElem_mem hlc)
   refine ⟨_, getI_nat hlc, ?_⟩
   conv => whnf
   refine byC (c73 gl _ (hN.2 _ (List.getElem_mem hlc)) _ (by omega)) op73 ?_
   conv => whnf
   refine bcase_iff.2 ⟨fun g23_2 => ?_, fun g23_2 => ?_⟩
   · have g23 : freE cs[i].1 (nmC cs i) = 0 := eq_of_beq (show (freE cs[i].1 (nmC cs i) == 0) = true from g23_2)
     conv => whnf
     refine bcase_iff.2 ⟨fun h23 => ?_, fun h23 => ?_⟩
     · have h23 : (cs[i].2.length : Int) ≠ (ls.length : Int) := by have h : ((cs[i].2.length : Int) != (ls.length : Int)) = true := h23; simpa using h
       have hG : (3 : Int) = cpK (cpG ls.length cs[i].1 (nmC cs i) cs[i].2) cs[i].2 0 := by unfold cpK cpG; rw [if_pos g23, if_pos h23, if_pos (by decide)]
       conv => whnf
       rw [hG]
       refine ⟨⟨3874, [2009], [2009]⟩, ?_⟩
       refine LoopW_ind _ (fun k : Nat => (({ tmps := [.undef, .own 1 [], .undef, .undef, .undef, .sl (S := S) U.str (nmC cs i) (some 900005), .undef, .undef, vI i, .own 9 [], vI (cpK (cpG ls.length cs[i].1 (nmC cs i) cs[i].2) cs[i].2 k), vI k, .undef, .undef, .undef, .undef, .undef, .undef, .undef, .undef, .undef, .undef, .undef, .undef, .undef, .undef, .undef, .undef, .undef, .undef, .undef, .undef, .undef, .undef, .undef, .undef, .undef, .undef, .undef, .undef, .undef, .undef, .undef, .undef, .undef, .undef, .undef, .undef, .undef, .undef, .undef, .undef, .undef, .undef, .undef, .undef, .undef, .undef, .undef, .undef, .undef, .undef, .undef, .undef, .undef, .undef, .undef, .undef, .undef, .undef, .undef, .undef, .undef, .undef, .undef, .undef, .undef, .undef, .undef, .undef, .undef, .undef, .undef, .undef, .undef, .undef, .undef, .undef, .undef, .undef, .undef, .undef, .undef, .undef, .undef, .undef, .undef, .undef, .undef, .undef, .undef, .undef, .undef, .undef, .undef, .undef, .undef, .undef, .undef, .undef, .undef, .undef, .undef], seg := [(1, .cells (setC p ls cs)), (9, .cells (cpC cs[i])), (900005, .row U.str false)], up := [] } : St S))) (fun k : Nat => (k ≤ cs[i].2.length)) (fun k : Nat => (cs[i].2.length - k)) () ?_ 0 (Nat.zero_le _)
       intro k hk Z3 hZ3
       conv => whnf
       refine bcase_iff.2 ⟨fun g26_5 => ?_, fun g26_5 => ?_⟩
       · have hkl : k < cs[i].2.length := by have := of_decide_eq_true g26_5; omega
         have hwk : IntKind.i64.wrap ((k : Int) + 1) = ((k + 1 : Nat) : Int) := wrap_nat (by omega)
         conv => whnf
         refine bcase_iff.2 ⟨fun h26 => ?_, fun h26 => ?_⟩
         · have h26 : cpK (cpG ls.length cs[i].1 (nmC cs i) cs[i].2) cs[i].2 k = 0 := eq_of_beq (show (cpK (cpG ls.length cs[i].1 (nmC cs i) cs[i].2) cs[i].2 k == 0) = true from h26)
           have hks := cpK_succ hkl h26
           conv => whnf
           refine ⟨_, getI_nat hkl, ?_⟩
           conv => whnf
           refine byC (c72 gl _ _ _) op72 ?_
           conv => whnf
           refine bcase_iff.2 ⟨fun h28 => ?_, fun h28 => ?_⟩
           · have h28 : inB cs[i].2[k] 0 2 = false := by have h : (!inB cs[i].2[k] 0 2) = true := h28; simpa using h
             rw [h28, if_neg (by simp)] at hks
             conv => whnf
             refine ⟨⟨3874, [], []⟩, ?_⟩
             conv => whnf
             rw [hwk]
             have hz := hZ3 (k + 1) hkl (by omega)
             rw [hks] at hz
             exact hz
           have h28 : inB cs[i].2[k] 0 2 = true := by have h : (!inB cs[i].2[k] 0 2) = false := h28; simpa using h
           rw [h28, if_pos rfl] at hks
           conv => whnf
           refine ⟨⟨3874, [], []⟩, ?_⟩
           conv => whnf
           rw [hwk, h26]
           have hz := hZ3 (k + 1) hkl (by omega)
           rw [hks] at hz
           exact hz
         have h26 : cpK (cpG ls.length cs[i].1 (nmC cs i) cs[i].2) cs[i].2 k ≠ 0 := fun e => by have h : (cpK (cpG ls.length cs[i].1 (nmC cs i) cs[i].2) cs[i].2 k == 0) = false := h26; rw [e] at h; cases h
         rw [cpK_last hk h26, ← hcf]
         conv => whnf
         refine bcase_iff.2 ⟨fun h30 => ?_, fun h30 => ?_⟩
         · have h30 : cpF ls.length cs i ≠ 0 := by simpa using h30
           conv => whnf
           first | rw [← hG] | skip
           unfold chk
           rw [g1, if_neg (by simp)]
           unfold chk1
           rw [g3, if_neg (by simp), firstR_no hd, if_neg (by simp)]
           unfold chk2
           rw [g15, if_neg (by simp), firstR_at hlc hdc h30, if_pos h30]
           all_goals rfl
         have h30 : cpF ls.length cs i = 0 := by simpa using h30
         conv => whnf
         refine ⟨_, rfl, ?_⟩
         conv => whnf
         refine ⟨lim (by simp; omega), ?_⟩
         conv => whnf
         refine ⟨⟨290, [9, 111, 112, 1009, 2009, 3009, 4009], []⟩, ?_⟩
         conv => whnf
         rw [hwc]
         have hz := hZ2 (i + 1) ⟨hlc, up_succ hdc h30⟩ (by omega)
         rw [show nmC cs (i + 1) = nmC cs i ++ [cs[i].1] from by unfold nmC; rw [take_succ' hlc, List.map_append]; rfl] at hz
         exact hz
       have hkl : k = cs[i].2.length := by have := of_decide_eq_false g26_5; omega
       rw [hkl, ← hcf]
       conv => whnf
       refine bcase_iff.2 ⟨fun h30 => ?_, fun h30 => ?_⟩
       · have h30 : cpF ls.length cs i ≠ 0 := by simpa using h30
         conv => whnf
         first | rw [← hG] | skip
         unfold chk
         rw [g1, if_neg (by simp)]
         unfold chk1
         rw [g3, if_neg (by simp), firstR_no hd, if_neg (by simp)]
         unfold chk2
         rw [g15, if_neg (by simp), firstR_at hlc hdc h30, if_pos h30]
         all_goals rfl
       have h30 : cpF ls.length cs i = 0 := by simpa using h30
       conv => whnf
       refine ⟨_, rfl, ?_⟩
       conv => whnf
       refine ⟨lim (by simp; omega), ?_⟩
       conv => whnf
       refine ⟨⟨290, [9, 111, 112, 1009, 2009, 3009, 4009], []⟩, ?_⟩
       conv => whnf
       rw [hwc]
       have hz := hZ2 (i + 1) ⟨hlc, up_succ hdc h30⟩ (by omega)
       rw [show nmC cs (i + 1) = nmC cs i ++ [cs[i].1] from by unfold nmC; rw [take_succ' hlc, List.map_append]; rfl] at hz
       exact hz
     have h23 : ¬ (cs[i].2.length : Int) ≠ (ls.length : Int) := by have h : ((cs[i].2.length : Int) != (ls.length : Int)) = false := h23; simpa using h
     have hG : (freE cs[i].1 (nmC cs i) : Int) = cpK (cpG ls.length cs[i].1 (nmC cs i) cs[i].2) cs[i].2 0 := by unfold cpK cpG; rw [if_pos g23, if_neg h23, if_neg (by decide), g23]; rfl
     conv => whnf
     rw [hG]
     refine ⟨⟨3874, [2009], [2009]⟩, ?_⟩
     refine LoopW_ind _ (fun k : Nat => (({ tmps := [.undef, .own 1 [], .undef, .undef, .undef, .sl (S := S) U.str (nmC cs i) (some 900005), .undef, .undef, vI i, .own 9 [], vI (cpK (cpG ls.length cs[i].1 (nmC cs i) cs[i].2) cs[i].2 k), vI k, .undef, .undef, .undef, .undef, .undef, .undef, .undef, .undef, .undef, .undef, .undef, .undef, .undef, .undef, .undef, .undef, .undef, .undef, .undef, .undef, .undef, .undef, .undef, .undef, .undef, .undef, .undef, .undef, .undef, .undef, .undef, .undef, .undef, .undef, .undef, .undef, .undef, .undef, .undef, .undef, .undef, .undef, .undef, .undef, .undef, .undef, .undef, .undef, .undef, .undef, .undef, .undef, .undef, .undef, .undef, .undef, .undef, .undef, .undef, .undef, .undef, .undef, .undef, .undef, .undef, .undef, .undef, .undef, .undef, .undef, .undef, .undef, .undef, .undef, .undef, .undef, .undef, .undef, .undef, .undef, .undef, .undef, .undef, .undef, .undef, .undef, .undef, .undef, .undef, .undef, .undef, .undef, .undef, .undef, .undef, .undef, .undef, .undef, .undef, .undef, .undef], seg := [(1, .cells (setC p ls cs)), (9, .cells (cpC cs[i])), (900005, .row U.str false)], up := [] } : St S))) (fun k : Nat => (k ≤ cs[i].2.length)) (fun k : Nat => (cs[i].2.length - k)) () ?_ 0 (Nat.zero_le _)
     intro k hk Z3 hZ3
     conv => whnf
     refine bcase_iff.2 ⟨fun g26_5 => ?_, fun g26_5 => ?_⟩
     · have hkl : k < cs[i].2.length := by have := of_decide_eq_true g26_5; omega
       have hwk : IntKind.i64.wrap ((k : Int) + 1) = ((k + 1 : Nat) : Int) := wrap_nat (by omega)
       conv => whnf
       refine bcase_iff.2 ⟨fun h26 => ?_, fun h26 => ?_⟩
       · have h26 : cpK (cpG ls.length cs[i].1 (nmC cs i) cs[i].2) cs[i].2 k = 0 := eq_of_beq (show (cpK (cpG ls.length cs[i].1 (nmC cs i) cs[i].2) cs[i].2 k == 0) = true from h26)
         have hks := cpK_succ hkl h26
         conv => whnf
         refine ⟨_, getI_nat hkl, ?_⟩
         conv => whnf
         refine byC (c72 gl _ _ _) op72 ?_
         conv => whnf
         refine bcase_iff.2 ⟨fun h28 => ?_, fun h28 => ?_⟩
         · have h28 : inB cs[i].2[k] 0 2 = false := by have h : (!inB cs[i].2[k] 0 2) = true := h28; simpa using h
           rw [h28, if_neg (by simp)] at hks
           conv => whnf
           refine ⟨⟨3874, [], []⟩, ?_⟩
           conv => whnf
           rw [hwk]
           have hz := hZ3 (k + 1) hkl (by omega)
           rw [hks] at hz
           exact hz
         have h28 : inB cs[i].2[k] 0 2 = true := by have h : (!inB cs[i].2[k] 0 2) = false := h28; simpa using h
         rw [h28, if_pos rfl] at hks
         conv => whnf
         refine ⟨⟨3874, [], []⟩, ?_⟩
         conv => whnf
         rw [hwk, h26]
         have hz := hZ3 (k + 1) hkl (by omega)
         rw [hks] at hz
         exact hz
       have h26 : cpK (cpG ls.length cs[i].1 (nmC cs i) cs[i].2) cs[i].2 k ≠ 0 := fun e => by have h : (cpK (cpG ls.length cs[i].1 (nmC cs i) cs[i].2) cs[i].2 k == 0) = false := h26; rw [e] at h; cases h
       rw [cpK_last hk h26, ← hcf]
       conv => whnf
       refine bcase_iff.2 ⟨fun h30 => ?_, fun h30 => ?_⟩
       · have h30 : cpF ls.length cs i ≠ 0 := by simpa using h30
         conv => whnf
         first | rw [← hG] | skip
         unfold chk
         rw [g1, if_neg (by simp)]
         unfold chk1
         rw [g3, if_neg (by simp), firstR_no hd, if_neg (by simp)]
         unfold chk2
         rw [g15, if_neg (by simp), firstR_at hlc hdc h30, if_pos h30]
         all_goals rfl
       have h30 : cpF ls.length cs i = 0 := by simpa using h30
       conv => whnf
       refine ⟨_, rfl, ?_⟩
       conv => whnf
       refine ⟨lim (by simp; omega), ?_⟩
       conv => whnf
       refine ⟨⟨290, [9, 111, 112, 1009, 2009, 3009, 4009], []⟩, ?_⟩
       conv => whnf
       rw [hwc]
       have hz := hZ2 (i + 1) ⟨hlc, up_succ hdc h30⟩ (by omega)
       rw [show nmC cs (i + 1) = nmC cs i ++ [cs[i].1] from by unfold nmC; rw [take_succ' hlc, List.map_append]; rfl] at hz
       exact hz
     have hkl : k = cs[i].2.length := by have := of_decide_eq_false g26_5; omega
     rw [hkl, ← hcf]
     conv => whnf
     refine bcase_iff.2 ⟨fun h30 => ?_, fun h30 => ?_⟩
     · have h30 : cpF ls.length cs i ≠ 0 := by simpa using h30
       conv => whnf
       first | rw [← hG] | skip
       unfold chk
       rw [g1, if_neg (by simp)]
       unfold chk1
       rw [g3, if_neg (by simp), firstR_no hd, if_neg (by simp)]
       unfold chk2
       rw [g15, if_neg (by simp), firstR_at hlc hdc h30, if_pos h30]
       all_goals rfl
     have h30 : cpF ls.length cs i = 0 := by simpa using h30
     conv => whnf
     refine ⟨_, rfl, ?_⟩
     conv => whnf
     refine ⟨lim (by simp; omega), ?_⟩
     conv => whnf
     refine ⟨⟨290, [9, 111, 112, 1009, 2009, 3009, 4009], []⟩, ?_⟩
     conv => whnf
     rw [hwc]
     have hz := hZ2 (i + 1) ⟨hlc, up_succ hdc h30⟩ (by omega)
     rw [show nmC cs (i + 1) = nmC cs i ++ [cs[i].1] from by unfold nmC; rw [take_succ' hlc, List.map_append]; rfl] at hz
     exact hz
   have g23 : freE cs[i].1 (nmC cs i) ≠ 0 := fun e => by have g : (freE cs[i].1 (nmC cs i) == 0) = false := g23_2; rw [e] at g; cases g
   have hG : freE cs[i].1 (nmC cs i) = cpK (cpG ls.length cs[i].1 (nmC cs i) cs[i].2) cs[i].2 0 := by unfold cpK cpG; rw [if_neg g23, if_pos g23]
   conv => whnf
   rw [hG]
   refine ⟨⟨3874, [2009], [2009]⟩, ?_⟩
   refine LoopW_ind _ (fun k : Nat => (({ tmps := [.undef, .own 1 [], .undef, .undef, .undef, .sl (S := S) U.str (nmC cs i) (some 900005), .undef, .undef, vI i, .own 9 [], vI (cpK (cpG ls.length cs[i].1 (nmC cs i) cs[i].2) cs[i].2 k), vI k, .undef, .undef, .undef, .undef, .undef, .undef, .undef, .undef, .undef, .undef, .undef, .undef, .undef, .undef, .undef, .undef, .undef, .undef, .undef, .undef, .undef, .undef, .undef, .undef, .undef, .undef, .undef, .undef, .undef, .undef, .undef, .undef, .undef, .undef, .undef, .undef, .undef, .undef, .undef, .undef, .undef, .undef, .undef, .undef, .undef, .undef, .undef, .undef, .undef, .undef, .undef, .undef, .undef, .undef, .undef, .undef, .undef, .undef, .undef, .undef, .undef, .undef, .undef, .undef, .undef, .undef, .undef, .undef, .undef, .undef, .undef, .undef, .undef, .undef, .undef, .undef, .undef, .undef, .undef, .undef, .undef, .undef, .undef, .undef, .undef, .undef, .undef, .undef, .undef, .undef, .undef, .undef, .undef, .undef, .undef, .undef, .undef, .undef, .undef, .undef, .undef], seg := [(1, .cells (setC p ls cs)), (9, .cells (cpC cs[i])), (900005, .row U.str false)], up := [] } : St S))) (fun k : Nat => (k ≤ cs[i].2.length)) (fun k : Nat => (cs[i].2.length - k)) () ?_ 0 (Nat.zero_le _)
   intro k hk Z3 hZ3
   conv => whnf
   refine bcase_iff.2 ⟨fun g26_5 => ?_, fun g26_5 => ?_⟩
   · have hkl : k < cs[i].2.length := by have := of_decide_eq_true g26_5; omega
     have hwk : IntKind.i64.wrap ((k : Int) + 1) = ((k + 1 : Nat) : Int) := wrap_nat (by omega)
     conv => whnf
     refine bcase_iff.2 ⟨fun h26 => ?_, fun h26 => ?_⟩
     · have h26 : cpK (cpG ls.length cs[i].1 (nmC cs i) cs[i].2) cs[i].2 k = 0 := eq_of_beq (show (cpK (cpG ls.length cs[i].1 (nmC cs i) cs[i].2) cs[i].2 k == 0) = true from h26)
       have hks := cpK_succ hkl h26
       conv => whnf
       refine ⟨_, getI_nat hkl, ?_⟩
       conv => whnf
       refine byC (c72 gl _ _ _) op72 ?_
       conv => whnf
       refine bcase_iff.2 ⟨fun h28 => ?_, fun h28 => ?_⟩
       · have h28 : inB cs[i].2[k] 0 2 = false := by have h : (!inB cs[i].2[k] 0 2) = true := h28; simpa using h
         rw [h28, if_neg (by simp)] at hks
         conv => whnf
         refine ⟨⟨3874, [], []⟩, ?_⟩
         conv => whnf
         rw [hwk]
         have hz := hZ3 (k + 1) hkl (by omega)
         rw [hks] at hz
         exact hz
       have h28 : inB cs[i].2[k] 0 2 = true := by have h : (!inB cs[i].2[k] 0 2) = false := h28; simpa using h
       rw [h28, if_pos rfl] at hks
       conv => whnf
       refine ⟨⟨3874, [], []⟩, ?_⟩
       conv => whnf
       rw [hwk, h26]
       have hz := hZ3 (k + 1) hkl (by omega)
       rw [hks] at hz
       exact hz
     have h26 : cpK (cpG ls.length cs[i].1 (nmC cs i) cs[i].2) cs[i].2 k ≠ 0 := fun e => by have h : (cpK (cpG ls.length cs[i].1 (nmC cs i) cs[i].2) cs[i].2 k == 0) = false := h26; rw [e] at h; cases h
     rw [cpK_last hk h26, ← hcf]
     conv => whnf
     refine bcase_iff.2 ⟨fun h30 => ?_, fun h30 => ?_⟩
     · have h30 : cpF ls.length cs i ≠ 0 := by simpa using h30
       conv => whnf
       first | rw [← hG] | skip
       unfold chk
       rw [g1, if_neg (by simp)]
       unfold chk1
       rw [g3, if_neg (by simp), firstR_no hd, if_neg (by simp)]
       unfold chk2
       rw [g15, if_neg (by simp), firstR_at hlc hdc h30, if_pos h30]
       all_goals rfl
     have h30 : cpF ls.length cs i = 0 := by simpa using h30
     conv => whnf
     refine ⟨_, rfl, ?_⟩
     conv => whnf
     refine ⟨lim (by simp; omega), ?_⟩
     conv => whnf
     refine ⟨⟨290, [9, 111, 112, 1009, 2009, 3009, 4009], []⟩, ?_⟩
     conv => whnf
     rw [hwc]
     have hz := hZ2 (i + 1) ⟨hlc, up_succ hdc h30⟩ (by omega)
     rw [show nmC cs (i + 1) = nmC cs i ++ [cs[i].1] from by unfold nmC; rw [take_succ' hlc, List.map_append]; rfl] at hz
     exact hz
   have hkl : k = cs[i].2.length := by have := of_decide_eq_false g26_5; omega
   rw [hkl, ← hcf]
   conv => whnf
   refine bcase_iff.2 ⟨fun h30 => ?_, fun h30 => ?_⟩
   · have h30 : cpF ls.length cs i ≠ 0 := by simpa using h30
     conv => whnf
     first | rw [← hG] | skip
     unfold chk
     rw [g1, if_neg (by simp)]
     unfold chk1
     rw [g3, if_neg (by simp), firstR_no hd, if_neg (by simp)]
     unfold chk2
     rw [g15, if_neg (by simp), firstR_at hlc hdc h30, if_pos h30]
     all_goals rfl
   have h30 : cpF ls.length cs i = 0 := by simpa using h30
   conv => whnf
   refine ⟨_, rfl, ?_⟩
   conv => whnf
   refine ⟨lim (by simp; omega), ?_⟩
   conv => whnf
   refine ⟨⟨290, [9, 111, 112, 1009, 2009, 3009, 4009], []⟩, ?_⟩
   conv => whnf
   rw [hwc]
   have hz := hZ2 (i + 1) ⟨hlc, up_succ hdc h30⟩ (by omega)
   rw [show nmC cs (i + 1) = nmC cs i ++ [cs[i].1] from by unfold nmC; rw [take_succ' hlc, List.map_append]; rfl] at hz
   exact hz
 have hgc : i = cs.length := by have := of_decide_eq_false h19; omega
 conv => whnf
 rw [hgc] at hdc
 unfold chk
 rw [g1, if_neg (by simp)]
 unfold chk1
 rw [g3, if_neg (by simp), firstR_no hd, if_neg (by simp)]
 unfold chk2
 rw [g15, if_neg (by simp), firstR_no hdc, if_neg (by simp)]
theorem op17 : Opens PR 17 := ⟨_, Tryd.func17, rfl, rfl⟩
theorem c45 (gl : Gl) (p : Int) (ls : List Lf) (cs : List Cp) (hL : LensS ls cs) (hN : LensN ls cs) : PCalls PR gl 45 [.agg [vI p, lfsV ls, cpsV cs]] fun r => r = vB (chE p ls cs == 0) := by
 refine fnW_sound (par_ok gl) Tryd.func45 ?_
 conv => whnf
 refine byC (c17 gl p ls cs hL hN) op17 ?_
 conv => whnf
theorem op45 : Opens PR 45 := ⟨_, Tryd.func45, rfl, rfl⟩
end Go.Ab.MkF
namespace Go.Ab.MkF
open Go Go.Ab Go.Ab.Pln Go.Proofs
set_option maxRecDepth 100000
def give (cs : List Cp) (a b : Nat) (k : Int) : List Cp := cs.set a ((cs.getD a cp0).1, (cs.getD a cp0).2.set b k)
theorem give_len (cs : List Cp) (a b : Nat) (k : Int) : (give cs a b k).length = cs.length := by simp [give]
theorem give_at {cs : List Cp} {a b : Nat} {k : Int} (ha : a < cs.length) : (give cs a b k).getD a cp0 = (cs[a].1, cs[a].2.set b k) := by
 unfold give; rw [getD_set_self ha, getD_at ha]
theorem give_ne {cs : List Cp} {a b c : Nat} {k : Int} (h : a ≠ c) : (give cs a b k).getD c cp0 = cs.getD c cp0 := by
 unfold give; rw [getD_set_ne h]
theorem give_names (cs : List Cp) (a b : Nat) (k : Int) : (give cs a b k).map (fun x => x.1) = cs.map fun x => x.1 := by
 apply List.ext_getElem (by simp [give])
 intro i h1 h2
 simp only [give, List.getElem_map, List.getElem_set]
 by_cases e : a = i
 · subst e
   have ha : a < cs.length := by simpa using h2
   rw [if_pos rfl, getD_at ha]
 rw [if_neg e]
theorem cpF_zero {n : Nat} {cs : List Cp} {i : Nat} (hi : i < cs.length) (h1 : nameB cs[i].1 = true) (h2 : ((cs.take i).any fun y => strEq y.1 cs[i].1) = false) (h3 : cs[i].2.length = n) (h4 : ∀ x ∈ cs[i].2, 0 ≤ x ∧ x ≤ 2) : cpF n cs i = 0 := by
 unfold cpF cpE
 rw [getD_at hi, h1, h2, if_neg (by simp), if_neg (by simp), if_neg (by simpa using h3), if_neg]
 intro h
 obtain ⟨x, hx, hb⟩ := List.any_eq_true.1 h
 have := h4 x hx
 unfold outB at hb
 rw [Bool.or_eq_true, decide_eq_true_eq, decide_eq_true_eq] at hb
 omega
theorem any_names (l : List Cp) (w : ByteArray) : (l.any fun y => strEq y.1 w) = (l.map fun x => x.1).any fun y => strEq y w := by rw [List.any_map]; rfl
theorem Valid.give {p : Int} {ls : List Lf} {cs : List Cp} (h : Valid p ls cs) {a b : Nat} {k : Int} (ha : a < cs.length) (hk : 0 ≤ k ∧ k ≤ 2) : Valid p ls (give cs a b k) := by
 have hl := give_len cs a b k
 refine ⟨h.price, h.n1, h.n6, h.leaf, by rw [hl]; exact h.m1, by rw [hl]; exact h.m4, fun i hi => ?_⟩
 have hi' : i < cs.length := by rw [← hl]; exact hi
 obtain ⟨h1, h2, h3, h4⟩ := h.cp hi'
 have hn : (Go.Ab.MkF.give cs a b k)[i].1 = cs[i].1 := by
  have e := List.getElem_of_eq (give_names cs a b k) (i := i) (by simpa using hi)
  simpa using e
 have hp : (((Go.Ab.MkF.give cs a b k).take i).any fun y => strEq y.1 (Go.Ab.MkF.give cs a b k)[i].1) = false := by
  rw [any_names, List.map_take, give_names, hn, ← List.map_take, ← any_names]; exact h4
 have hg : (Go.Ab.MkF.give cs a b k)[i] = (Go.Ab.MkF.give cs a b k).getD i cp0 := (getD_at hi).symm
 refine cpF_zero hi (by rw [hn]; exact h1) hp ?_ fun x hx => ?_
 · by_cases e : a = i
   · subst e; rw [hg, give_at ha]; simpa using h2
   rw [hg, give_ne e, getD_at hi']; exact h2
 by_cases e : a = i
 · subst e
   rw [hg, give_at ha] at hx
   rcases List.mem_or_eq_of_mem_set hx with hx | rfl
   · exact h3 x hx
   exact hk
 rw [hg, give_ne e, getD_at hi'] at hx; exact h3 x hx
theorem enE_valid {p : Int} {ls : List Lf} {cs : List Cp} (h : Valid p ls cs) {a : Nat} (ha : a < cs.length) : enE p ls cs (a : Int) 0 = 0 := by
 unfold enE
 rw [if_pos (chk_valid.2 h), if_neg]
 have hn := h.n1
 have h1 : [(a : Int)].any (outB 0 ((cs.length : Int) - 1)) = false := any_one.2 ⟨by omega, by omega⟩
 have h2 : [(0 : Int)].any (outB 0 ((ls.length : Int) - 1)) = false := any_one.2 ⟨by omega, by omega⟩
 unfold askB
 rw [h1, h2]; decide
theorem hasI_give {cs : List Cp} {a b : Nat} {k : Int} (ha : a < cs.length) (hb : b < cs[a].2.length) (l : Nat) : hasI (give cs a b k) a l = if b = l then k else hasI cs a l := by
 unfold hasI
 rw [give_at ha, getD_at ha]
 by_cases e : b = l
 · subst e; rw [if_pos rfl, getD_set_self hb]
 rw [if_neg e, getD_set_ne e]
theorem lost_nonneg {p : Int} {ls : List Lf} {cs : List Cp} (h : Valid p ls cs) (c : Nat) {l : Nat} (hl : l < ls.length) : 0 ≤ lostI p ls cs c l := by
 have h1 := h.lost hl
 unfold lostI
 generalize p * (ls.getD l lf0).2.2 = q at h1
 split
 · omega
 split <;> omega
theorem wor_le {p : Int} {ls : List Lf} {cs : List Cp} (h : Valid p ls cs) (c : Nat) : ∀ l, l ≤ ls.length → worU p ls cs c l ≤ p
 | 0, _ => Int.le_refl _
 | l + 1, hl => by
  have h1 := wor_le h c l (by omega)
  have h2 := lost_nonneg h c (l := l) (by omega)
  simp only [worU]; omega
theorem wor_whole {p : Int} {ls : List Lf} {cs : List Cp} (c : Nat) (hw : ∀ l, l < ls.length → hasI cs c l = kindI (cs.getD c cp0).2) : ∀ l, l ≤ ls.length → worU p ls cs c l = p
 | 0, _ => rfl
 | l + 1, hl => by
  have h1 := wor_whole (p := p) c hw l (by omega)
  have h2 := hw l (by omega)
  have hk := kindI_mem (cs.getD c cp0).2
  have : lostI p ls cs c l = 0 := by
   unfold lostI
   rw [if_neg (by rw [h2]; omega), if_pos h2]
  simp only [worU]; omega
theorem lost_give {p : Int} {ls : List Lf} {cs : List Cp} (h : Valid p ls cs) {a b : Nat} {k : Int} (ha : a < cs.length) (hb : b < cs[a].2.length) (hk : k ≠ 0) (h0 : hasI cs a b = 0)
  (he : kindI ((give cs a b k).getD a cp0).2 = kindI (cs.getD a cp0).2) {l : Nat} (hl : l < ls.length) : lostI p ls (give cs a b k) a l ≤ lostI p ls cs a l := by
 have h1 := h.lost hl
 unfold lostI
 rw [hasI_give ha hb, he]
 generalize p * (ls.getD l lf0).2.2 = q at h1
 by_cases e : b = l
 · subst e
   rw [if_pos rfl, if_neg hk, if_pos h0]
   split <;> omega
 rw [if_neg e]; exact Int.le_refl _
theorem wor_give {p : Int} {ls : List Lf} {cs : List Cp} (h : Valid p ls cs) {a b : Nat} {k : Int} (ha : a < cs.length) (hb : b < cs[a].2.length) (hk : k ≠ 0) (h0 : hasI cs a b = 0)
  (he : kindI ((give cs a b k).getD a cp0).2 = kindI (cs.getD a cp0).2) : ∀ l, l ≤ ls.length → worU p ls cs a l ≤ worU p ls (give cs a b k) a l
 | 0, _ => Int.le_refl _
 | l + 1, hl => by
  have h1 := wor_give h ha hb hk h0 he l (by omega)
  have h2 := lost_give h ha hb hk h0 he (l := l) (by omega)
  simp only [worU]; omega
end Go.Ab.MkF
namespace Go.Ab.MkF
open Go Go.Ab Go.Ab.Pln Go.Proofs
set_option maxHeartbeats 1000000
set_option maxRecDepth 100000
theorem remI {x m : Nat} (hx : x ≤ 255) : Int.tmod (IntKind.i64.wrap (x : Int)) (m : Int) = ((x % m : Nat) : Int) := by
 rw [show IntKind.i64.wrap (x : Int) = x from wrap_int (by omega) (by omega)]; rfl
theorem rem2 {z : Nat} (hz : z ≤ 255) : IntKind.i64.wrap (1 + Int.tmod (IntKind.i64.wrap (z : Int)) 2) = ((1 + z % 2 : Nat) : Int) := by
 rw [show Int.tmod (IntKind.i64.wrap (z : Int)) 2 = ((z % 2 : Nat) : Int) from remI (m := 2) hz, wrap_int (by omega) (by omega)]; omega
theorem LensS.give {ls : List Lf} {cs : List Cp} (h : LensS ls cs) {a b : Nat} {k : Int} (ha : a < cs.length) : LensS ls (give cs a b k) := by
 refine ⟨⟨h.1.1, by rw [give_len]; exact h.1.2⟩, fun x hx => ?_⟩
 unfold Go.Ab.MkF.give at hx
 rcases List.mem_or_eq_of_mem_set hx with hx | rfl
 · exact h.2 x hx
 simp only [List.length_set]
 rw [getD_at ha]
 exact h.2 _ (List.getElem_mem ha)
def whB (n : Nat) (cs : List Cp) (a i : Nat) : Bool := ((missL n cs a).length == 0) && (List.range i).all fun l => hasI cs a l == kindI (cs.getD a cp0).2
theorem whB_succ (n : Nat) (cs : List Cp) (a i : Nat) : whB n cs a (i + 1) = (whB n cs a i && (hasI cs a i == kindI (cs.getD a cp0).2)) := by
 unfold whB; rw [List.range_succ, List.all_append, Bool.and_assoc]; simp
theorem whB_zero (n : Nat) (cs : List Cp) (a : Nat) : (((natsV (missL n cs a)).length : Int) == 0) = whB n cs a 0 := by
 unfold whB
 rw [natsV_len, Bool.eq_iff_iff]; simp
theorem whB_all {n : Nat} {cs : List Cp} {a : Nat} (h : whB n cs a n = true) : ∀ l, l < n → hasI cs a l = kindI (cs.getD a cp0).2 := fun l hl => by
 unfold whB at h
 rw [Bool.and_eq_true] at h
 simpa using List.all_eq_true.1 h.2 l (List.mem_range.2 hl)
theorem c12 (p : Int) (ls : List Lf) (cs : List Cp) (hL : LensS ls cs) (hN : LensN ls cs) (B : List Int) (hB : B.length = 3) (hb : ∀ q, 0 ≤ B.getD q 0 ∧ B.getD q 0 ≤ 255) : PCalls PR glT 12 [.agg [vI p, lfsV ls, cpsV cs], .agg [.arr (S := S) U.u8 3 B]] fun r => r = vB true := by
 obtain ⟨x, hx⟩ : ∃ x : Nat, B.getD 0 0 = (x : Int) := ⟨(B.getD 0 0).toNat, by have := hb 0; omega⟩
 obtain ⟨y, hy⟩ : ∃ x : Nat, B.getD 1 0 = (x : Int) := ⟨(B.getD 1 0).toNat, by have := hb 1; omega⟩
 obtain ⟨z, hz⟩ : ∃ x : Nat, B.getD 2 0 = (x : Int) := ⟨(B.getD 2 0).toNat, by have := hb 2; omega⟩
 have hx2 := hb 0
 have hy2 := hb 1
 have hz2 := hb 2
 rw [hx] at hx2
 rw [hy] at hy2
 rw [hz] at hz2
 refine fnW_sound (parH_ok glT) Tryd.func12 ?_
 conv => whnf
 refine ⟨?_⟩
 conv => whnf
 refine ⟨?_⟩
 conv => whnf
 refine byC (c45 glT p ls cs hL hN) op45 ?_
 rcases Classical.em (chE p ls cs = 0) with hk | hk
 · have hV := chk_valid.1 hk
   have hm1 := hV.m1
   have hm4 := hV.m4
   have hn1 := hV.n1
   have hn6 := hV.n6
   rw [show (chE p ls cs == 0) = true from by rw [hk]; rfl]
   conv => whnf
   refine ⟨[0, 1, 2, 3, 4, 5, 6, 7, 8, 9, 10, 11, 12, 13, 14, 15, 16, 17, 18, 19, 20, 21], [], [], [], ⟨196159429230833773869868419475239575503198607639501078527, [], []⟩, by decide +kernel, ?_⟩
   conv => whnf
   refine ⟨by omega, by omega, ?_⟩
   conv => whnf
   refine ⟨(x : Int), (by have h := getI_D (l := B) (i := 0) (by omega); rw [hx] at h; exact h), ?_⟩
   conv => whnf
   refine ⟨by omega, ?_⟩
   conv => whnf
   refine ⟨by omega, by omega, ?_⟩
   conv => whnf
   refine ⟨(y : Int), (by have h := getI_D (l := B) (i := 1) (by omega); rw [hy] at h; exact h), ?_⟩
   conv => whnf
   refine ⟨by omega, ?_⟩
   conv => whnf
   refine ⟨by omega, by omega, ?_⟩
   conv => whnf
   refine ⟨(z : Int), (by have h := getI_D (l := B) (i := 2) (by omega); rw [hz] at h; exact h), ?_⟩
   conv => whnf
   refine ⟨by decide, ?_⟩
   conv => whnf
   refine ⟨?_⟩
   conv => whnf
   rw [remI (x := x) (m := cs.length) (by omega), remI (x := y) (m := ls.length) (by omega), rem2 (z := z) (by omega)]
   conv => whnf
   obtain ⟨a, ha⟩ : ∃ a, x % cs.length = a := ⟨_, rfl⟩
   obtain ⟨b, hbb⟩ : ∃ b, y % ls.length = b := ⟨_, rfl⟩
   obtain ⟨k, hkk⟩ : ∃ k, 1 + z % 2 = k := ⟨_, rfl⟩
   rw [ha, hbb, hkk]
   conv => whnf
   have haL : a < cs.length := by rw [← ha]; exact Nat.mod_lt _ (by omega)
   have hbL : b < ls.length := by rw [← hbb]; exact Nat.mod_lt _ (by omega)
   have hk2 : k = 1 ∨ k = 2 := by omega
   have hEa := enE_valid hV haL
   have hgc : cs.getD a cp0 = cs[a] := getD_at haL
   have hxl : cs[a].2.length = ls.length := (hV.cp haL).2.1
   have hlw := wor_le hV a ls.length (Nat.le_refl _)
   have hpr := hV.price
   refine byC (to' (c25 glT p ls cs hL a) (by unfold worV; rw [if_pos hEa, Int.toNat_natCast])) op25 ?_
   conv => whnf
   refine ⟨?_⟩
   conv => whnf
   refine byC (to' (c18 p ls cs hL a) (by unfold missV; rw [if_pos hEa, Int.toNat_natCast])) op18 ?_
   conv => whnf
   refine ⟨?_⟩
   conv => whnf
   refine ⟨?_⟩
   conv => whnf
   rw [whB_zero]
   refine ⟨⟨126852, [3], []⟩, ?_⟩
   refine LoopW_ind _ (fun i : Nat => (({ tmps := [.undef, .undef, .own 2 [], .undef, .undef, .undef, .undef, vI a, vI b, vI k, vI (max 0 (worU p ls cs a ls.length)), vI 0, .undef, vI (kindI (cs.getD a cp0).2), vI 0, vB (whB ls.length cs a i), vI i, .undef, .undef, .undef, .undef, .undef, .undef, .undef, .undef, .undef, .undef, .undef, .undef, .undef, .undef, .undef, .undef, .undef, .undef, .undef, .undef, .undef, .undef, .undef, .undef, .undef, .undef, .undef, .undef, .undef, .undef, .undef, .undef, .undef, .undef, .undef, .undef, .undef, .undef, .undef, .undef, .undef, .undef, .undef, .undef, .undef, .undef, .undef, .undef, .undef, .undef, .undef, .undef, .undef, .undef, .undef, .undef, .undef, .undef, .undef, .undef, .undef, .undef, .undef, .undef, .undef, .undef, .undef, .undef, .undef, .undef, .undef, .undef, .undef, .undef, .undef, .undef, .undef, .undef, .undef, .undef, .undef, .undef, .undef, .undef, .undef, .undef, .undef, .undef, .undef, .undef, .undef, .undef, .undef, .undef, .undef, .undef, .undef, .undef, .undef, .undef, .undef, .undef, .undef, .undef, .undef, .undef, .undef, .undef, .undef, .undef, .undef, .undef, .undef, .undef, .undef, .undef, .undef, .undef, .undef, .undef, .undef, .undef, .undef, .undef, .undef, .undef, .undef, .undef, .undef, .undef, .undef, .undef, .undef, .undef, .undef, .undef, .undef, .undef, .undef, .undef, .undef, .undef, .undef, .undef, .undef, .undef, .undef, .undef, .undef, .undef, .undef, .undef, .undef, .undef, .undef, .undef, .undef, .undef, .undef, .undef, .undef, .undef, .undef, .undef, .undef, .undef, .undef, .undef, .undef, .undef], seg := [(2, .cells (setC p ls cs))], up := [] } : St S))) (fun i : Nat => (i ≤ ls.length)) (fun i : Nat => (ls.length - i)) () ?_ 0 (Nat.zero_le _)
   intro i hi Z1 hZ1
   conv => whnf
   refine ⟨?_⟩
   conv => whnf
   refine bcase_iff.2 ⟨fun h9 => ?_, fun h9 => ?_⟩
   · have hlt : i < ls.length := by have := of_decide_eq_true h9; omega
     have hw : IntKind.i64.wrap ((i : Int) + 1) = ((i + 1 : Nat) : Int) := wrap_nat (by omega)
     conv => whnf
     refine ⟨?_⟩
     conv => whnf
     refine bcase_iff.2 ⟨fun g11_1 => ?_, fun g11_1 => ?_⟩
     · have hwt : whB ls.length cs a i = true := g11_1
       have hix : i < cs[a].2.length := by omega
       conv => whnf
       refine ⟨_, getI_nat haL, ?_⟩
       conv => whnf
       refine ⟨hasI cs a i, by rw [getI_nat hix]; unfold hasI; rw [hgc, getD_at hix], ?_⟩
       conv => whnf
       refine ⟨?_⟩
       conv => whnf
       refine ⟨⟨126852, [], []⟩, ?_⟩
       conv => whnf
       rw [hw]
       have hz := hZ1 (i + 1) hlt (by omega)
       rw [whB_succ, hwt, Bool.true_and] at hz
       exact hz
     have hwf : whB ls.length cs a i = false := g11_1
     conv => whnf
     refine ⟨?_⟩
     conv => whnf
     refine ⟨⟨126852, [], []⟩, ?_⟩
     conv => whnf
     rw [hw]
     have hz := hZ1 (i + 1) hlt (by omega)
     rw [whB_succ, hwf, Bool.false_and] at hz
     exact hz
   have hge : i = ls.length := by have := of_decide_eq_false h9; omega
   conv => whnf
   refine ⟨?_⟩
   conv => whnf
   refine bcase_iff.2 ⟨fun g12_10 => ?_, fun g12_10 => ?_⟩
   · exfalso
     have g := of_decide_eq_true g12_10
     omega
   conv => whnf
   refine bcase_iff.2 ⟨fun g12_16 => ?_, fun g12_16 => ?_⟩
   · exfalso
     have g := of_decide_eq_true g12_16
     omega
   conv => whnf
   refine bcase_iff.2 ⟨fun g12_18 => ?_, fun g12_18 => ?_⟩
   · have hwt : whB ls.length cs a ls.length = true := by have g := g12_18; rw [hge] at g; exact g
     have hwp := wor_whole (p := p) a (whB_all hwt) ls.length (Nat.le_refl _)
     conv => whnf
     refine bcase_iff.2 ⟨fun h12 => ?_, fun h12 => ?_⟩
     · exfalso
       have g : ((max 0 (worU p ls cs a ls.length)) != p) = true := h12
       rw [hwp, show max 0 p = p by omega] at g
       simp at g
     conv => whnf
     refine ⟨?_⟩
     conv => whnf
     refine ⟨_, getI_nat haL, ?_⟩
     conv => whnf
     have hbx : b < cs[a].2.length := by omega
     refine ⟨hasI cs a b, by rw [getI_nat hbx]; unfold hasI; rw [hgc, getD_at hbx], ?_⟩
     conv => whnf
     refine bcase_iff.2 ⟨fun h14 => ?_, fun h14 => ?_⟩
     · conv => whnf
       refine ⟨?_⟩
       conv => whnf
       refine byC c27 op27 ?_
       conv => whnf
       all_goals rfl
     have h0 : hasI cs a b = 0 := by have g := of_decide_eq_false h14; have := (hV.has haL hbL).1; omega
     have hgv : (cs.set a (cs[a].1, cs[a].2.set b (k : Int))) = (give cs a b (k : Int)) := by unfold give; rw [hgc]
     have hVg := hV.give (b := b) (k := (k : Int)) haL (by omega)
     have hLg := hL.give (b := b) (k := (k : Int)) haL
     have haG : a < (give cs a b (k : Int)).length := by rw [give_len]; exact haL
     have hEg := enE_valid hVg haG
     conv => whnf
     refine ⟨?_⟩
     conv => whnf
     refine ⟨?_⟩
     conv => whnf
     refine ⟨lim (show cs.length ≤ 1000000000 by omega), true, ?_⟩
     conv => whnf
     refine ⟨?_⟩
     conv => whnf
     refine ⟨true, ?_⟩
     conv => whnf
     refine ⟨_, getI_nat (xs := cs) haL, ?_⟩
     conv => whnf
     refine ⟨_, getI_nat (xs := cs) haL, ?_⟩
     conv => whnf
     refine ⟨?_⟩
     conv => whnf
     refine ⟨lim (show cs[a].2.length ≤ 1000000000 by omega), true, ?_⟩
     conv => whnf
     refine ⟨?_⟩
     conv => whnf
     refine ⟨true, ?_⟩
     conv => whnf
     refine ⟨_, getI_nat (xs := cs[a].2) hbx, ?_⟩
     conv => whnf
     refine ⟨(k : Int), rfl, ?_⟩
     conv => whnf
     generalize hF : (fun zs : List (S.T U.int) => zs.set ((b : Int)).toNat (k : Int)) = F
     conv => whnf
     rw [show F cs[a].2 = cs[a].2.set b (k : Int) from by rw [← hF]; rfl]
     conv => whnf
     refine ⟨?_⟩
     conv => whnf
     refine ⟨true, ?_⟩
     conv => whnf
     refine ⟨_, getI_nat (xs := cs) haL, ?_⟩
     conv => whnf
     refine ⟨((cs[a].1, cs[a].2.set b (k : Int)) : Cp), rfl, ?_⟩
     conv => whnf
     generalize hF2 : (fun zs : List (S.T U.copy) => zs.set ((a : Int)).toNat ((cs[a].1, cs[a].2.set b (k : Int)) : Cp)) = F2
     conv => whnf
     rw [show F2 cs = (give cs a b (k : Int)) from by rw [← hF2, ← hgv]; rfl]
     conv => whnf
     refine ⟨?_⟩
     conv => whnf
     refine byC (to' (c18 p ls (give cs a b (k : Int)) hLg a) (by unfold missV; rw [if_pos hEg, Int.toNat_natCast])) op18 ?_
     conv => whnf
     refine ⟨?_⟩
     conv => whnf
     refine byC (to' (c25 glT p ls (give cs a b (k : Int)) hLg a) (by unfold worV; rw [if_pos hEg, Int.toNat_natCast])) op25 ?_
     conv => whnf
     refine ⟨?_⟩
     conv => whnf
     refine bcase_iff.2 ⟨fun g24_10 => ?_, fun g24_10 => ?_⟩
     · conv => whnf
       refine byC c27 op27 ?_
       conv => whnf
       all_goals rfl
     have he : kindI ((give cs a b (k : Int)).getD a cp0).2 = kindI (cs.getD a cp0).2 := by have g : (kindI ((give cs a b (k : Int)).getD a cp0).2 != kindI (cs.getD a cp0).2) = false := g24_10; simpa using g
     have hwg := wor_give hV haL hbx (show (k : Int) ≠ 0 by omega) h0 he ls.length (Nat.le_refl _)
     conv => whnf
     refine bcase_iff.2 ⟨fun g24_16 => ?_, fun g24_16 => ?_⟩
     · conv => whnf
       refine byC c27 op27 ?_
       conv => whnf
       all_goals rfl
     exfalso
     have g := of_decide_eq_false g24_16
     omega
   conv => whnf
   refine ⟨?_⟩
   conv => whnf
   refine ⟨_, getI_nat haL, ?_⟩
   conv => whnf
   have hbx : b < cs[a].2.length := by omega
   refine ⟨hasI cs a b, by rw [getI_nat hbx]; unfold hasI; rw [hgc, getD_at hbx], ?_⟩
   conv => whnf
   refine bcase_iff.2 ⟨fun h14 => ?_, fun h14 => ?_⟩
   · conv => whnf
     refine ⟨?_⟩
     conv => whnf
     refine byC c27 op27 ?_
     conv => whnf
     all_goals rfl
   have h0 : hasI cs a b = 0 := by have g := of_decide_eq_false h14; have := (hV.has haL hbL).1; omega
   have hgv : (cs.set a (cs[a].1, cs[a].2.set b (k : Int))) = (give cs a b (k : Int)) := by unfold give; rw [hgc]
   have hVg := hV.give (b := b) (k := (k : Int)) haL (by omega)
   have hLg := hL.give (b := b) (k := (k : Int)) haL
   have haG : a < (give cs a b (k : Int)).length := by rw [give_len]; exact haL
   have hEg := enE_valid hVg haG
   conv => whnf
   refine ⟨?_⟩
   conv => whnf
   refine ⟨?_⟩
   conv => whnf
   refine ⟨lim (show cs.length ≤ 1000000000 by omega), true, ?_⟩
   conv => whnf
   refine ⟨?_⟩
   conv => whnf
   refine ⟨true, ?_⟩
   conv => whnf
   refine ⟨_, getI_nat (xs := cs) haL, ?_⟩
   conv => whnf
   refine ⟨_, getI_nat (xs := cs) haL, ?_⟩
   conv => whnf
   refine ⟨?_⟩
   conv => whnf
   refine ⟨lim (show cs[a].2.length ≤ 1000000000 by omega), true, ?_⟩
   conv => whnf
   refine ⟨?_⟩
   conv => whnf
   refine ⟨true, ?_⟩
   conv => whnf
   refine ⟨_, getI_nat (xs := cs[a].2) hbx, ?_⟩
   conv => whnf
   refine ⟨(k : Int), rfl, ?_⟩
   conv => whnf
   generalize hF : (fun zs : List (S.T U.int) => zs.set ((b : Int)).toNat (k : Int)) = F
   conv => whnf
   rw [show F cs[a].2 = cs[a].2.set b (k : Int) from by rw [← hF]; rfl]
   conv => whnf
   refine ⟨?_⟩
   conv => whnf
   refine ⟨true, ?_⟩
   conv => whnf
   refine ⟨_, getI_nat (xs := cs) haL, ?_⟩
   conv => whnf
   refine ⟨((cs[a].1, cs[a].2.set b (k : Int)) : Cp), rfl, ?_⟩
   conv => whnf
   generalize hF2 : (fun zs : List (S.T U.copy) => zs.set ((a : Int)).toNat ((cs[a].1, cs[a].2.set b (k : Int)) : Cp)) = F2
   conv => whnf
   rw [show F2 cs = (give cs a b (k : Int)) from by rw [← hF2, ← hgv]; rfl]
   conv => whnf
   refine ⟨?_⟩
   conv => whnf
   refine byC (to' (c18 p ls (give cs a b (k : Int)) hLg a) (by unfold missV; rw [if_pos hEg, Int.toNat_natCast])) op18 ?_
   conv => whnf
   refine ⟨?_⟩
   conv => whnf
   refine byC (to' (c25 glT p ls (give cs a b (k : Int)) hLg a) (by unfold worV; rw [if_pos hEg, Int.toNat_natCast])) op25 ?_
   conv => whnf
   refine ⟨?_⟩
   conv => whnf
   refine bcase_iff.2 ⟨fun g24_10 => ?_, fun g24_10 => ?_⟩
   · conv => whnf
     refine byC c27 op27 ?_
     conv => whnf
     all_goals rfl
   have he : kindI ((give cs a b (k : Int)).getD a cp0).2 = kindI (cs.getD a cp0).2 := by have g : (kindI ((give cs a b (k : Int)).getD a cp0).2 != kindI (cs.getD a cp0).2) = false := g24_10; simpa using g
   have hwg := wor_give hV haL hbx (show (k : Int) ≠ 0 by omega) h0 he ls.length (Nat.le_refl _)
   conv => whnf
   refine bcase_iff.2 ⟨fun g24_16 => ?_, fun g24_16 => ?_⟩
   · conv => whnf
     refine byC c27 op27 ?_
     conv => whnf
     all_goals rfl
   exfalso
   have g := of_decide_eq_false g24_16
   omega
 have hE : enE p ls cs 0 0 = chE p ls cs := by unfold enE; rw [if_neg hk]
 rw [show (chE p ls cs == 0) = false from by simpa using hk]
 conv => whnf
 refine ⟨?_⟩
 conv => whnf
 refine byC (to' (c25 glT p ls cs hL 0) (by unfold worV; rw [if_neg (by rw [hE]; exact hk)])) op25 ?_
 conv => whnf
 refine ⟨?_⟩
 conv => whnf
 refine bcase_iff.2 ⟨fun g3_2 => ?_, fun g3_2 => ?_⟩
 · conv => whnf
   refine byC c27 op27 ?_
   conv => whnf
   all_goals rfl
 exfalso
 have g : (enE p ls cs 0 0 != 0) = false := g3_2
 rw [hE] at g
 exact hk (by simpa using g)
end Go.Ab.MkF
namespace Go.Ab.MkF
open Go Go.Ab Go.Proofs Go.Proofs.YtmchcpmkadhmjaaDoor Go.ChangeShapes Go.WideShapes Go.ChangeAt Go.RowKit
theorem post_same {H : Type} {enc : TypeId × Value → H} {P : Program} {f : Func} {s : ChangeSpec} {apart fresh handsOn again : Bool} {W W' : World} {args : Array Value} {v : Value} {ds gs : List (DataW H)} {before pa pv : List MemPlace}
  (hW : DataW.Whole enc P f.params.toList s.vars apart W args.toList ds gs before)
  (hres : ∀ (b : Nat) (sp : Nat → Bool) (hd : Bool), DataW.TrodAll enc P W' b sp hd f.resultTypes.toList (v.resultList f.resultTypes.size) (s.fn H (ds ++ gs)).results [])
  (hargs : ∀ sp : Nat → Bool, (∀ p ∈ before, sp p.block = true) → DataW.TrodAll enc P W' 0 sp true f.params.toList args.toList (s.fn H (ds ++ gs)).args pa)
  (hvars : ∀ sp : Nat → Bool, (∀ p ∈ before, sp p.block = true) → DataW.TrodVars enc P W' sp s.vars (s.fn H (ds ++ gs)).vars pv)
  (hps : before = pa ++ pv) (hk : W.keptBut W' (· ∈ before)) (hfz : ∀ a, a.block < W.heap.size → W'.frozen? a = W.frozen? a)
  (hok : ∀ (j : Nat) (t : TypeId) (r : Value), f.resultTypes[j]? = some t → (v.resultList f.resultTypes.size)[j]? = some r → Value.okWide P W' .any 0 t r) :
  s.post enc P f apart fresh handsOn again W args v W' := by
 have hlt := hW.lt
 have hold : ∀ p ∈ before, (fun b => decide (b < W.heap.size)) p.block = true := fun p hp => by simpa using hlt p hp
 refine ⟨ds, gs, before, [], pa, pv, hW, hres _ _ _, hargs _ hold, hvars _ hold, World.keptBut_mono (fun p hp => ⟨hp, ?_⟩) hk, fun _ => ?_⟩
 · rw [hps, List.mem_append] at hp
   exact Or.inr hp
 obtain ⟨_, _, _, _, _, hz, hn⟩ := hW
 refine ⟨hok, _, _, ([] ++ pa) ++ pv, ⟨[] ++ pa, pv, trodAll_append (hargs _ (fun _ _ => rfl)) (hres _ _ _), hvars _ (fun _ _ => rfl), rfl, ?_, ?_⟩, ?_⟩
 · intro b off hp
   have hp' : MemPlace.cell b off ∈ before := by rw [hps]; simpa using hp
   rw [hfz _ (hlt _ hp')]
   exact hz b off hp'
 · intro ha
   have := hn ha
   rw [hps] at this
   simpa using this
 intro p hp _
 rw [hps]
 simpa using hp
theorem grow_kept {w w' : World} (h : Grow w w') (may : MemPlace → Prop) : w.keptBut w' may := by
 refine ⟨h.os, h.output, fun i hi => ?_⟩
 rw [h.block i hi]
 cases w.heap[i]? with
 | none => trivial
 | some o => cases o <;> simp
theorem grow_fz {w w' : World} (h : Grow w w') (a : Addr) (ha : a.block < w.heap.size) : w'.frozen? a = w.frozen? a := by
 unfold World.frozen?
 rw [h.block _ ha]
theorem gTab : Tryd.prog.globalNamed "math/bits.deBruijn64tab" = some 1 := by kernel_rfl
theorem gTabType : (Tryd.prog.globals[1]?).map (·.type) = some 198 := by kernel_rfl
theorem cells198 : Tryd.prog.cellsOf 198 = 64 := by kernel_rfl
theorem cells5 : Tryd.prog.cellsOf 5 = 1 := by kernel_rfl
theorem laid_glT {W : World} (h : laidMetH Tryd.prog [("math/bits.deBruijn32tab", Rows.laid_math_bits_deBruijn32tab), ("math/bits.deBruijn64tab", Rows.laid_math_bits_deBruijn64tab)] W) : glT.G W := by
 have h1 := laidMetH.filter (fun x => x.1 == "math/bits.deBruijn64tab") h
 have e : ([("math/bits.deBruijn32tab", Rows.laid_math_bits_deBruijn32tab), ("math/bits.deBruijn64tab", Rows.laid_math_bits_deBruijn64tab)] : List (String × DataW Unit)).filter (fun x => x.1 == "math/bits.deBruijn64tab") = [("math/bits.deBruijn64tab", Rows.laid_math_bits_deBruijn64tab)] := by rfl
 rw [e, Go.MakeChecks.laidMetH_plain _ _ _ (by kernel_rfl)] at h1
 have ht : Lib.TabIs Tryd.prog W "math/bits.deBruijn64tab" .u8 (Lib.deBruijn64tab.map fun n : Nat => (n : Int)) := Lib.tabIs_of_head (rest := []) gTab gTabType Tryd.underlying198 Tryd.underlying5 cells5 cells198 h1
 have hc : TabAt 1 Lib.deBruijn64tab W := fun j hj => by
  have := ht.cell gTab j (by simpa using hj)
  rw [this]
  simp [List.getD, hj]
 refine ⟨?_, hc⟩
 have := hc 0 (by decide)
 rcases Nat.lt_or_ge 1 W.heap.size with hlt | hge
 · exact hlt
 exfalso
 have hn : W.heap[1]? = none := Array.getElem?_eq_none hge
 simp [World.cell?, hn] at this
def tab32 : List Int := [0, 1, 28, 2, 29, 14, 24, 3, 30, 22, 20, 15, 25, 17, 4, 8, 31, 27, 13, 23, 21, 19, 16, 7, 26, 12, 18, 6, 11, 5, 10, 9]
def tab64 : List Int := [0, 1, 56, 2, 57, 49, 28, 3, 61, 58, 42, 50, 38, 29, 17, 4, 62, 47, 59, 36, 45, 43, 51, 22, 53, 39, 33, 30, 24, 18, 12, 5, 63, 55, 48, 27, 60, 41, 37, 16, 46, 35, 44, 21, 52, 32, 23, 11, 54, 26, 40, 15, 34, 20, 31, 10, 25, 14, 19, 9, 13, 8, 7, 6]
def setTab (zs : List Int) : Obj → Obj
 | .cells _ t frozen => .cells (zs.map fun n => Value.int .u8 n).toArray t frozen
 | o => o
def tabWorld (w : World) : World := { w with heap := (w.heap.modify 0 (setTab tab32)).modify 1 (setTab tab64) }
end Go.Ab.MkF
namespace Go.Ab.MkF
open Go Go.Ab Go.Proofs
set_option maxRecDepth 100000
theorem kids : Kids Tryd.prog (· < Tryd.prog.types.size) := kids_rows (by kernel_rfl) (by kernel_rfl)
theorem full : ∀ t e, t < Tryd.prog.types.size → Tryd.prog.underlying t = some (.slice e) → 0 < Tryd.prog.cellsOf e := slices_full_of Tryd.prog (by kernel_rfl)
theorem zc3 : Tryd.prog.cellsOf 3 = 1 := by kernel_rfl
theorem zc5 : Tryd.prog.cellsOf 5 = 1 := by kernel_rfl
theorem zc9 : Tryd.prog.cellsOf 9 = 1 := by kernel_rfl
theorem zc30 : Tryd.prog.cellsOf 30 = 1 := by kernel_rfl
theorem zc86 : Tryd.prog.cellsOf 86 = 3 := by kernel_rfl
abbrev B63 : Nat := 9223372036854775807
section
variable {H : Type} {enc : TypeId × Value → H} {w : World}
theorem oInt : OpA S enc Tryd.prog w 3 fun cl => ∃ n : Int, cl = Cod.enc (S := S) U.int n ∧ IntKind.i64.min ≤ n ∧ n ≤ IntKind.i64.max :=
 (OpA.int Tryd.underlying3).mono fun _ ⟨n, h, h1⟩ => ⟨n, h, h1⟩
theorem oByte : OpA S enc Tryd.prog w 5 fun cl => ∃ n : Int, cl = Cod.enc (S := S) U.u8 n ∧ IntKind.u8.min ≤ n ∧ n ≤ IntKind.u8.max :=
 (OpA.int Tryd.underlying5).mono fun _ ⟨n, h, h1⟩ => ⟨n, h, h1⟩
theorem oInts : OpA S enc Tryd.prog w 30 fun cl => ∃ ys : List Int, cl = [vL ys] ∧ ys.length ≤ B63 ∧ ∀ y ∈ ys, IntKind.i64.min ≤ y ∧ y ≤ IntKind.i64.max :=
 OpA.slice (S := S) (u := U.int) Tryd.underlying30 zc3 oInt
theorem arr_b {l : List Int} (h : ∀ y ∈ l, 0 ≤ y ∧ y ≤ 255) (q : Nat) : 0 ≤ l.getD q 0 ∧ l.getD q 0 ≤ 255 := by
 rcases Nat.lt_or_ge q l.length with hq | hq
 · rw [getD_at hq]; exact h _ (List.getElem_mem hq)
 rw [List.getD_eq_getElem?_getD, List.getElem?_eq_none hq]; decide
theorem oTri : OpA S enc Tryd.prog w 86 fun cl => ∃ l : List Int, cl = [.arr (S := S) U.u8 3 l] ∧ l.length = 3 ∧ ∀ q, 0 ≤ l.getD q 0 ∧ l.getD q 0 ≤ 255 := by
 refine (OpA.array (S := S) (u := U.u8) Tryd.underlying86 (by rw [zc86, zc5]) oByte).mono ?_
 rintro cl ⟨ys, rfl, hl, h⟩
 exact ⟨ys, rfl, hl, arr_b h⟩
end
abbrev noHand : Value := .agg #[.slice none 0 0]
end Go.Ab.MkF
namespace Go.Ab.MkF
open Go Go.Ab Go.Proofs
set_option maxRecDepth 100000
theorem zc22 : Tryd.prog.cellsOf 22 = 1 := by kernel_rfl
theorem zc23 : Tryd.prog.cellsOf 23 = 1 := by kernel_rfl
theorem zc25 : Tryd.prog.cellsOf 25 = 3 := by kernel_rfl
theorem zc88 : Tryd.prog.cellsOf 88 = 2 := by kernel_rfl
theorem zc94 : Tryd.prog.cellsOf 94 = 3 := by kernel_rfl
section
variable {H : Type} {enc : TypeId × Value → H} {w : World}
theorem oLf : OpA S enc Tryd.prog w 94 fun cl => ∃ y : Lf, cl = Cod.enc (S := S) U.leaf y ∧ y.1.size ≤ B63 := by
 refine (OpA.struct (Rs := [_, _, _]) Tryd.underlying94 ⟨rfl, _, _, rfl, OpA.str Tryd.underlying9, by rw [zc9], _, _, rfl, oInt, by rw [zc9, zc3], _, _, rfl, oInt, by rw [zc9, zc3, zc94], rfl⟩).mono ?_
 rintro cl ⟨a, b, rfl, ⟨s, rfl, hs⟩, c, d, rfl, ⟨n, rfl, _⟩, e, f, rfl, ⟨m, rfl, _⟩, rfl⟩
 exact ⟨(s, n, m), rfl, hs⟩
theorem oLfs : OpA S enc Tryd.prog w 22 fun cl => ∃ ys : List Lf, cl = [lfsV ys] ∧ ys.length ≤ B63 ∧ ∀ y ∈ ys, y.1.size ≤ B63 :=
 OpA.slice (S := S) (u := U.leaf) Tryd.underlying22 zc94 oLf
theorem oCp : OpA S enc Tryd.prog w 88 fun cl => ∃ y : Cp, cl = Cod.enc (S := S) U.copy y ∧ y.1.size ≤ B63 ∧ y.2.length ≤ B63 := by
 refine (OpA.struct (Rs := [_, _]) Tryd.underlying88 ⟨rfl, _, _, rfl, OpA.str Tryd.underlying9, by rw [zc9], _, _, rfl, oInts, by rw [zc9, zc30, zc88], rfl⟩).mono ?_
 rintro cl ⟨a, b, rfl, ⟨s, rfl, hs⟩, c, d, rfl, ⟨ys, rfl, h, _⟩, rfl⟩
 exact ⟨(s, ys), rfl, hs, h⟩
theorem oCps : OpA S enc Tryd.prog w 23 fun cl => ∃ ys : List Cp, cl = [cpsV ys] ∧ ys.length ≤ B63 ∧ ∀ y ∈ ys, y.1.size ≤ B63 ∧ y.2.length ≤ B63 :=
 OpA.slice (S := S) (u := U.copy) Tryd.underlying23 zc88 oCp
theorem oSet : OpA S enc Tryd.prog w 25 fun cl => ∃ p ls cs, cl = setC p ls cs ∧ LensS ls cs ∧ LensN ls cs := by
 refine (OpA.struct (Rs := [_, _, _]) Tryd.underlying25 ⟨rfl, _, _, rfl, oInt, by rw [zc3], _, _, rfl, oLfs, by rw [zc3, zc22], _, _, rfl, oCps, by rw [zc3, zc22, zc23, zc25], rfl⟩).mono ?_
 rintro cl ⟨a, b, rfl, ⟨p, rfl, _⟩, c, d, rfl, ⟨ls, rfl, h1, h2⟩, e, f, rfl, ⟨cs, rfl, h3, h4⟩, rfl⟩
 exact ⟨p, ls, cs, rfl, ⟨⟨h1, h3⟩, fun x hx => (h4 x hx).2⟩, h2, fun x hx => (h4 x hx).1⟩
end
abbrev noSet : Value := .agg #[.int .i64 0, .slice none 0 0, .slice none 0 0]
end Go.Ab.MkF
