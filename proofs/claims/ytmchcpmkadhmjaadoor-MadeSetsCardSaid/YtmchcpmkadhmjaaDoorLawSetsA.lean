/-
  THE MADE FAMILY, PART RA: the reference: a hand.
  THE MADE FAMILY, PART RB: the reference: a leaf of a set.
  THE MADE FAMILY, PART RC: the reference: Check.
  THE MADE FAMILY, PART RG: the reference: what a set has.
  THE MADE FAMILY, PART LG: MadeSets.
  THE MADE FAMILY: WHAT ALL ITS CARDS NEED: from a contract of the engine to the given statements' form.
  THE MADE FAMILY: the arguments of its laws, read as ours.
  THE MADE FAMILY: a set, read as ours.
-/
import Derived.Test.YtmchcpmkadhmjaaDoorCards
import Derived.Test.YtmchcpmkadhmjaaDoorTie
import Derived.WalkKit
import Derived.ProofKit
import Derived.OpenShut
import Derived.Deep.DeepHandedRow
import Derived.Lib.LaidTab
import Derived.LaidSub
import Derived.MakeChecks
import Derived.ChangeBears
import Derived.Test.YtmchcpmkadhmjaaDoorMadeB
import Derived.Test.YtmchcpmkadhmjaaDoorMadeA
import Derived.Test.YtmchcpmkadhmjaaDoorEngD
namespace Go.Ab.MkF
open Go Go.Ab Go.Ab.Pln Go.Proofs
set_option maxHeartbeats 1000000
set_option maxRecDepth 100000
noncomputable abbrev parH (gl : Gl) : Par S Unit := { par gl with hd := true }
theorem parH_ok (gl : Gl) (En : Env Unit) : ParOk PR gl (parH gl) En := { par_ok gl En with }
theorem join {p q : Prop} (h : Hold p → q) (hp : p) : q := h ⟨hp⟩
def inB (n a b : Int) : Bool := decide (a ≤ n) && decide (n ≤ b)
theorem inB_out (n a b : Int) : inB n a b = !outB a b n := by
 unfold inB outB
 rw [Bool.eq_iff_iff]
 simp [Int.not_lt]
def rgE (a b lo hi : Int) : Int := if (decide (min a b < lo) || decide (max a b > hi)) = true then 7 else if b < a then 2 else 0
theorem c72 (gl : Gl) (n a b : Int) : PCalls PR gl 72 [vI n, vI a, vI b] fun r => r = vB (inB n a b) := by
 refine fnW_sound (par_ok gl) Tryd.func72 ?_
 conv => whnf
 refine bcase_iff.2 ⟨fun g1_3 => ?_, fun g1_3 => ?_⟩
 · have g : decide (a ≤ n) = true := g1_3
   conv => whnf
   unfold inB
   rw [g]
   rfl
 have g : decide (a ≤ n) = false := g1_3
 conv => whnf
 unfold inB
 rw [g]
 rfl
theorem op72 : Opens PR 72 := ⟨_, Tryd.func72, rfl, rfl⟩
end Go.Ab.MkF
namespace Go.Ab.MkF
open Go Go.Ab Go.Ab.Pln Go.Proofs
set_option maxHeartbeats 1000000
set_option maxRecDepth 100000
def lfG (ls : List Lf) (i : Nat) (x : Lf) : Int :=
 if [x.2.1].any (outB (-1) ((ls.length : Int) - 1)) then 4
 else if x.2.1 == (i : Int) || (decide (x.2.1 ≥ 0) && (ls.getD x.2.1.toNat lf0).2.1 != (i : Int)) then 2 else if [x.2.2].any (outB 0 1000) then 7 else 0
theorem any_in (a b n : Int) : [n].any (outB a b) = !inB n a b := by rw [inB_out]; simp
theorem c74 (gl : Gl) (p : Int) (ls : List Lf) (cs : List Cp) (hl : ls.length ≤ 9223372036854775807) (i : Nat) (hi : i < ls.length) : PCalls PR gl 74 [.agg [vI p, lfsV ls, cpsV cs], vI i] fun r => r = vI (lfG ls i ls[i]) := by
 have hw1 : IntKind.i64.wrap ((ls.length : Int) - 1) = (ls.length : Int) - 1 := wrap_int (by omega) (by omega)
 refine fnW_sound (par_ok gl) Tryd.func74 ?_
 conv => whnf
 refine ⟨_, getI_nat hi, ?_⟩
 conv => whnf
 rw [hw1]
 conv => whnf
 refine byC (c72 gl _ _ _) op72 ?_
 conv => whnf
 refine bcase_iff.2 ⟨fun h2 => ?_, fun h2 => ?_⟩
 · have h2 : [ls[i].2.1].any (outB (-1) ((ls.length : Int) - 1)) = true := by rw [any_in]; exact h2
   conv => whnf
   unfold lfG
   rw [if_pos h2]
 have h2 : [ls[i].2.1].any (outB (-1) ((ls.length : Int) - 1)) = false := by rw [any_in]; exact h2
 have hr := any_one.1 h2
 conv => whnf
 refine bcase_iff.2 ⟨fun g4_3 => ?_, fun g4_3 => ?_⟩
 · have g3 : ls[i].2.1 ≠ -1 := by have g : (ls[i].2.1 != -1) = true := g4_3; simpa using g
   obtain ⟨y, hy⟩ : ∃ y : Nat, ls[i].2.1 = (y : Int) := ⟨ls[i].2.1.toNat, by omega⟩
   have hyl : y < ls.length := by omega
   conv => whnf
   refine bcase_iff.2 ⟨fun g4_8 => ?_, fun g4_8 => ?_⟩
   · have hb : (ls[i].2.1 == (i : Int) || (decide (ls[i].2.1 ≥ 0) && (ls.getD ls[i].2.1.toNat lf0).2.1 != (i : Int))) = true := by rw [show (ls[i].2.1 == (i : Int)) = true from g4_8]; rfl
     conv => whnf
     unfold lfG
     rw [h2, if_neg (by simp), if_pos hb]
   have g8 : (ls[i].2.1 == (i : Int)) = false := g4_8
   conv => whnf
   refine ⟨ls[y], by rw [hy]; exact getI_nat hyl, ?_⟩
   conv => whnf
   refine bcase_iff.2 ⟨fun h4 => ?_, fun h4 => ?_⟩
   · have hb : (ls[i].2.1 == (i : Int) || (decide (ls[i].2.1 ≥ 0) && (ls.getD ls[i].2.1.toNat lf0).2.1 != (i : Int))) = true := by rw [g8, decide_eq_true (by omega), hy, Int.toNat_natCast, getD_at hyl]; exact h4
     conv => whnf
     unfold lfG
     rw [h2, if_neg (by simp), if_pos hb]
   have hb : (ls[i].2.1 == (i : Int) || (decide (ls[i].2.1 ≥ 0) && (ls.getD ls[i].2.1.toNat lf0).2.1 != (i : Int))) = false := by rw [g8, decide_eq_true (by omega), hy, Int.toNat_natCast, getD_at hyl]; exact h4
   conv => whnf
   refine byC (c72 gl _ _ _) op72 ?_
   conv => whnf
   refine bcase_iff.2 ⟨fun h6 => ?_, fun h6 => ?_⟩
   · have h6 : [ls[i].2.2].any (outB 0 1000) = true := by rw [any_in]; exact h6
     conv => whnf
     unfold lfG
     rw [h2, if_neg (by simp), hb, if_neg (by simp), if_pos h6]
   have h6 : [ls[i].2.2].any (outB 0 1000) = false := by rw [any_in]; exact h6
   conv => whnf
   unfold lfG
   rw [h2, if_neg (by simp), hb, if_neg (by simp), h6, if_neg (by simp)]
 have g3 : ls[i].2.1 = -1 := by have g : (ls[i].2.1 != -1) = false := g4_3; simpa using g
 have hb : (ls[i].2.1 == (i : Int) || (decide (ls[i].2.1 ≥ 0) && (ls.getD ls[i].2.1.toNat lf0).2.1 != (i : Int))) = false := by rw [g3]; simp
 conv => whnf
 refine byC (c72 gl _ _ _) op72 ?_
 conv => whnf
 refine bcase_iff.2 ⟨fun h6 => ?_, fun h6 => ?_⟩
 · have h6 : [ls[i].2.2].any (outB 0 1000) = true := by rw [any_in]; exact h6
   conv => whnf
   unfold lfG
   rw [h2, if_neg (by simp), hb, if_neg (by simp), if_pos h6]
 have h6 : [ls[i].2.2].any (outB 0 1000) = false := by rw [any_in]; exact h6
 conv => whnf
 unfold lfG
 rw [h2, if_neg (by simp), hb, if_neg (by simp), h6, if_neg (by simp)]
theorem op74 : Opens PR 74 := ⟨_, Tryd.func74, rfl, rfl⟩
end Go.Ab.MkF
namespace Go.Ab.MkF
open Go Go.Ab Go.Ab.Pln Go.Proofs
set_option maxHeartbeats 1000000
set_option maxRecDepth 100000
def LensN (ls : List Lf) (cs : List Cp) : Prop := (∀ x ∈ ls, x.1.size ≤ 9223372036854775807) ∧ ∀ x ∈ cs, x.1.size ≤ 9223372036854775807
abbrev nmL (ls : List Lf) (i : Nat) : List ByteArray := (ls.take i).map fun x => x.1
abbrev nmC (cs : List Cp) (i : Nat) : List ByteArray := (cs.take i).map fun x => x.1
theorem lfF_eq {ls : List Lf} {i : Nat} (h : i < ls.length) : lfF ls i = if freE ls[i].1 (nmL ls i) = 0 then lfG ls i ls[i] else freE ls[i].1 (nmL ls i) := by
 unfold lfF lfE lfG freE
 rw [getD_at h, List.any_map]
 show (if (!nameB ls[i].1) = true then 6 else if ((ls.take i).any fun y => strEq y.1 ls[i].1) = true then 5 else _) = if (if (!nameB ls[i].1) = true then (6 : Int) else if ((ls.take i).any fun y => strEq y.1 ls[i].1) = true then 5 else 0) = 0 then _ else if (!nameB ls[i].1) = true then (6 : Int) else if ((ls.take i).any fun y => strEq y.1 ls[i].1) = true then 5 else 0
 cases nameB ls[i].1 <;> cases (ls.take i).any fun y => strEq y.1 ls[i].1 <;> simp
def cpK (e : Int) (xs : List Int) (k : Nat) : Int := if e ≠ 0 then e else if (xs.take k).any (outB 0 2) then 7 else 0
def cpG (n : Nat) (w : ByteArray) (l : List ByteArray) (xs : List Int) : Int := if freE w l = 0 then (if (xs.length : Int) ≠ n then 3 else 0) else freE w l
theorem cp_aux (nb dup bad : Bool) (p q : Prop) [Decidable p] [Decidable q] (hpq : p ↔ q) :
  (if (!nb) = true then (6 : Int) else if dup = true then 5 else if p then 3 else if bad = true then 7 else 0) =
   if (if (if (!nb) = true then (6 : Int) else if dup = true then 5 else 0) = 0 then (if q then (3 : Int) else 0) else if (!nb) = true then (6 : Int) else if dup = true then 5 else 0) ≠ 0
   then (if (if (!nb) = true then (6 : Int) else if dup = true then 5 else 0) = 0 then (if q then (3 : Int) else 0) else if (!nb) = true then (6 : Int) else if dup = true then 5 else 0) else if bad = true then 7 else 0 := by
 by_cases hq : q
 · have hp := hpq.2 hq
   cases nb <;> cases dup <;> simp [hp, hq]
 have hp : ¬ p := fun h => hq (hpq.1 h)
 cases nb <;> cases dup <;> simp [hp, hq]
theorem cpF_eq {n : Nat} {cs : List Cp} {i : Nat} (h : i < cs.length) : cpF n cs i = cpK (cpG n cs[i].1 (nmC cs i) cs[i].2) cs[i].2 cs[i].2.length := by
 unfold cpF cpE cpK cpG freE
 rw [getD_at h, List.any_map, List.take_length]
 exact cp_aux _ _ _ _ _ (by omega)
theorem cpK_succ {e : Int} {xs : List Int} {k : Nat} (h : k < xs.length) (h0 : cpK e xs k = 0) : cpK e xs (k + 1) = if inB xs[k] 0 2 = true then 0 else 7 := by
 unfold cpK at h0 ⊢
 by_cases he : e = 0
 · have hne : ¬ e ≠ 0 := fun h => h he
   rw [if_neg hne] at h0 ⊢
   have hp : (xs.take k).any (outB 0 2) = false := by
    cases hq : (xs.take k).any (outB 0 2) with
    | true => rw [hq] at h0; simp at h0
    | false => rfl
   rw [take_succ' h, List.any_append, hp, inB_out]
   simp
   cases outB 0 2 xs[k] <;> rfl
 rw [if_pos he] at h0; exact absurd h0 he
theorem cpK_last {e : Int} {xs : List Int} {k : Nat} (_h : k ≤ xs.length) (h0 : cpK e xs k ≠ 0) : cpK e xs k = cpK e xs xs.length := by
 unfold cpK at h0 ⊢
 by_cases he : e = 0
 · have hne : ¬ e ≠ 0 := fun h => h he
   rw [if_neg hne] at h0
   rw [if_neg hne, if_neg hne]
   cases hq : (xs.take k).any (outB 0 2) with
   | false => rw [hq] at h0; simp at h0
   | true =>
    have : (xs.take xs.length).any (outB 0 2) = true := by
     rw [List.take_length]
     obtain ⟨x, hx, hb⟩ := List.any_eq_true.1 hq
     exact List.any_eq_true.2 ⟨x, List.mem_of_mem_take hx, hb⟩
    rw [this]
 rw [if_pos he, if_pos he]
theorem c17 (gl : Gl) (p : Int) (ls : List Lf) (cs : List Cp) (hL : LensS ls cs) (hN : LensN ls cs) : PCalls PR gl 17 [.agg [vI p, lfsV ls, cpsV cs]] fun r => r = .tup [vI (chk p ls cs).1, vI (chk p ls cs).2.1, vI (chk p ls cs).2.2] := by
 refine fnW_sound (par_ok gl) Tryd.func17 ?_
 conv => whnf
 refine byC (c72 gl _ _ _) op72 ?_
 conv => whnf
 refine bcase_iff.2 ⟨fun h1 => ?_, fun h1 => ?_⟩
 · have g1 : [p].any (outB 0 1000000) = true := by rw [any_in]; exact h1
   conv => whnf
   unfold chk
   rw [if_pos g1]
 have g1 : [p].any (outB 0 1000000) = false := by rw [any_in]; exact h1
 conv => whnf
 refine byC (c72 gl _ _ _) op72 ?_
 conv => whnf
 refine bcase_iff.2 ⟨fun h3 => ?_, fun h3 => ?_⟩
 · have g3 : [(ls.length : Int)].any (outB 1 6) = true := by rw [any_in]; exact h3
   conv => whnf
   unfold chk
   rw [g1, if_neg (by simp)]
   unfold chk1
   rw [if_pos g3]
 have g3 : [(ls.length : Int)].any (outB 1 6) = false := by rw [any_in]; exact h3
 have hn6 := (any_one.1 g3).2
 conv => whnf
 refine ⟨⟨98, [], [5]⟩, ?_⟩
 refine LoopW_ind _ (fun i : Nat => (({ tmps := [.undef, .own 1 [], .undef, .undef, .undef, .sl (S := S) U.str (nmL ls i) (some 5), vI i, .undef, .undef, .undef, .undef, .undef, .undef, .undef, .undef, .undef, .undef, .undef, .undef, .undef, .undef, .undef, .undef, .undef, .undef, .undef, .undef, .undef, .undef, .undef, .undef, .undef, .undef, .undef, .undef, .undef, .undef, .undef, .undef, .undef, .undef, .undef, .undef, .undef, .undef, .undef, .undef, .undef, .undef, .undef, .undef, .undef, .undef, .undef, .undef, .undef, .undef, .undef, .undef, .undef, .undef, .undef, .undef, .undef, .undef, .undef, .undef, .undef, .undef, .undef, .undef, .undef, .undef, .undef, .undef, .undef, .undef, .undef, .undef, .undef, .undef, .undef, .undef, .undef, .undef, .undef, .undef, .undef, .undef, .undef, .undef, .undef, .undef, .undef, .undef, .undef, .undef, .undef, .undef, .undef, .undef, .undef, .undef, .undef, .undef, .undef, .undef, .undef, .undef, .undef, .undef, .undef, .undef], seg := [(1, .cells (setC p ls cs)), (5, .row U.str false)], up := [] } : St S))) (fun i : Nat => (i ≤ ls.length ∧ ∀ j, j < i → lfF ls j = 0)) (fun i : Nat => (ls.length - i)) () ?_ 0 ⟨Nat.zero_le _, fun j h => absurd h (Nat.not_lt_zero j)⟩
 intro i hinv Z1 hZ1
 obtain ⟨hi, hd⟩ := hinv
 conv => whnf
 refine bcase_iff.2 ⟨fun h7 => ?_, fun h7 => ?_⟩
 · have hlt : i < ls.length := by have := of_decide_eq_true h7; omega
   have hw : IntKind.i64.wrap ((i : Int) + 1) = ((i + 1 : Nat) : Int) := wrap_nat (by omega)
   conv => whnf
   have hlf := lfF_eq hlt
   have hnl : (nmL ls i).length = i := by simp; omega
   refine ⟨_, getI_nat hlt, ?_⟩
   conv => whnf
   refine byC (c73 gl _ (hN.1 _ (List.getElem_mem hlt)) _ (by omega)) op73 ?_
   conv => whnf
   refine bcase_iff.2 ⟨fun h10 => ?_, fun h10 => ?_⟩
   · have h10 : freE ls[i].1 (nmL ls i) = 0 := eq_of_beq (show (freE ls[i].1 (nmL ls i) == 0) = true from h10)
     rw [if_pos h10] at hlf
     conv => whnf
     refine byC (c74 gl p ls cs (by omega) i hlt) op74 ?_
     conv => whnf
     refine bcase_iff.2 ⟨fun h12 => ?_, fun h12 => ?_⟩
     · have h12 : lfF ls i ≠ 0 := by rw [hlf]; simpa using h12
       conv => whnf
       unfold chk
       rw [g1, if_neg (by simp)]
       unfold chk1
       rw [g3, if_neg (by simp), firstR_at hlt hd h12, if_pos h12, hlf]
     have h12 : lfF ls i = 0 := by rw [hlf]; simpa using h12
     conv => whnf
     refine ⟨_, getI_nat hlt, ?_⟩
     conv => whnf
     refine ⟨_, rfl, ?_⟩
     conv => whnf
     refine ⟨lim (by simp; omega), ?_⟩
     conv => whnf
     refine ⟨⟨98, [52, 53], []⟩, ?_⟩
     conv => whnf
     rw [hw]
     have hz := hZ1 (i + 1) ⟨hlt, up_succ hd h12⟩ (by omega)
     rw [show nmL ls (i + 1) = nmL ls i ++ [ls[i].1] from by unfold nmL; rw [take_succ' hlt, List.map_append]; rfl] at hz
     exact hz
   have h10 : freE ls[i].1 (nmL ls i) ≠ 0 := fun e => by have h10 : (freE ls[i].1 (nmL ls i) == 0) = false := h10; rw [e] at h10; cases h10
   rw [if_neg h10] at hlf
   conv => whnf
   refine bcase_iff.2 ⟨fun h12 => ?_, fun h12 => ?_⟩
   · have h12 : lfF ls i ≠ 0 := by rw [hlf]; simpa using h12
     conv => whnf
     unfold chk
     rw [g1, if_neg (by simp)]
     unfold chk1
     rw [g3, if_neg (by simp), firstR_at hlt hd h12, if_pos h12, hlf]
   have h12 : lfF ls i = 0 := by rw [hlf]; simpa using h12
   conv => whnf
   refine ⟨_, getI_nat hlt, ?_⟩
   conv => whnf
   refine ⟨_, rfl, ?_⟩
   conv => whnf
   refine ⟨lim (by simp; omega), ?_⟩
   conv => whnf
   refine ⟨⟨98, [52, 53], []⟩, ?_⟩
   conv => whnf
   rw [hw]
   have hz := hZ1 (i + 1) ⟨hlt, up_succ hd h12⟩ (by omega)
   rw [show nmL ls (i + 1) = nmL ls i ++ [ls[i].1] from by unfold nmL; rw [take_succ' hlt, List.map_append]; rfl] at hz
   exact hz
 have hge : i = ls.length := by have := of_decide_eq_false h7; omega
 conv => whnf
 rw [hge] at hd
 conv => whnf
 refine byC (c72 gl _ _ _) op72 ?_
 conv => whnf
 refine bcase_iff.2 ⟨fun h15 => ?_, fun h15 => ?_⟩
 · have g15 : [(cs.length : Int)].any (outB 1 4) = true := by rw [any_in]; exact h15
   conv => whnf
   unfold chk
   rw [g1, if_neg (by simp)]
   unfold chk1
   rw [g3, if_neg (by simp), firstR_no hd, if_neg (by simp)]
   unfold chk2
   rw [if_pos g15]
 have g15 : [(cs.length : Int)].any (outB 1 4) = false := by rw [any_in]; exact h15
 have hm4 := (any_one.1 g15).2
 conv => whnf
 refine ⟨⟨290, [5], [900005]⟩, ?_⟩
 refine LoopW_ind _ (fun i : Nat => (({ tmps := [.undef, .own 1 [], .undef, .undef, .undef, .sl (S := S) U.str (nmC cs i) (some 900005), .undef, .undef, vI i, .undef, .undef, .undef, .undef, .undef, .undef, .undef, .undef, .undef, .undef, .undef, .undef, .undef, .undef, .undef, .undef, .undef, .undef, .undef, .undef, .undef, .undef, .undef, .undef, .undef, .undef, .undef, .undef, .undef, .undef, .undef, .undef, .undef, .undef, .undef, .undef, .undef, .undef, .undef, .undef, .undef, .undef, .undef, .undef, .undef, .undef, .undef, .undef, .undef, .undef, .undef, .undef, .undef, .undef, .undef, .undef, .undef, .undef, .undef, .undef, .undef, .undef, .undef, .undef, .undef, .undef, .undef, .undef, .undef, .undef, .undef, .undef, .undef, .undef, .undef, .undef, .undef, .undef, .undef, .undef, .undef, .undef, .undef, .undef, .undef, .undef, .undef, .undef, .undef, .undef, .undef, .undef, .undef, .undef, .undef, .undef, .undef, .undef, .undef, .undef, .undef, .undef, .undef, .undef], seg := [(1, .cells (setC p ls cs)), (900005, .row U.str false)], up := [] } : St S))) (fun i : Nat => (i ≤ cs.length ∧ ∀ j, j < i → cpF ls.length cs j = 0)) (fun i : Nat => (cs.length - i)) () ?_ 0 ⟨Nat.zero_le _, fun j h => absurd h (Nat.not_lt_zero j)⟩
 intro i hinv Z2 hZ2
 obtain ⟨hi, hdc⟩ := hinv
 conv => whnf
 refine bcase_iff.2 ⟨fun h19 => ?_, fun h19 => ?_⟩
 · have hlc : i < cs.length := by have := of_decide_eq_true h19; omega
   have hwc : IntKind.i64.wrap ((i : Int) + 1) = ((i + 1 : Nat) : Int) := wrap_nat (by omega)
   conv => whnf
   have hcf := cpF_eq (n := ls.length) hlc
   have hnl : (nmC cs i).length = i := by simp; omega
   have hxl := hL.2 _ (List.getElem_mem hlc)
   refine ⟨_, getI_nat hlc, ?_⟩
   conv => whnf
   refine byC (c73 gl _ (hN.2 _ (List.getElem_mem hlc)) _ (by omega)) op73 ?_
   conv => whnf
   refine bcase_iff.2 ⟨fun g23_2 => ?_, fun g23_2 => ?_⟩
   · have g23 : freE cs[i].1 (nmC cs i) = 0 := eq_of_beq (show (freE cs[i].1 (nmC cs i) == 0) = true from g23_2)
     conv => whnf
     refine bcase_iff.2 ⟨fun h23 => ?_, fun h23 => ?_⟩
     · have h23 : (cs[i].2.length : Int) ≠ (ls.length : Int) := by have h : ((cs[i].2.length : Int) != (ls.length : Int)) = true := h23; simpa using h
       have hG : (3 : Int) = cpK (cpG ls.length cs[i].1 (nmC cs i) cs[i].2) cs[i].2 0 := by unfold cpK cpG; rw [if_pos g23, if_pos h23, if_pos (by decide)]
       conv => whnf
       rw [hG]
       refine ⟨⟨3874, [2009], [2009]⟩, ?_⟩
       refine LoopW_ind _ (fun k : Nat => (({ tmps := [.undef, .own 1 [], .undef, .undef, .undef, .sl (S := S) U.str (nmC cs i) (some 900005), .undef, .undef, vI i, .own 9 [], vI (cpK (cpG ls.length cs[i].1 (nmC cs i) cs[i].2) cs[i].2 k), vI k, .undef, .undef, .undef, .undef, .undef, .undef, .undef, .undef, .undef, .undef, .undef, .undef, .undef, .undef, .undef, .undef, .undef, .undef, .undef, .undef, .undef, .undef, .undef, .undef, .undef, .undef, .undef, .undef, .undef, .undef, .undef, .undef, .undef, .undef, .undef, .undef, .undef, .undef, .undef, .undef, .undef, .undef, .undef, .undef, .undef, .undef, .undef, .undef, .undef, .undef, .undef, .undef, .undef, .undef, .undef, .undef, .undef, .undef, .undef, .undef, .undef, .undef, .undef, .undef, .undef, .undef, .undef, .undef, .undef, .undef, .undef, .undef, .undef, .undef, .undef, .undef, .undef, .undef, .undef, .undef, .undef, .undef, .undef, .undef, .undef, .undef, .undef, .undef, .undef, .undef, .undef, .undef, .undef, .undef, .undef, .undef, .undef, .undef, .undef, .undef, .undef], seg := [(1, .cells (setC p ls cs)), (9, .cells (cpC cs[i])), (900005, .row U.str false)], up := [] } : St S))) (fun k : Nat => (k ≤ cs[i].2.length)) (fun k : Nat => (cs[i].2.length - k)) () ?_ 0 (Nat.zero_le _)
       intro k hk Z3 hZ3
       conv => whnf
       refine bcase_iff.2 ⟨fun g26_5 => ?_, fun g26_5 => ?_⟩
       · have hkl : k < cs[i].2.length := by have := of_decide_eq_true g26_5; omega
         have hwk : IntKind.i64.wrap ((k : Int) + 1) = ((k + 1 : Nat) : Int) := wrap_nat (by omega)
         conv => whnf
         refine bcase_iff.2 ⟨fun h26 => ?_, fun h26 => ?_⟩
         · have h26 : cpK (cpG ls.length cs[i].1 (nmC cs i) cs[i].2) cs[i].2 k = 0 := eq_of_beq (show (cpK (cpG ls.length cs[i].1 (nmC cs i) cs[i].2) cs[i].2 k == 0) = true from h26)
           have hks := cpK_succ hkl h26
           conv => whnf
           refine ⟨_, getI_nat hkl, ?_⟩
           conv => whnf
           refine byC (c72 gl _ _ _) op72 ?_
           conv => whnf
           refine bcase_iff.2 ⟨fun h28 => ?_, fun h28 => ?_⟩
           · have h28 : inB cs[i].2[k] 0 2 = false := by have h : (!inB cs[i].2[k] 0 2) = true := h28; simpa using h
             rw [h28, if_neg (by simp)] at hks
             conv => whnf
             refine ⟨⟨3874, [], []⟩, ?_⟩
             conv => whnf
             rw [hwk]
             have hz := hZ3 (k + 1) hkl (by omega)
             rw [hks] at hz
             exact hz
           have h28 : inB cs[i].2[k] 0 2 = true := by have h : (!inB cs[i].2[k] 0 2) = false := h28; simpa using h
           rw [h28, if_pos rfl] at hks
           conv => whnf
           refine ⟨⟨3874, [], []⟩, ?_⟩
           conv => whnf
           rw [hwk, h26]
           have hz := hZ3 (k + 1) hkl (by omega)
           rw [hks] at hz
           exact hz
         have h26 : cpK (cpG ls.length cs[i].1 (nmC cs i) cs[i].2) cs[i].2 k ≠ 0 := fun e => by have h : (cpK (cpG ls.length cs[i].1 (nmC cs i) cs[i].2) cs[i].2 k == 0) = false := h26; rw [e] at h; cases h
         rw [cpK_last hk h26, ← hcf]
         conv => whnf
         refine bcase_iff.2 ⟨fun h30 => ?_, fun h30 => ?_⟩
         · have h30 : cpF ls.length cs i ≠ 0 := by simpa using h30
           conv => whnf
           first | rw [← hG] | skip
           unfold chk
           rw [g1, if_neg (by simp)]
           unfold chk1
           rw [g3, if_neg (by simp), firstR_no hd, if_neg (by simp)]
           unfold chk2
           rw [g15, if_neg (by simp), firstR_at hlc hdc h30, if_pos h30]
           all_goals rfl
         have h30 : cpF ls.length cs i = 0 := by simpa using h30
         conv => whnf
         refine ⟨_, rfl, ?_⟩
         conv => whnf
         refine ⟨lim (by simp; omega), ?_⟩
         conv => whnf
         refine ⟨⟨290, [9, 111, 112, 1009, 2009, 3009, 4009], []⟩, ?_⟩
         conv => whnf
         rw [hwc]
         have hz := hZ2 (i + 1) ⟨hlc, up_succ hdc h30⟩ (by omega)
         rw [show nmC cs (i + 1) = nmC cs i ++ [cs[i].1] from by unfold nmC; rw [take_succ' hlc, List.map_append]; rfl] at hz
         exact hz
       have hkl : k = cs[i].2.length := by have := of_decide_eq_false g26_5; omega
       rw [hkl, ← hcf]
       conv => whnf
       refine bcase_iff.2 ⟨fun h30 => ?_, fun h30 => ?_⟩
       · have h30 : cpF ls.length cs i ≠ 0 := by simpa using h30
         conv => whnf
         first | rw [← hG] | skip
         unfold chk
         rw [g1, if_neg (by simp)]
         unfold chk1
         rw [g3, if_neg (by simp), firstR_no hd, if_neg (by simp)]
         unfold chk2
         rw [g15, if_neg (by simp), firstR_at hlc hdc h30, if_pos h30]
         all_goals rfl
       have h30 : cpF ls.length cs i = 0 := by simpa using h30
       conv => whnf
       refine ⟨_, rfl, ?_⟩
       conv => whnf
       refine ⟨lim (by simp; omega), ?_⟩
       conv => whnf
       refine ⟨⟨290, [9, 111, 112, 1009, 2009, 3009, 4009], []⟩, ?_⟩
       conv => whnf
       rw [hwc]
       have hz := hZ2 (i + 1) ⟨hlc, up_succ hdc h30⟩ (by omega)
       rw [show nmC cs (i + 1) = nmC cs i ++ [cs[i].1] from by unfold nmC; rw [take_succ' hlc, List.map_append]; rfl] at hz
       exact hz
     have h23 : ¬ (cs[i].2.length : Int) ≠ (ls.length : Int) := by have h : ((cs[i].2.length : Int) != (ls.length : Int)) = false := h23; simpa using h
     have hG : (freE cs[i].1 (nmC cs i) : Int) = cpK (cpG ls.length cs[i].1 (nmC cs i) cs[i].2) cs[i].2 0 := by unfold cpK cpG; rw [if_pos g23, if_neg h23, if_neg (by decide), g23]; rfl
     conv => whnf
     rw [hG]
     refine ⟨⟨3874, [2009], [2009]⟩, ?_⟩
     refine LoopW_ind _ (fun k : Nat => (({ tmps := [.undef, .own 1 [], .undef, .undef, .undef, .sl (S := S) U.str (nmC cs i) (some 900005), .undef, .undef, vI i, .own 9 [], vI (cpK (cpG ls.length cs[i].1 (nmC cs i) cs[i].2) cs[i].2 k), vI k, .undef, .undef, .undef, .undef, .undef, .undef, .undef, .undef, .undef, .undef, .undef, .undef, .undef, .undef, .undef, .undef, .undef, .undef, .undef, .undef, .undef, .undef, .undef, .undef, .undef, .undef, .undef, .undef, .undef, .undef, .undef, .undef, .undef, .undef, .undef, .undef, .undef, .undef, .undef, .undef, .undef, .undef, .undef, .undef, .undef, .undef, .undef, .undef, .undef, .undef, .undef, .undef, .undef, .undef, .undef, .undef, .undef, .undef, .undef, .undef, .undef, .undef, .undef, .undef, .undef, .undef, .undef, .undef, .undef, .undef, .undef, .undef, .undef, .undef, .undef, .undef, .undef, .undef, .undef, .undef, .undef, .undef, .undef, .undef, .undef, .undef, .undef, .undef, .undef, .undef, .undef, .undef, .undef, .undef, .undef, .undef, .undef, .undef, .undef, .undef, .undef], seg := [(1, .cells (setC p ls cs)), (9, .cells (cpC cs[i])), (900005, .row U.str false)], up := [] } : St S))) (fun k : Nat => (k ≤ cs[i].2.length)) (fun k : Nat => (cs[i].2.length - k)) () ?_ 0 (Nat.zero_le _)
     intro k hk Z3 hZ3
     conv => whnf
     refine bcase_iff.2 ⟨fun g26_5 => ?_, fun g26_5 => ?_⟩
     · have hkl : k < cs[i].2.length := by have := of_decide_eq_true g26_5; omega
       have hwk : IntKind.i64.wrap ((k : Int) + 1) = ((k + 1 : Nat) : Int) := wrap_nat (by omega)
       conv => whnf
       refine bcase_iff.2 ⟨fun h26 => ?_, fun h26 => ?_⟩
       · have h26 : cpK (cpG ls.length cs[i].1 (nmC cs i) cs[i].2) cs[i].2 k = 0 := eq_of_beq (show (cpK (cpG ls.length cs[i].1 (nmC cs i) cs[i].2) cs[i].2 k == 0) = true from h26)
         have hks := cpK_succ hkl h26
         conv => whnf
         refine ⟨_, getI_nat hkl, ?_⟩
         conv => whnf
         refine byC (c72 gl _ _ _) op72 ?_
         conv => whnf
         refine bcase_iff.2 ⟨fun h28 => ?_, fun h28 => ?_⟩
         · have h28 : inB cs[i].2[k] 0 2 = false := by have h : (!inB cs[i].2[k] 0 2) = true := h28; simpa using h
           rw [h28, if_neg (by simp)] at hks
           conv => whnf
           refine ⟨⟨3874, [], []⟩, ?_⟩
           conv => whnf
           rw [hwk]
           have hz := hZ3 (k + 1) hkl (by omega)
           rw [hks] at hz
           exact hz
         have h28 : inB cs[i].2[k] 0 2 = true := by have h : (!inB cs[i].2[k] 0 2) = false := h28; simpa using h
         rw [h28, if_pos rfl] at hks
         conv => whnf
         refine ⟨⟨3874, [], []⟩, ?_⟩
         conv => whnf
         rw [hwk, h26]
         have hz := hZ3 (k + 1) hkl (by omega)
         rw [hks] at hz
         exact hz
       have h26 : cpK (cpG ls.length cs[i].1 (nmC cs i) cs[i].2) cs[i].2 k ≠ 0 := fun e => by have h : (cpK (cpG ls.length cs[i].1 (nmC cs i) cs[i].2) cs[i].2 k == 0) = false := h26; rw [e] at h; cases h
       rw [cpK_last hk h26, ← hcf]
       conv => whnf
       refine bcase_iff.2 ⟨fun h30 => ?_, fun h30 => ?_⟩
       · have h30 : cpF ls.length cs i ≠ 0 := by simpa using h30
         conv => whnf
         first | rw [← hG] | skip
         unfold chk
         rw [g1, if_neg (by simp)]
         unfold chk1
         rw [g3, if_neg (by simp), firstR_no hd, if_neg (by simp)]
         unfold chk2
         rw [g15, if_neg (by simp), firstR_at hlc hdc h30, if_pos h30]
         all_goals rfl
       have h30 : cpF ls.length cs i = 0 := by simpa using h30
       conv => whnf
       refine ⟨_, rfl, ?_⟩
       conv => whnf
       refine ⟨lim (by simp; omega), ?_⟩
       conv => whnf
       refine ⟨⟨290, [9, 111, 112, 1009, 2009, 3009, 4009], []⟩, ?_⟩
       conv => whnf
       rw [hwc]
       have hz := hZ2 (i + 1) ⟨hlc, up_succ hdc h30⟩ (by omega)
       rw [show nmC cs (i + 1) = nmC cs i ++ [cs[i].1] from by unfold nmC; rw [take_succ' hlc, List.map_append]; rfl] at hz
       exact hz
     have hkl : k = cs[i].2.length := by have := of_decide_eq_false g26_5; omega
     rw [hkl, ← hcf]
     conv => whnf
     refine bcase_iff.2 ⟨fun h30 => ?_, fun h30 => ?_⟩
     · have h30 : cpF ls.length cs i ≠ 0 := by simpa using h30
       conv => whnf
       first | rw [← hG] | skip
       unfold chk
       rw [g1, if_neg (by simp)]
       unfold chk1
       rw [g3, if_neg (by simp), firstR_no hd, if_neg (by simp)]
       unfold chk2
       rw [g15, if_neg (by simp), firstR_at hlc hdc h30, if_pos h30]
       all_goals rfl
     have h30 : cpF ls.length cs i = 0 := by simpa using h30
     conv => whnf
     refine ⟨_, rfl, ?_⟩
     conv => whnf
     refine ⟨lim (by simp; omega), ?_⟩
     conv => whnf
     refine ⟨⟨290, [9, 111, 112, 1009, 2009, 3009, 4009], []⟩, ?_⟩
     conv => whnf
     rw [hwc]
     have hz := hZ2 (i + 1) ⟨hlc, up_succ hdc h30⟩ (by omega)
     rw [show nmC cs (i + 1) = nmC cs i ++ [cs[i].1] from by unfold nmC; rw [take_succ' hlc, List.map_append]; rfl] at hz
     exact hz
   have g23 : freE cs[i].1 (nmC cs i) ≠ 0 := fun e => by have g : (freE cs[i].1 (nmC cs i) == 0) = false := g23_2; rw [e] at g; cases g
   have hG : freE cs[i].1 (nmC cs i) = cpK (cpG ls.length cs[i].1 (nmC cs i) cs[i].2) cs[i].2 0 := by unfold cpK cpG; rw [if_neg g23, if_pos g23]
   conv => whnf
   rw [hG]
   refine ⟨⟨3874, [2009], [2009]⟩, ?_⟩
   refine LoopW_ind _ (fun k : Nat => (({ tmps := [.undef, .own 1 [], .undef, .undef, .undef, .sl (S := S) U.str (nmC cs i) (some 900005), .undef, .undef, vI i, .own 9 [], vI (cpK (cpG ls.length cs[i].1 (nmC cs i) cs[i].2) cs[i].2 k), vI k, .undef, .undef, .undef, .undef, .undef, .undef, .undef, .undef, .undef, .undef, .undef, .undef, .undef, .undef, .undef, .undef, .undef, .undef, .undef, .undef, .undef, .undef, .undef, .undef, .undef, .undef, .undef, .undef, .undef, .undef, .undef, .undef, .undef, .undef, .undef, .undef, .undef, .undef, .undef, .undef, .undef, .undef, .undef, .undef, .undef, .undef, .undef, .undef, .undef, .undef, .undef, .undef, .undef, .undef, .undef, .undef, .undef, .undef, .undef, .undef, .undef, .undef, .undef, .undef, .undef, .undef, .undef, .undef, .undef, .undef, .undef, .undef, .undef, .undef, .undef, .undef, .undef, .undef, .undef, .undef, .undef, .undef, .undef, .undef, .undef, .undef, .undef, .undef, .undef, .undef, .undef, .undef, .undef, .undef, .undef, .undef, .undef, .undef, .undef, .undef, .undef], seg := [(1, .cells (setC p ls cs)), (9, .cells (cpC cs[i])), (900005, .row U.str false)], up := [] } : St S))) (fun k : Nat => (k ≤ cs[i].2.length)) (fun k : Nat => (cs[i].2.length - k)) () ?_ 0 (Nat.zero_le _)
   intro k hk Z3 hZ3
   conv => whnf
   refine bcase_iff.2 ⟨fun g26_5 => ?_, fun g26_5 => ?_⟩
   · have hkl : k < cs[i].2.length := by have := of_decide_eq_true g26_5; omega
     have hwk : IntKind.i64.wrap ((k : Int) + 1) = ((k + 1 : Nat) : Int) := wrap_nat (by omega)
     conv => whnf
     refine bcase_iff.2 ⟨fun h26 => ?_, fun h26 => ?_⟩
     · have h26 : cpK (cpG ls.length cs[i].1 (nmC cs i) cs[i].2) cs[i].2 k = 0 := eq_of_beq (show (cpK (cpG ls.length cs[i].1 (nmC cs i) cs[i].2) cs[i].2 k == 0) = true from h26)
       have hks := cpK_succ hkl h26
       conv => whnf
       refine ⟨_, getI_nat hkl, ?_⟩
       conv => whnf
       refine byC (c72 gl _ _ _) op72 ?_
       conv => whnf
       refine bcase_iff.2 ⟨fun h28 => ?_, fun h28 => ?_⟩
       · have h28 : inB cs[i].2[k] 0 2 = false := by have h : (!inB cs[i].2[k] 0 2) = true := h28; simpa using h
         rw [h28, if_neg (by simp)] at hks
         conv => whnf
         refine ⟨⟨3874, [], []⟩, ?_⟩
         conv => whnf
         rw [hwk]
         have hz := hZ3 (k + 1) hkl (by omega)
         rw [hks] at hz
         exact hz
       have h28 : inB cs[i].2[k] 0 2 = true := by have h : (!inB cs[i].2[k] 0 2) = false := h28; simpa using h
       rw [h28, if_pos rfl] at hks
       conv => whnf
       refine ⟨⟨3874, [], []⟩, ?_⟩
       conv => whnf
       rw [hwk, h26]
       have hz := hZ3 (k + 1) hkl (by omega)
       rw [hks] at hz
       exact hz
     have h26 : cpK (cpG ls.length cs[i].1 (nmC cs i) cs[i].2) cs[i].2 k ≠ 0 := fun e => by have h : (cpK (cpG ls.length cs[i].1 (nmC cs i) cs[i].2) cs[i].2 k == 0) = false := h26; rw [e] at h; cases h
     rw [cpK_last hk h26, ← hcf]
     conv => whnf
     refine bcase_iff.2 ⟨fun h30 => ?_, fun h30 => ?_⟩
     · have h30 : cpF ls.length cs i ≠ 0 := by simpa using h30
       conv => whnf
       first | rw [← hG] | skip
       unfold chk
       rw [g1, if_neg (by simp)]
       unfold chk1
       rw [g3, if_neg (by simp), firstR_no hd, if_neg (by simp)]
       unfold chk2
       rw [g15, if_neg (by simp), firstR_at hlc hdc h30, if_pos h30]
       all_goals rfl
     have h30 : cpF ls.length cs i = 0 := by simpa using h30
     conv => whnf
     refine ⟨_, rfl, ?_⟩
     conv => whnf
     refine ⟨lim (by simp; omega), ?_⟩
     conv => whnf
     refine ⟨⟨290, [9, 111, 112, 1009, 2009, 3009, 4009], []⟩, ?_⟩
     conv => whnf
     rw [hwc]
     have hz := hZ2 (i + 1) ⟨hlc, up_succ hdc h30⟩ (by omega)
     rw [show nmC cs (i + 1) = nmC cs i ++ [cs[i].1] from by unfold nmC; rw [take_succ' hlc, List.map_append]; rfl] at hz
     exact hz
   have hkl : k = cs[i].2.length := by have := of_decide_eq_false g26_5; omega
   rw [hkl, ← hcf]
   conv => whnf
   refine bcase_iff.2 ⟨fun h30 => ?_, fun h30 => ?_⟩
   · have h30 : cpF ls.length cs i ≠ 0 := by simpa using h30
     conv => whnf
     first | rw [← hG] | skip
     unfold chk
     rw [g1, if_neg (by simp)]
     unfold chk1
     rw [g3, if_neg (by simp), firstR_no hd, if_neg (by simp)]
     unfold chk2
     rw [g15, if_neg (by simp), firstR_at hlc hdc h30, if_pos h30]
     all_goals rfl
   have h30 : cpF ls.length cs i = 0 := by simpa using h30
   conv => whnf
   refine ⟨_, rfl, ?_⟩
   conv => whnf
   refine ⟨lim (by simp; omega), ?_⟩
   conv => whnf
   refine ⟨⟨290, [9, 111, 112, 1009, 2009, 3009, 4009], []⟩, ?_⟩
   conv => whnf
   rw [hwc]
   have hz := hZ2 (i + 1) ⟨hlc, up_succ hdc h30⟩ (by omega)
   rw [show nmC cs (i + 1) = nmC cs i ++ [cs[i].1] from by unfold nmC; rw [take_succ' hlc, List.map_append]; rfl] at hz
   exact hz
 have hgc : i = cs.length := by have := of_decide_eq_false h19; omega
 conv => whnf
 rw [hgc] at hdc
 unfold chk
 rw [g1, if_neg (by simp)]
 unfold chk1
 rw [g3, if_neg (by simp), firstR_no hd, if_neg (by simp)]
 unfold chk2
 rw [g15, if_neg (by simp), firstR_no hdc, if_neg (by simp)]
theorem op17 : Opens PR 17 := ⟨_, Tryd.func17, rfl, rfl⟩
end Go.Ab.MkF
namespace Go.Ab.MkF
open Go Go.Ab Go.Ab.Pln Go.Proofs
set_option maxHeartbeats 1000000
set_option maxRecDepth 100000
theorem maxF (a b : Int) : (if a > b then a else b) = max b a := by rw [Int.max_def]; split <;> split <;> omega
theorem beqT {a b : Int} (h : (a == b) = true) : a = b := eq_of_beq h
theorem beqF {a b : Int} (h : (a == b) = false) : a ≠ b := fun e => by rw [e] at h; simp at h
theorem bneT {a b : Int} (h : (a != b) = true) : a ≠ b := by simpa using h
theorem bneF {a b : Int} (h : (a != b) = false) : a = b := by simpa using h
def kdU (l : List Int) (k : Nat) : Int := if k ≤ 2 then 1 else kindI l
theorem cntI_small (l : List Int) (k : Int) : cntI l k ≤ l.length := List.length_filter_le _ _
def hvN (cs : List Cp) (l : Nat) (k : Int) (i : Nat) : Nat := ((List.range i).filter fun c => hasI cs c l == k).length
theorem hvN_succ (cs : List Cp) (l : Nat) (k : Int) (i : Nat) : hvN cs l k (i + 1) = hvN cs l k i + if (hasI cs i l == k) = true then 1 else 0 := by
 unfold hvN
 rw [List.range_succ, List.filter_append, List.length_append, List.filter_cons, List.filter_nil]
 cases hasI cs i l == k <;> rfl
theorem hvN_le (cs : List Cp) (l : Nat) (k : Int) (i : Nat) : hvN cs l k i ≤ i := by
 have := List.length_filter_le (fun c => hasI cs c l == k) (List.range i)
 rwa [List.length_range] at this
abbrev hvA (cs : List Cp) (l : Nat) (k : Int) : Nat := hvN cs l k cs.length
theorem hvA_ones {cs : List Cp} (h4 : cs.length ≤ 4) (l : Nat) (k : Int) : onesN (havN cs l k) = hvA cs l k := by
 have h1 := bitsL_bitsO (c := cs.length) (by omega) (fun i => hasI cs i l == k)
 have hlt := havN_lt h4 l k
 have h2 : (bitsL (havN cs l k)).length = onesN (havN cs l k) := by rw [bitsL_below (c := 8) (by omega) (by omega)]; rfl
 rw [← h2]
 unfold havN
 rw [h1]
 rfl
def scaU (cs : List Cp) (k : Int) : Nat → Nat
 | 0 => 0
 | l + 1 => if l = 0 then 0 else if hvA cs l k < hvA cs (scaU cs k l) k then l else scaU cs k l
theorem scaU_lt (cs : List Cp) (k : Int) : ∀ l, scaU cs k (l + 1) ≤ l
 | 0 => by simp [scaU]
 | l + 1 => by
  have ih := scaU_lt cs k l
  show (if l + 1 = 0 then 0 else if hvA cs (l + 1) k < hvA cs (scaU cs k (l + 1)) k then l + 1 else scaU cs k (l + 1)) ≤ l + 1
  rw [if_neg (by omega)]
  split <;> omega
theorem most_sca {cs : List Cp} (h4 : cs.length ≤ 4) (k : Int) : ∀ l, mostU cs k (l + 1) = (hvA cs (scaU cs k (l + 1)) k, scaU cs k (l + 1))
 | 0 => by
  show (if onesN (havN cs 0 k) < cs.length + 1 then (onesN (havN cs 0 k), 0) else (cs.length + 1, 0)) = (hvA cs 0 k, 0)
  have := hvN_le cs 0 k cs.length
  rw [hvA_ones h4, if_pos (by unfold hvA; omega)]
 | l + 1 => by
  have ih := most_sca h4 k l
  show (if onesN (havN cs (l + 1) k) < (mostU cs k (l + 1)).1 then (onesN (havN cs (l + 1) k), l + 1) else mostU cs k (l + 1)) = _
  have hs : scaU cs k (l + 1 + 1) = if hvA cs (l + 1) k < hvA cs (scaU cs k (l + 1)) k then l + 1 else scaU cs k (l + 1) := by
   show (if l + 1 = 0 then 0 else _) = _
   rw [if_neg (by omega)]
  rw [hvA_ones h4, ih, hs]
  show (if hvA cs (l + 1) k < hvA cs (scaU cs k (l + 1)) k then _ else _) = _
  split <;> rfl
theorem enE_zero {p : Int} {ls : List Lf} {cs : List Cp} {c l : Int} (h : enE p ls cs c l = 0) : ∃ a b : Nat, c = a ∧ l = b ∧ a < cs.length ∧ b < ls.length ∧ Valid p ls cs := by
 rcases enter_cases p ls cs c l with ⟨a, b, h1, h2, h3, h4, h5, _⟩ | ⟨h1, _⟩ | ⟨h1, _⟩
 · exact ⟨a, b, h3, h4, h1, h2, h5⟩
 · exact absurd h h1
 exact absurd h h1
theorem c94 (gl : Gl) (l : List Int) (hl : l.length ≤ 9223372036854775807) (n : Int) : PCalls PR gl 94 [vL l, vI n] fun r => r = vI ((cntI l n : Nat) : Int) := by
 refine fnW_sound (parH_ok gl) Tryd.func94 ?_
 conv => whnf
 refine ⟨?_⟩
 conv => whnf
 refine ⟨?_⟩
 conv => whnf
 refine ⟨?_⟩
 conv => whnf
 refine ⟨⟨99, [], []⟩, ?_⟩
 refine LoopW_ind _ (fun i : Nat => (({ tmps := [vL l, vI n, .undef, .undef, .undef, vI ((cntI (l.take i) n : Nat) : Int), vI i, .undef, .undef, .undef, .undef, .undef, .undef, .undef, .undef, .undef, .undef, .undef, .undef, .undef, .undef, .undef], seg := [], up := [] } : St S))) (fun i : Nat => (i ≤ l.length)) (fun i : Nat => (l.length - i)) () ?_ 0 (Nat.zero_le _)
 intro i hi Z1 hZ1
 conv => whnf
 refine ⟨?_⟩
 conv => whnf
 refine bcase_iff.2 ⟨fun h3 => ?_, fun h3 => ?_⟩
 · have hlt : i < l.length := by have := of_decide_eq_true h3; omega
   have hw : IntKind.i64.wrap ((i : Int) + 1) = ((i + 1 : Nat) : Int) := wrap_nat (by omega)
   have hcs := cntI_succ hlt n
   have hcl := cntI_small (l.take i) n
   rw [List.length_take] at hcl
   conv => whnf
   refine ⟨?_⟩
   conv => whnf
   refine ⟨_, getI_nat hlt, ?_⟩
   conv => whnf
   refine bcase_iff.2 ⟨fun h5 => ?_, fun h5 => ?_⟩
   · rw [if_pos (beqT h5)] at hcs
     have hw2 : IntKind.i64.wrap (((cntI (l.take i) n : Nat) : Int) + 1) = ((cntI (l.take (i + 1)) n : Nat) : Int) := by rw [hcs]; exact wrap_nat (by omega)
     conv => whnf
     refine ⟨?_⟩
     conv => whnf
     refine ⟨?_⟩
     conv => whnf
     refine ⟨⟨99, [], []⟩, ?_⟩
     conv => whnf
     rw [hw, hw2]
     exact hZ1 (i + 1) hlt (by omega)
   rw [if_neg (beqF h5)] at hcs
   conv => whnf
   refine ⟨?_⟩
   conv => whnf
   refine ⟨⟨99, [], []⟩, ?_⟩
   conv => whnf
   rw [hw, ← hcs]
   exact hZ1 (i + 1) hlt (by omega)
 have hge : i = l.length := by have := of_decide_eq_false h3; omega
 conv => whnf
 refine ⟨?_⟩
 conv => whnf
 rw [hge, List.take_length]
theorem op94 : Opens PR 94 := ⟨_, Tryd.func94, rfl, rfl⟩
theorem c78 (gl : Gl) (x : Cp) (hl : x.2.length ≤ 9223372036854775807) : PCalls PR gl 78 [.agg [.str x.1, vL x.2]] fun r => r = vI (kindI x.2) := by
 refine fnW_sound (parH_ok gl) Tryd.func78 ?_
 conv => whnf
 refine ⟨?_⟩
 conv => whnf
 refine ⟨?_⟩
 conv => whnf
 refine ⟨?_⟩
 conv => whnf
 refine ⟨⟨26, [], []⟩, ?_⟩
 refine LoopW_ind _ (fun k : Nat => (({ tmps := [.undef, .own 1 [], .undef, vI (kdU x.2 k), vI k, .undef, .undef, .undef, .undef, .undef, .undef, .undef, .undef, .undef, .undef, .undef, .undef, .undef, .undef, .undef], seg := [(1, .cells [.str x.1, vL x.2])], up := [] } : St S))) (fun k : Nat => (k = 2 ∨ k = 3)) (fun k : Nat => (3 - k)) () ?_ 2 (.inl rfl)
 intro k hk Z1 hZ1
 conv => whnf
 refine ⟨?_⟩
 conv => whnf
 refine bcase_iff.2 ⟨fun h3 => ?_, fun h3 => ?_⟩
 · have hk2 : k = 2 := by have := of_decide_eq_true h3; omega
   subst hk2
   conv => whnf
   refine ⟨[0, 1, 2, 4, 5, 6, 3, 7, 8], [], [], [], ⟨1048575, [], []⟩, by decide +kernel, ?_⟩
   conv => whnf
   refine byC (c94 gl x.2 hl _) op94 ?_
   conv => whnf
   refine byC (c94 gl x.2 hl 1) op94 ?_
   conv => whnf
   refine bcase_iff.2 ⟨fun h5 => ?_, fun h5 => ?_⟩
   · have h5 : cntI x.2 2 > cntI x.2 1 := Int.ofNat_lt.1 (of_decide_eq_true h5)
     have h5 : kindI x.2 = 2 := by unfold kindI; rw [if_pos h5]
     conv => whnf
     refine ⟨?_⟩
     conv => whnf
     refine ⟨?_⟩
     conv => whnf
     refine ⟨⟨26, [], []⟩, ?_⟩
     conv => whnf
     have hz := hZ1 3 (.inr rfl) (by omega)
     rw [show kdU x.2 3 = kindI x.2 from rfl, h5] at hz
     exact hz
   have h5 : ¬ cntI x.2 2 > cntI x.2 1 := fun e => (of_decide_eq_false h5) (Int.ofNat_lt.2 e)
   have h5 : kindI x.2 = 1 := by unfold kindI; rw [if_neg h5]
   conv => whnf
   refine ⟨?_⟩
   conv => whnf
   refine ⟨⟨26, [], []⟩, ?_⟩
   conv => whnf
   have hz := hZ1 3 (.inr rfl) (by omega)
   rw [show kdU x.2 3 = kindI x.2 from rfl, h5] at hz
   exact hz
 have hk2 : k = 3 := by have := of_decide_eq_false h3; omega
 subst hk2
 conv => whnf
 refine ⟨?_⟩
 conv => whnf
 rfl
theorem op78 : Opens PR 78 := ⟨_, Tryd.func78, rfl, rfl⟩
theorem c84 (gl : Gl) (a b : Int) (ha : 0 ≤ a ∧ a ≤ 1000000000000) (hb : 1 ≤ b ∧ b ≤ 100000) : PCalls PR gl 84 [vI a, vI b] fun r => r = vI ((a + b - 1) / b) := by
 refine fnW_sound (par_ok gl) Tryd.func84 ?_
 conv => whnf
 rw [wrap_int (n := a + b) (by omega) (by omega), wrap_int (n := a + b - 1) (by omega) (by omega)]
 conv => whnf
 refine ⟨by omega, ?_⟩
 conv => whnf
 rw [Int.tdiv_eq_ediv_of_nonneg (by omega), wrap_int]
 · have := Int.ediv_nonneg (a := a + b - 1) (b := b) (by omega) (by omega); omega
 have := Int.ediv_le_self (a := a + b - 1) b (by omega); omega
theorem op84 : Opens PR 84 := ⟨_, Tryd.func84, rfl, rfl⟩
theorem c83 (gl : Gl) (p : Int) (ls : List Lf) (cs : List Cp) (hV : Valid p ls cs) (l : Nat) (hl : l < ls.length) (k : Int) : PCalls PR gl 83 [.agg [vI p, lfsV ls, cpsV cs], vI l, vI k] fun r => r = vI ((hvA cs l k : Nat) : Int) := by
 have hm4 := hV.m4
 refine fnW_sound (parH_ok gl) Tryd.func83 ?_
 conv => whnf
 refine ⟨?_⟩
 conv => whnf
 refine ⟨?_⟩
 conv => whnf
 refine ⟨?_⟩
 conv => whnf
 refine ⟨⟨398, [], []⟩, ?_⟩
 refine LoopW_ind _ (fun i : Nat => (({ tmps := [.undef, vI l, vI k, .own 3 [], .undef, .undef, .undef, vI ((hvN cs l k i : Nat) : Int), vI i, .undef, .undef, .undef, .undef, .undef, .undef, .undef, .undef, .undef, .undef, .undef, .undef, .undef, .undef, .undef, .undef, .undef, .undef, .undef, .undef, .undef], seg := [(3, .cells (setC p ls cs))], up := [] } : St S))) (fun i : Nat => (i ≤ cs.length)) (fun i : Nat => (cs.length - i)) () ?_ 0 (Nat.zero_le _)
 intro i hi Z1 hZ1
 conv => whnf
 refine ⟨?_⟩
 conv => whnf
 refine bcase_iff.2 ⟨fun h3 => ?_, fun h3 => ?_⟩
 · have hlt : i < cs.length := by have := of_decide_eq_true h3; omega
   have hw : IntKind.i64.wrap ((i : Int) + 1) = ((i + 1 : Nat) : Int) := wrap_nat (by omega)
   have hx : (cs.getD i cp0) = cs[i] := getD_at hlt
   have hxl := (hV.cp hlt).2.1
   have hvs := hvN_succ cs l k i
   have hvl := hvN_le cs l k i
   conv => whnf
   refine ⟨?_⟩
   conv => whnf
   refine ⟨_, getI_nat hlt, ?_⟩
   conv => whnf
   refine ⟨hasI cs i l, by rw [getI_nat (xs := cs[i].2) (i := l) (by omega)]; unfold hasI; rw [hx, getD_at (by omega)], ?_⟩
   conv => whnf
   refine bcase_iff.2 ⟨fun h5 => ?_, fun h5 => ?_⟩
   · rw [show (hasI cs i l == k) = true from h5, if_pos rfl] at hvs
     have hw2 : IntKind.i64.wrap (((hvN cs l k i : Nat) : Int) + 1) = ((hvN cs l k (i + 1) : Nat) : Int) := by rw [hvs]; exact wrap_nat (by omega)
     conv => whnf
     refine ⟨?_⟩
     conv => whnf
     refine ⟨?_⟩
     conv => whnf
     refine ⟨⟨398, [], []⟩, ?_⟩
     conv => whnf
     rw [hw, hw2]
     exact hZ1 (i + 1) hlt (by omega)
   rw [show (hasI cs i l == k) = false from h5, if_neg (by simp)] at hvs
   conv => whnf
   refine ⟨?_⟩
   conv => whnf
   refine ⟨⟨398, [], []⟩, ?_⟩
   conv => whnf
   rw [hw, show hvN cs l k i = hvN cs l k (i + 1) from by omega]
   exact hZ1 (i + 1) hlt (by omega)
 have hge : i = cs.length := by have := of_decide_eq_false h3; omega
 conv => whnf
 refine ⟨?_⟩
 conv => whnf
 rw [hge]
theorem op83 : Opens PR 83 := ⟨_, Tryd.func83, rfl, rfl⟩
theorem c82 (gl : Gl) (p : Int) (ls : List Lf) (cs : List Cp) (hV : Valid p ls cs) (k : Int) : PCalls PR gl 82 [.agg [vI p, lfsV ls, cpsV cs], vI k] fun r => r = vI ((scaU cs k ls.length : Nat) : Int) := by
 have hn1 := hV.n1
 have hn6 := hV.n6
 refine fnW_sound (parH_ok gl) Tryd.func82 ?_
 conv => whnf
 refine ⟨?_⟩
 conv => whnf
 refine ⟨?_⟩
 conv => whnf
 refine ⟨?_⟩
 conv => whnf
 refine ⟨⟨102, [], []⟩, ?_⟩
 refine LoopW_ind _ (fun i : Nat => (({ tmps := [.undef, vI k, .own 2 [], .undef, .undef, vI ((scaU cs k i : Nat) : Int), vI i, .undef, .undef, .undef, .undef, .undef, .undef, .undef, .undef, .undef, .undef, .undef, .undef, .undef, .undef, .undef, .undef, .undef, .undef], seg := [(2, .cells (setC p ls cs))], up := [] } : St S))) (fun i : Nat => (1 ≤ i ∧ i ≤ ls.length)) (fun i : Nat => (ls.length - i)) () ?_ 1 ⟨Nat.le_refl _, hn1⟩
 intro i hinv Z1 hZ1
 obtain ⟨hi1, hi⟩ := hinv
 conv => whnf
 refine ⟨?_⟩
 conv => whnf
 refine bcase_iff.2 ⟨fun h3 => ?_, fun h3 => ?_⟩
 · have hlt : i < ls.length := by have := of_decide_eq_true h3; omega
   have hw : IntKind.i64.wrap ((i : Int) + 1) = ((i + 1 : Nat) : Int) := wrap_nat (by omega)
   have hsl : scaU cs k i < ls.length := by have := scaU_lt cs k (i - 1); rw [show i - 1 + 1 = i by omega] at this; omega
   have hss : scaU cs k (i + 1) = if hvA cs i k < hvA cs (scaU cs k i) k then i else scaU cs k i := by show (if i = 0 then 0 else _) = _; rw [if_neg (by omega)]
   conv => whnf
   refine ⟨[0, 1, 2, 4, 5, 6, 3, 7, 8], [], [], [], ⟨33554431, [], []⟩, by decide +kernel, ?_⟩
   conv => whnf
   refine byC (c83 gl p ls cs hV i hlt k) op83 ?_
   conv => whnf
   refine byC (c83 gl p ls cs hV (scaU cs k i) hsl k) op83 ?_
   conv => whnf
   refine bcase_iff.2 ⟨fun h5 => ?_, fun h5 => ?_⟩
   · rw [if_pos (Int.ofNat_lt.1 (of_decide_eq_true h5))] at hss
     conv => whnf
     refine ⟨?_⟩
     conv => whnf
     refine ⟨?_⟩
     conv => whnf
     refine ⟨⟨102, [], []⟩, ?_⟩
     conv => whnf
     rw [hw]
     have hz := hZ1 (i + 1) ⟨by omega, hlt⟩ (by omega)
     rw [hss] at hz
     exact hz
   rw [if_neg (fun e => (of_decide_eq_false h5) (Int.ofNat_lt.2 e))] at hss
   conv => whnf
   refine ⟨?_⟩
   conv => whnf
   refine ⟨⟨102, [], []⟩, ?_⟩
   conv => whnf
   rw [hw]
   have hz := hZ1 (i + 1) ⟨by omega, hlt⟩ (by omega)
   rw [hss] at hz
   exact hz
 have hge : i = ls.length := by have := of_decide_eq_false h3; omega
 conv => whnf
 refine ⟨?_⟩
 conv => whnf
 rw [hge]
theorem op82 : Opens PR 82 := ⟨_, Tryd.func82, rfl, rfl⟩
theorem c77 (gl : Gl) (p : Int) (ls : List Lf) (cs : List Cp) (hL : LensS ls cs) (hN : LensN ls cs) (c l : Int) : PCalls PR gl 77 [.agg [vI p, lfsV ls, cpsV cs], vI c, vI l] fun r => r = vI (enE p ls cs c l) := by
 have hm1 : IntKind.i64.wrap ((cs.length : Int) - 1) = (cs.length : Int) - 1 := wrap_m1 hL.1.2
 have hn1 : IntKind.i64.wrap ((ls.length : Int) - 1) = (ls.length : Int) - 1 := wrap_m1 hL.1.1
 refine fnW_sound (parH_ok gl) Tryd.func77 ?_
 conv => whnf
 refine ⟨?_⟩
 conv => whnf
 refine ⟨?_⟩
 conv => whnf
 rcases Classical.em (chE p ls cs = 0) with hk | hk
 · refine byC (to (c17 gl p ls cs hL hN) (by rw [show (chk p ls cs).2.2 = 0 from hk] : AV.tup (S := S) [vI (chk p ls cs).1, vI (chk p ls cs).2.1, vI (chk p ls cs).2.2] = .tup [vI (chk p ls cs).1, vI (chk p ls cs).2.1, vI 0])) op17 ?_
   conv => whnf
   refine ⟨?_⟩
   conv => whnf
   rw [hm1]
   conv => whnf
   refine byC (c72 gl _ _ _) op72 ?_
   conv => whnf
   refine bcase_iff.2 ⟨fun g2_10 => ?_, fun g2_10 => ?_⟩
   · have q1 : [c].any (outB 0 ((cs.length : Int) - 1)) = true := by rw [any_in]; exact g2_10
     have hE : enE p ls cs c l = 4 := by unfold enE askB; rw [if_pos hk, q1]; rfl
     conv => whnf
     refine ⟨?_⟩
     conv => whnf
     refine ⟨?_⟩
     conv => whnf
     rw [hE]
   have q1 : [c].any (outB 0 ((cs.length : Int) - 1)) = false := by rw [any_in]; exact g2_10
   conv => whnf
   rw [hn1]
   conv => whnf
   refine byC (c72 gl _ _ _) op72 ?_
   conv => whnf
   refine bcase_iff.2 ⟨fun h2 => ?_, fun h2 => ?_⟩
   · have q2 : [l].any (outB 0 ((ls.length : Int) - 1)) = true := by rw [any_in]; exact h2
     have hE : enE p ls cs c l = 4 := by unfold enE askB; rw [if_pos hk, q1, q2]; rfl
     conv => whnf
     refine ⟨?_⟩
     conv => whnf
     refine ⟨?_⟩
     conv => whnf
     rw [hE]
   have q2 : [l].any (outB 0 ((ls.length : Int) - 1)) = false := by rw [any_in]; exact h2
   have hE : enE p ls cs c l = 0 := by unfold enE askB; rw [if_pos hk, q1, q2]; rfl
   conv => whnf
   refine ⟨?_⟩
   conv => whnf
   rw [hE]
 refine byC (c17 gl p ls cs hL hN) op17 ?_
 conv => whnf
 refine ⟨?_⟩
 conv => whnf
 refine bcase_iff.2 ⟨fun g2_2 => ?_, fun g2_2 => ?_⟩
 · exact absurd (beqT g2_2) hk
 have hE : enE p ls cs c l = chE p ls cs := by unfold enE; rw [if_neg hk]
 conv => whnf
 refine ⟨?_⟩
 conv => whnf
 rw [hE]
theorem op77 : Opens PR 77 := ⟨_, Tryd.func77, rfl, rfl⟩
theorem c19 (gl : Gl) (p : Int) (ls : List Lf) (cs : List Cp) (hL : LensS ls cs) (hN : LensN ls cs) (c : Int) : PCalls PR gl 19 [.agg [vI p, lfsV ls, cpsV cs], vI c] fun r => r = .tup [vL (missV p ls cs c).1, vI (missV p ls cs c).2.1, vI (missV p ls cs c).2.2] := by
 refine fnW_sound (parH_ok gl) Tryd.func19 ?_
 conv => whnf
 refine ⟨?_⟩
 conv => whnf
 refine ⟨?_⟩
 conv => whnf
 rcases Classical.em (enE p ls cs c 0 = 0) with hk | hk
 · obtain ⟨a, b, rfl, hb0, haL, hbL, hV⟩ := enE_zero hk
   have hm4 := hV.m4
   have hn6 := hV.n6
   have hn1 := hV.n1
   have hxa : (cs.getD a cp0) = cs[a] := getD_at haL
   have hxla := (hV.cp haL).2.1
   refine byC (to (c77 gl p ls cs hL hN _ _) (by rw [hk])) op77 ?_
   conv => whnf
   refine ⟨?_⟩
   conv => whnf
   refine ⟨?_⟩
   conv => whnf
   refine ⟨?_⟩
   conv => whnf
   refine ⟨⟨774, [4], [4, 8]⟩, ?_⟩
   refine LoopW_ind _ (fun i : Nat => (({ tmps := [.undef, vI a, .own 2 [], .undef, .undef, .undef, .undef, .undef, .sl (S := S) U.int (natsV (missL i cs a)) (some 8), vI i, .undef, .undef, .undef, .undef, .undef, .undef, .undef, .undef, .undef, .undef, .undef, .undef, .undef, .undef, .undef, .undef, .undef, .undef, .undef, .undef, .undef, .undef, .undef, .undef, .undef, .undef, .undef, .undef, .undef, .undef, .undef, .undef, .undef, .undef], seg := [(2, .cells (setC p ls cs)), (8, .row U.int false)], up := [] } : St S))) (fun i : Nat => (i ≤ ls.length)) (fun i : Nat => (ls.length - i)) () ?_ 0 (Nat.zero_le _)
   intro i hi Z1 hZ1
   conv => whnf
   refine ⟨?_⟩
   conv => whnf
   refine bcase_iff.2 ⟨fun h6 => ?_, fun h6 => ?_⟩
   · have hlt : i < ls.length := by have := of_decide_eq_true h6; omega
     have hw : IntKind.i64.wrap ((i : Int) + 1) = ((i + 1 : Nat) : Int) := wrap_nat (by omega)
     conv => whnf
     refine ⟨?_⟩
     conv => whnf
     refine ⟨_, getI_nat haL, ?_⟩
     conv => whnf
     refine ⟨hasI cs a i, by rw [getI_nat (xs := cs[a].2) (i := i) (by omega)]; unfold hasI; rw [hxa, getD_at (by omega)], ?_⟩
     conv => whnf
     refine bcase_iff.2 ⟨fun h8 => ?_, fun h8 => ?_⟩
     · have h8 : missB cs a i = true := h8
       conv => whnf
       refine ⟨?_⟩
       conv => whnf
       refine ⟨_, rfl, ?_⟩
       conv => whnf
       refine ⟨lim (by have := nf_len (missB cs a) i; unfold missL; simp at this ⊢; omega), ?_⟩
       conv => whnf
       refine ⟨?_⟩
       conv => whnf
       refine ⟨⟨774, [35, 36], []⟩, ?_⟩
       conv => whnf
       rw [hw]
       have hz := hZ1 (i + 1) hlt (by omega)
       rw [show natsV (missL (i + 1) cs a) = natsV (missL i cs a) ++ [(i : Int)] from nf_T (p := missB cs a) h8] at hz
       exact hz
     have h8 : missB cs a i = false := h8
     conv => whnf
     refine ⟨?_⟩
     conv => whnf
     refine ⟨⟨774, [35, 36], []⟩, ?_⟩
     conv => whnf
     rw [hw, show natsV (missL i cs a) = natsV (missL (i + 1) cs a) from (nf_F (p := missB cs a) h8).symm]
     exact hZ1 (i + 1) hlt (by omega)
   have hge : i = ls.length := by have := of_decide_eq_false h6; omega
   conv => whnf
   refine ⟨?_⟩
   conv => whnf
   refine ⟨_, getI_nat haL, ?_⟩
   conv => whnf
   refine byC (c78 gl cs[a] (by omega)) op78 ?_
   conv => whnf
   unfold missV
   rw [if_pos hk, hge, Int.toNat_natCast, hxa]
 refine byC (c77 gl p ls cs hL hN c 0) op77 ?_
 conv => whnf
 refine ⟨?_⟩
 conv => whnf
 refine bcase_iff.2 ⟨fun h2 => ?_, fun h2 => ?_⟩
 · conv => whnf
   refine ⟨?_⟩
   conv => whnf
   unfold missV
   rw [if_neg hk]
 exact absurd (bneF h2) hk
theorem op19 : Opens PR 19 := ⟨_, Tryd.func19, rfl, rfl⟩
theorem c22 (gl : Gl) (p : Int) (ls : List Lf) (cs : List Cp) (hL : LensS ls cs) (hN : LensN ls cs) (c l : Int) : PCalls PR gl 22 [.agg [vI p, lfsV ls, cpsV cs], vI c, vI l] fun r => r = .tup [vL (donV p ls cs c l).1, vI (donV p ls cs c l).2] := by
 refine fnW_sound (parH_ok gl) Tryd.func22 ?_
 conv => whnf
 refine ⟨?_⟩
 conv => whnf
 refine ⟨?_⟩
 conv => whnf
 rcases Classical.em (enE p ls cs c l = 0) with hk | hk
 · obtain ⟨a, b, rfl, rfl, haL, hbL, hV⟩ := enE_zero hk
   have hm4 := hV.m4
   have hn6 := hV.n6
   have hn1 := hV.n1
   have hxa : (cs.getD a cp0) = cs[a] := getD_at haL
   have hxla := (hV.cp haL).2.1
   refine byC (to (c77 gl p ls cs hL hN _ _) (by rw [hk])) op77 ?_
   conv => whnf
   refine ⟨?_⟩
   conv => whnf
   refine ⟨?_⟩
   conv => whnf
   refine ⟨?_⟩
   conv => whnf
   refine ⟨⟨1550, [6], [6, 9]⟩, ?_⟩
   refine LoopW_ind _ (fun i : Nat => (({ tmps := [.undef, vI a, vI b, .own 3 [], .undef, .undef, .undef, .undef, .undef, .sl (S := S) U.int (natsV ((List.range i).filter (fun d => decide (d ≠ a) && hasI cs d b == kindI (cs.getD a cp0).2))) (some 9), vI i, .undef, .undef, .undef, .undef, .undef, .undef, .undef, .undef, .undef, .undef, .undef, .undef, .undef, .undef, .undef, .undef, .undef, .undef, .undef, .undef, .undef, .undef, .undef, .undef, .undef, .undef, .undef, .undef, .undef, .undef, .undef, .undef, .undef, .undef, .undef, .undef, .undef, .undef, .undef, .undef], seg := [(3, .cells (setC p ls cs)), (9, .row U.int false)], up := [] } : St S))) (fun i : Nat => (i ≤ cs.length)) (fun i : Nat => (cs.length - i)) () ?_ 0 (Nat.zero_le _)
   intro i hi Z1 hZ1
   conv => whnf
   refine ⟨?_⟩
   conv => whnf
   refine bcase_iff.2 ⟨fun h6 => ?_, fun h6 => ?_⟩
   · have hlt : i < cs.length := by have := of_decide_eq_true h6; omega
     have hw : IntKind.i64.wrap ((i : Int) + 1) = ((i + 1 : Nat) : Int) := wrap_nat (by omega)
     have hxi : (cs.getD i cp0) = cs[i] := getD_at hlt
     have hxli := (hV.cp hlt).2.1
     conv => whnf
     refine ⟨[0, 1, 2, 3, 4, 5, 6, 7, 8, 9, 10, 11, 12, 13, 14, 15, 16, 17, 18, 19, 20], [], [], [], ⟨2251799813685247, [], []⟩, by decide +kernel, ?_⟩
     conv => whnf
     refine bcase_iff.2 ⟨fun g8_3 => ?_, fun g8_3 => ?_⟩
     · have g3 : i ≠ a := fun e => bneT g8_3 (by rw [e])
       conv => whnf
       refine ⟨_, getI_nat hlt, ?_⟩
       conv => whnf
       refine ⟨hasI cs i b, by rw [getI_nat (xs := cs[i].2) (i := b) (by omega)]; unfold hasI; rw [hxi, getD_at (by omega)], ?_⟩
       conv => whnf
       refine ⟨_, getI_nat haL, ?_⟩
       conv => whnf
       refine byC (to (c78 gl cs[a] (by omega)) (by rw [← hxa])) op78 ?_
       conv => whnf
       refine bcase_iff.2 ⟨fun h8 => ?_, fun h8 => ?_⟩
       · have h8 : (fun d => decide (d ≠ a) && hasI cs d b == kindI (cs.getD a cp0).2) i = true := by show (decide (i ≠ a) && _) = true; rw [decide_eq_true g3]; exact h8
         conv => whnf
         refine ⟨?_⟩
         conv => whnf
         refine ⟨_, rfl, ?_⟩
         conv => whnf
         refine ⟨lim (by have := nf_len (fun d => decide (d ≠ a) && hasI cs d b == kindI (cs.getD a cp0).2) i; simp at this ⊢; omega), ?_⟩
         conv => whnf
         refine ⟨?_⟩
         conv => whnf
         refine ⟨⟨1550, [48, 49], []⟩, ?_⟩
         conv => whnf
         rw [hw]
         have hz := hZ1 (i + 1) hlt (by omega)
         rw [show natsV ((List.range (i + 1)).filter (fun d => decide (d ≠ a) && hasI cs d b == kindI (cs.getD a cp0).2)) = natsV ((List.range i).filter (fun d => decide (d ≠ a) && hasI cs d b == kindI (cs.getD a cp0).2)) ++ [(i : Int)] from nf_T (p := (fun d => decide (d ≠ a) && hasI cs d b == kindI (cs.getD a cp0).2)) h8] at hz
         exact hz
       have h8 : (fun d => decide (d ≠ a) && hasI cs d b == kindI (cs.getD a cp0).2) i = false := by show (decide (i ≠ a) && _) = false; rw [decide_eq_true g3]; exact h8
       conv => whnf
       refine ⟨?_⟩
       conv => whnf
       refine ⟨⟨1550, [48, 49], []⟩, ?_⟩
       conv => whnf
       rw [hw, show natsV ((List.range i).filter (fun d => decide (d ≠ a) && hasI cs d b == kindI (cs.getD a cp0).2)) = natsV ((List.range (i + 1)).filter (fun d => decide (d ≠ a) && hasI cs d b == kindI (cs.getD a cp0).2)) from (nf_F (p := (fun d => decide (d ≠ a) && hasI cs d b == kindI (cs.getD a cp0).2)) h8).symm]
       exact hZ1 (i + 1) hlt (by omega)
     have g3 : i = a := by have := bneF g8_3; omega
     have h8 : (fun d => decide (d ≠ a) && hasI cs d b == kindI (cs.getD a cp0).2) i = false := by show (decide (i ≠ a) && _) = false; rw [decide_eq_false (fun h => h g3)]; rfl
     conv => whnf
     refine ⟨?_⟩
     conv => whnf
     refine ⟨⟨1550, [48, 49], []⟩, ?_⟩
     conv => whnf
     rw [hw, show natsV ((List.range i).filter (fun d => decide (d ≠ a) && hasI cs d b == kindI (cs.getD a cp0).2)) = natsV ((List.range (i + 1)).filter (fun d => decide (d ≠ a) && hasI cs d b == kindI (cs.getD a cp0).2)) from (nf_F (p := (fun d => decide (d ≠ a) && hasI cs d b == kindI (cs.getD a cp0).2)) h8).symm]
     exact hZ1 (i + 1) hlt (by omega)
   have hge : i = cs.length := by have := of_decide_eq_false h6; omega
   conv => whnf
   refine ⟨?_⟩
   conv => whnf
   unfold donV donL
   rw [if_pos hk, hge, Int.toNat_natCast, Int.toNat_natCast]
 refine byC (c77 gl p ls cs hL hN c l) op77 ?_
 conv => whnf
 refine ⟨?_⟩
 conv => whnf
 refine bcase_iff.2 ⟨fun h2 => ?_, fun h2 => ?_⟩
 · conv => whnf
   refine ⟨?_⟩
   conv => whnf
   unfold donV
   rw [if_neg hk]
 exact absurd (bneF h2) hk
theorem op22 : Opens PR 22 := ⟨_, Tryd.func22, rfl, rfl⟩
theorem c24 (gl : Gl) (p : Int) (ls : List Lf) (cs : List Cp) (hL : LensS ls cs) (hN : LensN ls cs) (k : Int) : PCalls PR gl 24 [.agg [vI p, lfsV ls, cpsV cs], vI k] fun r => r = .tup [vI (mosV p ls cs k).1, vI (mosV p ls cs k).2.1, vI (mosV p ls cs k).2.2] := by
 refine fnW_sound (parH_ok gl) Tryd.func24 ?_
 conv => whnf
 refine ⟨?_⟩
 conv => whnf
 refine ⟨?_⟩
 conv => whnf
 rcases Classical.em (chE p ls cs = 0) with hk | hk
 · have hV := chk_valid.1 hk
   have hm4 := hV.m4
   have hn1 := hV.n1
   refine byC (to (c17 gl p ls cs hL hN) (by rw [show (chk p ls cs).2.2 = 0 from hk] : AV.tup (S := S) [vI (chk p ls cs).1, vI (chk p ls cs).2.1, vI (chk p ls cs).2.2] = .tup [vI (chk p ls cs).1, vI (chk p ls cs).2.1, vI 0])) op17 ?_
   conv => whnf
   refine ⟨?_⟩
   conv => whnf
   refine byC (c72 gl _ _ _) op72 ?_
   conv => whnf
   refine bcase_iff.2 ⟨fun h2 => ?_, fun h2 => ?_⟩
   · have q1 : [k].any (outB 1 2) = true := by rw [any_in]; exact h2
     have hE : mosV p ls cs k = (0, 0, 7) := by unfold mosV; rw [if_pos hk, if_pos q1]
     conv => whnf
     refine ⟨?_⟩
     conv => whnf
     refine ⟨?_⟩
     conv => whnf
     refine ⟨?_⟩
     conv => whnf
     rw [hE]
   have q1 : [k].any (outB 1 2) = false := by rw [any_in]; exact h2
   have hE : mosV p ls cs k = (((hvA cs (scaU cs k ls.length) k : Nat) : Int), ((scaU cs k ls.length : Nat) : Int), 0) := by
    unfold mosV mostN
    have hm := most_sca hm4 k (ls.length - 1)
    rw [show ls.length - 1 + 1 = ls.length by omega] at hm
    rw [if_pos hk, q1, if_neg (by simp), hm]
   have hsl : scaU cs k ls.length < ls.length := by have := scaU_lt cs k (ls.length - 1); rw [show ls.length - 1 + 1 = ls.length by omega] at this; omega
   conv => whnf
   refine ⟨?_⟩
   conv => whnf
   refine ⟨?_⟩
   conv => whnf
   refine byC (c82 gl p ls cs hV k) op82 ?_
   conv => whnf
   refine ⟨?_⟩
   conv => whnf
   refine byC (c83 gl p ls cs hV _ hsl k) op83 ?_
   conv => whnf
   rw [hE]
 refine byC (c17 gl p ls cs hL hN) op17 ?_
 conv => whnf
 refine ⟨?_⟩
 conv => whnf
 refine bcase_iff.2 ⟨fun g2_2 => ?_, fun g2_2 => ?_⟩
 · exact absurd (beqT g2_2) hk
 have hE : mosV p ls cs k = (0, 0, chE p ls cs) := by unfold mosV; rw [if_neg hk]
 conv => whnf
 refine ⟨?_⟩
 conv => whnf
 refine bcase_iff.2 ⟨fun h4 => ?_, fun h4 => ?_⟩
 · conv => whnf
   refine ⟨?_⟩
   conv => whnf
   rw [hE]
 exact absurd (bneF h4) hk
theorem op24 : Opens PR 24 := ⟨_, Tryd.func24, rfl, rfl⟩
theorem c26 (gl : Gl) (p : Int) (ls : List Lf) (cs : List Cp) (hL : LensS ls cs) (hN : LensN ls cs) (c : Int) : PCalls PR gl 26 [.agg [vI p, lfsV ls, cpsV cs], vI c] fun r => r = .tup [vI (worV p ls cs c).1, vI (worV p ls cs c).2] := by
 refine fnW_sound (parH_ok gl) Tryd.func26 ?_
 conv => whnf
 refine ⟨?_⟩
 conv => whnf
 refine ⟨?_⟩
 conv => whnf
 rcases Classical.em (enE p ls cs c 0 = 0) with hk | hk
 · obtain ⟨a, b, rfl, hb0, haL, hbL, hV⟩ := enE_zero hk
   have hm4 := hV.m4
   have hn6 := hV.n6
   have hn1 := hV.n1
   have hxa : (cs.getD a cp0) = cs[a] := getD_at haL
   have hxla := (hV.cp haL).2.1
   refine byC (to (c77 gl p ls cs hL hN _ _) (by rw [hk])) op77 ?_
   conv => whnf
   refine ⟨?_⟩
   conv => whnf
   refine ⟨?_⟩
   conv => whnf
   refine ⟨?_⟩
   conv => whnf
   refine ⟨⟨390, [], []⟩, ?_⟩
   refine LoopW_ind _ (fun i : Nat => (({ tmps := [.undef, vI a, .own 2 [], .undef, .undef, .undef, .undef, vI (worU p ls cs a i), vI i, .undef, .undef, .undef, .undef, .undef, .undef, .undef, .undef, .undef, .undef, .undef, .undef, .undef, .undef, .undef, .undef, .undef, .undef, .undef, .undef, .undef, .undef, .undef, .undef, .undef, .undef, .undef, .undef, .undef, .undef, .undef, .undef, .undef, .undef, .undef, .undef, .undef, .undef, .undef, .undef, .undef, .undef, .undef, .undef, .undef, .undef, .undef, .undef, .undef, .undef, .undef, .undef, .undef, .undef, .undef, .undef, .undef, .undef, .undef, .undef, .undef], seg := [(2, .cells (setC p ls cs))], up := [] } : St S))) (fun i : Nat => (i ≤ ls.length)) (fun i : Nat => (ls.length - i)) () ?_ 0 (Nat.zero_le _)
   intro i hi Z1 hZ1
   conv => whnf
   refine ⟨?_⟩
   conv => whnf
   refine bcase_iff.2 ⟨fun h6 => ?_, fun h6 => ?_⟩
   · have hlt : i < ls.length := by have := of_decide_eq_true h6; omega
     have hw : IntKind.i64.wrap ((i : Int) + 1) = ((i + 1 : Nat) : Int) := wrap_nat (by omega)
     have hlf : ls.getD i lf0 = ls[i] := getD_at hlt
     have hpr := hV.price
     obtain ⟨_, _, _, _, hs0, hs1, _⟩ := hV.lf hlt
     have hlost : 0 ≤ p * ls[i].2.2 ∧ p * ls[i].2.2 ≤ 1000000000 := ⟨Int.mul_nonneg (by omega) hs0, by have := Int.mul_le_mul hpr.2 hs1 hs0 (by omega); omega⟩
     have hws : worU p ls cs a (i + 1) = worU p ls cs a i - lostI p ls cs a i := rfl
     unfold lostI at hws
     have hwb := hV.wor a (Nat.le_of_lt hlt)
     have hwp : IntKind.i64.wrap (p * ls[i].2.2) = p * ls[i].2.2 := wrap_int (by omega) (by omega)
     conv => whnf
     refine ⟨[0, 1, 2, 3, 4, 5, 6, 7, 8, 9], [], [], [], ⟨1180591620717411303423, [], []⟩, by decide +kernel, ?_⟩
     conv => whnf
     refine ⟨_, getI_nat hlt, ?_⟩
     conv => whnf
     refine ⟨?_⟩
     conv => whnf
     refine ⟨_, getI_nat haL, ?_⟩
     conv => whnf
     refine ⟨hasI cs a i, by rw [getI_nat (xs := cs[a].2) (i := i) (by omega)]; unfold hasI; rw [hxa, getD_at (by omega)], ?_⟩
     conv => whnf
     refine bcase_iff.2 ⟨fun h9 => ?_, fun h9 => ?_⟩
     · have h9 := beqT h9
       rw [if_pos h9, hlf] at hws
       conv => whnf
       refine ⟨?_⟩
       conv => whnf
       rw [hwp]
       conv => whnf
       refine byC (c84 gl _ 1000 (by omega) (by omega)) op84 ?_
       conv => whnf
       refine ⟨?_⟩
       conv => whnf
       refine ⟨⟨390, [], []⟩, ?_⟩
       conv => whnf
       rw [hw]
       have hz := hZ1 (i + 1) hlt (by omega)
       rw [hws, show p * ls[i].2.2 + 999 = p * ls[i].2.2 + 1000 - 1 by omega] at hz
       rw [wrap_int (by omega) (by omega)]
       exact hz
     have h9 := beqF h9
     rw [if_neg h9, hlf] at hws
     conv => whnf
     refine ⟨[0, 1, 2, 3, 4, 5, 6, 7, 8, 9, 10, 11, 12, 13, 14, 15], [], [], [], ⟨1180591620717411303423, [], []⟩, by decide +kernel, ?_⟩
     conv => whnf
     refine ⟨_, getI_nat haL, ?_⟩
     conv => whnf
     refine ⟨hasI cs a i, by rw [getI_nat (xs := cs[a].2) (i := i) (by omega)]; unfold hasI; rw [hxa, getD_at (by omega)], ?_⟩
     conv => whnf
     refine ⟨_, getI_nat haL, ?_⟩
     conv => whnf
     refine byC (to (c78 gl cs[a] (by omega)) (by rw [← hxa])) op78 ?_
     conv => whnf
     refine bcase_iff.2 ⟨fun h11 => ?_, fun h11 => ?_⟩
     · rw [if_neg (bneT h11)] at hws
       conv => whnf
       refine ⟨?_⟩
       conv => whnf
       rw [hwp]
       conv => whnf
       refine byC (c84 gl _ 2000 (by omega) (by omega)) op84 ?_
       conv => whnf
       refine ⟨?_⟩
       conv => whnf
       refine ⟨⟨390, [], []⟩, ?_⟩
       conv => whnf
       rw [hw]
       have hz := hZ1 (i + 1) hlt (by omega)
       rw [hws, show p * ls[i].2.2 + 1999 = p * ls[i].2.2 + 2000 - 1 by omega] at hz
       rw [wrap_int (by omega) (by omega)]
       exact hz
     rw [if_pos (bneF h11)] at hws
     conv => whnf
     refine ⟨?_⟩
     conv => whnf
     refine ⟨⟨390, [], []⟩, ?_⟩
     conv => whnf
     rw [hw, show worU p ls cs a i = worU p ls cs a (i + 1) from by rw [hws]; omega]
     exact hZ1 (i + 1) hlt (by omega)
   have hge : i = ls.length := by have := of_decide_eq_false h6; omega
   conv => whnf
   refine ⟨?_⟩
   conv => whnf
   unfold worV
   rw [if_pos hk, hge, Int.toNat_natCast, maxF]
 refine byC (c77 gl p ls cs hL hN c 0) op77 ?_
 conv => whnf
 refine ⟨?_⟩
 conv => whnf
 refine bcase_iff.2 ⟨fun h2 => ?_, fun h2 => ?_⟩
 · conv => whnf
   refine ⟨?_⟩
   conv => whnf
   unfold worV
   rw [if_neg hk]
 exact absurd (bneF h2) hk
theorem op26 : Opens PR 26 := ⟨_, Tryd.func26, rfl, rfl⟩
end Go.Ab.MkF
namespace Go.Ab.MkF
open Go Go.Ab Go.Ab.Pln Go.Proofs
set_option maxHeartbeats 1000000
set_option maxRecDepth 100000
theorem nePt {n : Int} (h : (n != n) = true) : False := by simp at h
theorem eqPt {n : Int} (h : (n == n) = false) : False := by simp at h
theorem enE_case (p : Int) (ls : List Lf) (cs : List Cp) (c l : Int) : enE p ls cs c l = 0 → ls.length ≤ 6 ∧ cs.length ≤ 4 := fun h => by
 obtain ⟨_, _, _, _, _, _, hV⟩ := enE_zero h
 exact ⟨hV.n6, hV.m4⟩
theorem missV_le (p : Int) (ls : List Lf) (cs : List Cp) (c : Int) : (missV p ls cs c).1.length ≤ 1000 := by
 unfold missV
 by_cases h : enE p ls cs c 0 = 0
 · have := enE_case p ls cs c 0 h
   rw [if_pos h]
   have h2 := nf_len (missB cs c.toNat) ls.length
   show (natsV (missL ls.length cs c.toNat)).length ≤ 1000
   unfold missL
   omega
 rw [if_neg h]; exact Nat.zero_le _
theorem donV_le (p : Int) (ls : List Lf) (cs : List Cp) (c l : Int) : (donV p ls cs c l).1.length ≤ 1000 := by
 unfold donV
 by_cases h : enE p ls cs c l = 0
 · have := enE_case p ls cs c l h
   rw [if_pos h]
   have h2 := nf_len (fun d => decide (d ≠ c.toNat) && hasI cs d l.toNat == kindI (cs.getD c.toNat cp0).2) cs.length
   show (natsV (donL cs c.toNat l.toNat)).length ≤ 1000
   unfold donL
   omega
 rw [if_neg h]; exact Nat.zero_le _
theorem c3 (p : Int) (ls : List Lf) (cs : List Cp) (hL : LensS ls cs) (hN : LensN ls cs) (a b : Int) : PCalls PR glT 3 [.agg [vI p, lfsV ls, cpsV cs], .agg [.arr (S := S) U.int 2 [a, b]]] fun r => r = vB true := by
 refine fnW_sound (parH_ok glT) Tryd.func3 ?_
 conv => whnf
 refine ⟨?_⟩
 conv => whnf
 refine ⟨?_⟩
 conv => whnf
 have h16 := c16 glT p ls cs hL.1 hL.2
 have h17 := c17 glT p ls cs hL hN
 have h18 := c18 p ls cs hL a
 have h19 := c19 glT p ls cs hL hN a
 have h21 := c21 p ls cs hL a b
 have h22 := c22 glT p ls cs hL hN a b
 have h23 := c23 glT p ls cs hL b
 have h24 := c24 glT p ls cs hL hN b
 have h25 := c25 glT p ls cs hL a
 have h26 := c26 glT p ls cs hL hN a
 have b1 := missV_le p ls cs a
 have b2 := donV_le p ls cs a b
 generalize chk p ls cs = C at h16 h17
 conv => whnf
 generalize missV p ls cs a = M at h18 h19 b1
 conv => whnf
 generalize donV p ls cs a b = D at h21 h22 b2
 conv => whnf
 generalize mosV p ls cs b = O at h23 h24
 conv => whnf
 generalize worV p ls cs a = R at h25 h26
 conv => whnf
 obtain ⟨k1, k2, k3⟩ := C
 obtain ⟨m1, m2, m3⟩ := M
 obtain ⟨d1, d2⟩ := D
 obtain ⟨o1, o2, o3⟩ := O
 obtain ⟨r1, r2⟩ := R
 have b1 : m1.length ≤ 1000 := b1
 have b2 : d1.length ≤ 1000 := b2
 refine byC h16 op16 ?_
 conv => whnf
 refine ⟨?_⟩
 conv => whnf
 refine byC h17 op17 ?_
 conv => whnf
 refine ⟨?_⟩
 conv => whnf
 refine bcase_iff.2 ⟨fun g3_3 => ?_, fun g3_3 => ?_⟩
 · exfalso
   exact nePt g3_3
 conv => whnf
 refine bcase_iff.2 ⟨fun g3_8 => ?_, fun g3_8 => ?_⟩
 · exfalso
   exact nePt g3_8
 conv => whnf
 refine bcase_iff.2 ⟨fun h3 => ?_, fun h3 => ?_⟩
 · exfalso
   exact nePt h3
 conv => whnf
 refine ⟨?_⟩
 conv => whnf
 refine ⟨by decide, by decide, ?_⟩
 conv => whnf
 refine ⟨a, rfl, ?_⟩
 conv => whnf
 refine byC h18 op18 ?_
 conv => whnf
 refine ⟨?_⟩
 conv => whnf
 refine ⟨by decide, by decide, ?_⟩
 conv => whnf
 refine ⟨a, rfl, ?_⟩
 conv => whnf
 refine byC h19 op19 ?_
 conv => whnf
 refine ⟨?_⟩
 conv => whnf
 refine byC (to (c20 glT m1 m1 (by omega)) (by rw [decide_eq_true rfl])) op20 ?_
 conv => whnf
 refine bcase_iff.2 ⟨fun g7_9 => ?_, fun g7_9 => ?_⟩
 · exfalso
   exact nePt g7_9
 conv => whnf
 refine bcase_iff.2 ⟨fun h7 => ?_, fun h7 => ?_⟩
 · exfalso
   exact nePt h7
 conv => whnf
 refine ⟨?_⟩
 conv => whnf
 refine ⟨by decide, by decide, ?_⟩
 conv => whnf
 refine ⟨a, rfl, ?_⟩
 conv => whnf
 refine ⟨by decide, by decide, ?_⟩
 conv => whnf
 refine ⟨b, rfl, ?_⟩
 conv => whnf
 refine byC h21 op21 ?_
 conv => whnf
 refine ⟨?_⟩
 conv => whnf
 refine ⟨by decide, by decide, ?_⟩
 conv => whnf
 refine ⟨a, rfl, ?_⟩
 conv => whnf
 refine ⟨by decide, by decide, ?_⟩
 conv => whnf
 refine ⟨b, rfl, ?_⟩
 conv => whnf
 refine byC h22 op22 ?_
 conv => whnf
 refine ⟨?_⟩
 conv => whnf
 refine byC (to (c20 glT d1 d1 (by omega)) (by rw [decide_eq_true rfl])) op20 ?_
 conv => whnf
 refine bcase_iff.2 ⟨fun h11 => ?_, fun h11 => ?_⟩
 · exfalso
   exact nePt h11
 conv => whnf
 refine ⟨?_⟩
 conv => whnf
 refine ⟨by decide, by decide, ?_⟩
 conv => whnf
 refine ⟨b, rfl, ?_⟩
 conv => whnf
 refine byC h23 op23 ?_
 conv => whnf
 refine ⟨?_⟩
 conv => whnf
 refine ⟨by decide, by decide, ?_⟩
 conv => whnf
 refine ⟨b, rfl, ?_⟩
 conv => whnf
 refine byC h24 op24 ?_
 conv => whnf
 refine ⟨?_⟩
 conv => whnf
 refine bcase_iff.2 ⟨fun g15_3 => ?_, fun g15_3 => ?_⟩
 · exfalso
   exact nePt g15_3
 conv => whnf
 refine bcase_iff.2 ⟨fun g15_8 => ?_, fun g15_8 => ?_⟩
 · exfalso
   exact nePt g15_8
 conv => whnf
 refine bcase_iff.2 ⟨fun h15 => ?_, fun h15 => ?_⟩
 · exfalso
   exact nePt h15
 conv => whnf
 refine ⟨?_⟩
 conv => whnf
 refine ⟨by decide, by decide, ?_⟩
 conv => whnf
 refine ⟨a, rfl, ?_⟩
 conv => whnf
 refine byC h25 op25 ?_
 conv => whnf
 refine ⟨?_⟩
 conv => whnf
 refine ⟨by decide, by decide, ?_⟩
 conv => whnf
 refine ⟨a, rfl, ?_⟩
 conv => whnf
 refine byC h26 op26 ?_
 conv => whnf
 refine ⟨?_⟩
 conv => whnf
 refine bcase_iff.2 ⟨fun g19_3 => ?_, fun g19_3 => ?_⟩
 · conv => whnf
   refine bcase_iff.2 ⟨fun g19_8 => ?_, fun g19_8 => ?_⟩
   · conv => whnf
     refine byC c27 op27 ?_
     conv => whnf
     all_goals rfl
   exfalso
   exact eqPt g19_8
 exfalso
 exact eqPt g19_3
end Go.Ab.MkF
namespace Go.Ab.MkF
open Go Go.Ab Go.Proofs Go.Proofs.YtmchcpmkadhmjaaDoor Go.ChangeShapes Go.WideShapes Go.ChangeAt Go.RowKit
theorem post_same {H : Type} {enc : TypeId × Value → H} {P : Program} {f : Func} {s : ChangeSpec} {apart fresh handsOn again : Bool} {W W' : World} {args : Array Value} {v : Value} {ds gs : List (DataW H)} {before pa pv : List MemPlace}
  (hW : DataW.Whole enc P f.params.toList s.vars apart W args.toList ds gs before)
  (hres : ∀ (b : Nat) (sp : Nat → Bool) (hd : Bool), DataW.TrodAll enc P W' b sp hd f.resultTypes.toList (v.resultList f.resultTypes.size) (s.fn H (ds ++ gs)).results [])
  (hargs : ∀ sp : Nat → Bool, (∀ p ∈ before, sp p.block = true) → DataW.TrodAll enc P W' 0 sp true f.params.toList args.toList (s.fn H (ds ++ gs)).args pa)
  (hvars : ∀ sp : Nat → Bool, (∀ p ∈ before, sp p.block = true) → DataW.TrodVars enc P W' sp s.vars (s.fn H (ds ++ gs)).vars pv)
  (hps : before = pa ++ pv) (hk : W.keptBut W' (· ∈ before)) (hfz : ∀ a, a.block < W.heap.size → W'.frozen? a = W.frozen? a)
  (hok : ∀ (j : Nat) (t : TypeId) (r : Value), f.resultTypes[j]? = some t → (v.resultList f.resultTypes.size)[j]? = some r → Value.okWide P W' .any 0 t r) :
  s.post enc P f apart fresh handsOn again W args v W' := by
 have hlt := hW.lt
 have hold : ∀ p ∈ before, (fun b => decide (b < W.heap.size)) p.block = true := fun p hp => by simpa using hlt p hp
 refine ⟨ds, gs, before, [], pa, pv, hW, hres _ _ _, hargs _ hold, hvars _ hold, World.keptBut_mono (fun p hp => ⟨hp, ?_⟩) hk, fun _ => ?_⟩
 · rw [hps, List.mem_append] at hp
   exact Or.inr hp
 obtain ⟨_, _, _, _, _, hz, hn⟩ := hW
 refine ⟨hok, _, _, ([] ++ pa) ++ pv, ⟨[] ++ pa, pv, trodAll_append (hargs _ (fun _ _ => rfl)) (hres _ _ _), hvars _ (fun _ _ => rfl), rfl, ?_, ?_⟩, ?_⟩
 · intro b off hp
   have hp' : MemPlace.cell b off ∈ before := by rw [hps]; simpa using hp
   rw [hfz _ (hlt _ hp')]
   exact hz b off hp'
 · intro ha
   have := hn ha
   rw [hps] at this
   simpa using this
 intro p hp _
 rw [hps]
 simpa using hp
theorem grow_kept {w w' : World} (h : Grow w w') (may : MemPlace → Prop) : w.keptBut w' may := by
 refine ⟨h.os, h.output, fun i hi => ?_⟩
 rw [h.block i hi]
 cases w.heap[i]? with
 | none => trivial
 | some o => cases o <;> simp
theorem grow_fz {w w' : World} (h : Grow w w') (a : Addr) (ha : a.block < w.heap.size) : w'.frozen? a = w.frozen? a := by
 unfold World.frozen?
 rw [h.block _ ha]
theorem gTab : Tryd.prog.globalNamed "math/bits.deBruijn64tab" = some 1 := by kernel_rfl
theorem gTabType : (Tryd.prog.globals[1]?).map (·.type) = some 198 := by kernel_rfl
theorem cells198 : Tryd.prog.cellsOf 198 = 64 := by kernel_rfl
theorem cells5 : Tryd.prog.cellsOf 5 = 1 := by kernel_rfl
theorem laid_glT {W : World} (h : laidMetH Tryd.prog [("math/bits.deBruijn32tab", Rows.laid_math_bits_deBruijn32tab), ("math/bits.deBruijn64tab", Rows.laid_math_bits_deBruijn64tab)] W) : glT.G W := by
 have h1 := laidMetH.filter (fun x => x.1 == "math/bits.deBruijn64tab") h
 have e : ([("math/bits.deBruijn32tab", Rows.laid_math_bits_deBruijn32tab), ("math/bits.deBruijn64tab", Rows.laid_math_bits_deBruijn64tab)] : List (String × DataW Unit)).filter (fun x => x.1 == "math/bits.deBruijn64tab") = [("math/bits.deBruijn64tab", Rows.laid_math_bits_deBruijn64tab)] := by rfl
 rw [e, Go.MakeChecks.laidMetH_plain _ _ _ (by kernel_rfl)] at h1
 have ht : Lib.TabIs Tryd.prog W "math/bits.deBruijn64tab" .u8 (Lib.deBruijn64tab.map fun n : Nat => (n : Int)) := Lib.tabIs_of_head (rest := []) gTab gTabType Tryd.underlying198 Tryd.underlying5 cells5 cells198 h1
 have hc : TabAt 1 Lib.deBruijn64tab W := fun j hj => by
  have := ht.cell gTab j (by simpa using hj)
  rw [this]
  simp [List.getD, hj]
 refine ⟨?_, hc⟩
 have := hc 0 (by decide)
 rcases Nat.lt_or_ge 1 W.heap.size with hlt | hge
 · exact hlt
 exfalso
 have hn : W.heap[1]? = none := Array.getElem?_eq_none hge
 simp [World.cell?, hn] at this
def tab32 : List Int := [0, 1, 28, 2, 29, 14, 24, 3, 30, 22, 20, 15, 25, 17, 4, 8, 31, 27, 13, 23, 21, 19, 16, 7, 26, 12, 18, 6, 11, 5, 10, 9]
def tab64 : List Int := [0, 1, 56, 2, 57, 49, 28, 3, 61, 58, 42, 50, 38, 29, 17, 4, 62, 47, 59, 36, 45, 43, 51, 22, 53, 39, 33, 30, 24, 18, 12, 5, 63, 55, 48, 27, 60, 41, 37, 16, 46, 35, 44, 21, 52, 32, 23, 11, 54, 26, 40, 15, 34, 20, 31, 10, 25, 14, 19, 9, 13, 8, 7, 6]
def setTab (zs : List Int) : Obj → Obj
 | .cells _ t frozen => .cells (zs.map fun n => Value.int .u8 n).toArray t frozen
 | o => o
def tabWorld (w : World) : World := { w with heap := (w.heap.modify 0 (setTab tab32)).modify 1 (setTab tab64) }
end Go.Ab.MkF
namespace Go.Ab.MkF
open Go Go.Ab Go.Proofs
set_option maxRecDepth 100000
theorem kids : Kids Tryd.prog (· < Tryd.prog.types.size) := kids_rows (by kernel_rfl) (by kernel_rfl)
theorem full : ∀ t e, t < Tryd.prog.types.size → Tryd.prog.underlying t = some (.slice e) → 0 < Tryd.prog.cellsOf e := slices_full_of Tryd.prog (by kernel_rfl)
theorem zc3 : Tryd.prog.cellsOf 3 = 1 := by kernel_rfl
theorem zc9 : Tryd.prog.cellsOf 9 = 1 := by kernel_rfl
theorem zc26 : Tryd.prog.cellsOf 26 = 2 := by kernel_rfl
theorem zc30 : Tryd.prog.cellsOf 30 = 1 := by kernel_rfl
abbrev B63 : Nat := 9223372036854775807
section
variable {H : Type} {enc : TypeId × Value → H} {w : World}
theorem oInt : OpA S enc Tryd.prog w 3 fun cl => ∃ n : Int, cl = Cod.enc (S := S) U.int n ∧ IntKind.i64.min ≤ n ∧ n ≤ IntKind.i64.max :=
 (OpA.int Tryd.underlying3).mono fun _ ⟨n, h, h1⟩ => ⟨n, h, h1⟩
theorem oInts : OpA S enc Tryd.prog w 30 fun cl => ∃ ys : List Int, cl = [vL ys] ∧ ys.length ≤ B63 ∧ ∀ y ∈ ys, IntKind.i64.min ≤ y ∧ y ≤ IntKind.i64.max :=
 OpA.slice (S := S) (u := U.int) Tryd.underlying30 zc3 oInt
theorem oPair : OpA S enc Tryd.prog w 26 fun cl => ∃ a b : Int, cl = [.arr (S := S) U.int 2 [a, b]] := by
 refine (OpA.array (S := S) (u := U.int) Tryd.underlying26 (by rw [zc26, zc3]) oInt).mono ?_
 rintro cl ⟨ys, rfl, hl, _⟩
 match ys, hl with
 | [a, b], _ => exact ⟨a, b, rfl⟩
end
abbrev noHand : Value := .agg #[.slice none 0 0]
end Go.Ab.MkF
namespace Go.Ab.MkF
open Go Go.Ab Go.Proofs
set_option maxRecDepth 100000
theorem zc22 : Tryd.prog.cellsOf 22 = 1 := by kernel_rfl
theorem zc23 : Tryd.prog.cellsOf 23 = 1 := by kernel_rfl
theorem zc25 : Tryd.prog.cellsOf 25 = 3 := by kernel_rfl
theorem zc88 : Tryd.prog.cellsOf 88 = 2 := by kernel_rfl
theorem zc94 : Tryd.prog.cellsOf 94 = 3 := by kernel_rfl
section
variable {H : Type} {enc : TypeId × Value → H} {w : World}
theorem oLf : OpA S enc Tryd.prog w 94 fun cl => ∃ y : Lf, cl = Cod.enc (S := S) U.leaf y ∧ y.1.size ≤ B63 := by
 refine (OpA.struct (Rs := [_, _, _]) Tryd.underlying94 ⟨rfl, _, _, rfl, OpA.str Tryd.underlying9, by rw [zc9], _, _, rfl, oInt, by rw [zc9, zc3], _, _, rfl, oInt, by rw [zc9, zc3, zc94], rfl⟩).mono ?_
 rintro cl ⟨a, b, rfl, ⟨s, rfl, hs⟩, c, d, rfl, ⟨n, rfl, _⟩, e, f, rfl, ⟨m, rfl, _⟩, rfl⟩
 exact ⟨(s, n, m), rfl, hs⟩
theorem oLfs : OpA S enc Tryd.prog w 22 fun cl => ∃ ys : List Lf, cl = [lfsV ys] ∧ ys.length ≤ B63 ∧ ∀ y ∈ ys, y.1.size ≤ B63 :=
 OpA.slice (S := S) (u := U.leaf) Tryd.underlying22 zc94 oLf
theorem oCp : OpA S enc Tryd.prog w 88 fun cl => ∃ y : Cp, cl = Cod.enc (S := S) U.copy y ∧ y.1.size ≤ B63 ∧ y.2.length ≤ B63 := by
 refine (OpA.struct (Rs := [_, _]) Tryd.underlying88 ⟨rfl, _, _, rfl, OpA.str Tryd.underlying9, by rw [zc9], _, _, rfl, oInts, by rw [zc9, zc30, zc88], rfl⟩).mono ?_
 rintro cl ⟨a, b, rfl, ⟨s, rfl, hs⟩, c, d, rfl, ⟨ys, rfl, h, _⟩, rfl⟩
 exact ⟨(s, ys), rfl, hs, h⟩
theorem oCps : OpA S enc Tryd.prog w 23 fun cl => ∃ ys : List Cp, cl = [cpsV ys] ∧ ys.length ≤ B63 ∧ ∀ y ∈ ys, y.1.size ≤ B63 ∧ y.2.length ≤ B63 :=
 OpA.slice (S := S) (u := U.copy) Tryd.underlying23 zc88 oCp
theorem oSet : OpA S enc Tryd.prog w 25 fun cl => ∃ p ls cs, cl = setC p ls cs ∧ LensS ls cs ∧ LensN ls cs := by
 refine (OpA.struct (Rs := [_, _, _]) Tryd.underlying25 ⟨rfl, _, _, rfl, oInt, by rw [zc3], _, _, rfl, oLfs, by rw [zc3, zc22], _, _, rfl, oCps, by rw [zc3, zc22, zc23, zc25], rfl⟩).mono ?_
 rintro cl ⟨a, b, rfl, ⟨p, rfl, _⟩, c, d, rfl, ⟨ls, rfl, h1, h2⟩, e, f, rfl, ⟨cs, rfl, h3, h4⟩, rfl⟩
 exact ⟨p, ls, cs, rfl, ⟨⟨h1, h3⟩, fun x hx => (h4 x hx).2⟩, h2, fun x hx => (h4 x hx).1⟩
end
abbrev noSet : Value := .agg #[.int .i64 0, .slice none 0 0, .slice none 0 0]
end Go.Ab.MkF
