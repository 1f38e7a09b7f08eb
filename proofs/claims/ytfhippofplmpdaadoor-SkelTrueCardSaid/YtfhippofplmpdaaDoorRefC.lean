/-
  THE SKELETON FAMILY, PART PO: numbers of the reference: plain.
  THE SKELETON FAMILY, PART RD: numbers: of the reference.
-/
import Derived.Test.YtfhippofplmpdaaDoorRefB
namespace Go.Ab.SkF
open Go Go.Ab Go.Ab.Pln

abbrev gR (g : List Nat) : Rel := fun a k => g.getD k 0 == g.getD a 0
abbrev mR (t : List (List Bool)) : Rel := fun a k => (t.getD a []).getD k false
def rowR (R : Rel) (n a : Nat) : List Bool := (List.range n).map (R a)
def tabR (R : Rel) (n : Nat) : List (List Bool) := (List.range n).map (rowR R n)
/-- What is asked of one of those ahead. -/
def okK (G M : Rel) (l : List Nat) (n k : Nat) : Bool := !(G l.length k && l.getD k 0 != n || M l.length k && l.getD k 0 == n)
def numU (G M : Rel) (lim m : Nat) (l : List Nat) (k : Nat) : List (List Nat) := (List.range k).flatMap fun n => if okN G M l n then numR G M lim m (l ++ [n]) else []
/-- How many are new, up to one. -/
theorem manyU_T {l : List Nat} {i : Nat} (h : (l.take i).contains (l.getD i 0) = false) : manyU l (i + 1) = manyU l i + 1 := by
  unfold manyU; rw [cnt_succ, h]; simp
theorem manyU_F {l : List Nat} {i : Nat} (h : (l.take i).contains (l.getD i 0) = true) : manyU l (i + 1) = manyU l i := by
  unfold manyU; rw [cnt_succ, h]; simp
theorem manyU_le (l : List Nat) (i : Nat) : manyU l i ≤ i := cnt_le _ _
theorem natsV_take (l : List Nat) (i : Nat) : (natsV l).take i = natsV (l.take i) := by simp [natsV, List.map_take]

theorem Few.congr {G M G' M' : Rel} {n : Nat} {x : List Nat} {u : Nat} (h : ∀ i k, i < n → k < i → G i k = G' i k ∧ M i k = M' i k) (hf : Few G M n x u) : Few G' M' n x u := by
  refine ⟨by rw [← fewS_congr h]; exact hf.eq, ?_, hf.top, hf.pos, hf.le, fun c hc K hK => hf.least c (hc.congr fun i k hi hk => ⟨(h i k hi hk).1.symm, (h i k hi hk).2.symm⟩) K hK, by rw [← waysA_congr h]; exact hf.head, fun lim hl => by rw [← waysA_congr h]; exact hf.none lim hl⟩
  have : (x, u) ∈ waysA G' M' u n := by rw [← waysA_congr h]; exact List.mem_of_mem_head? hf.head
  exact (mem_ways.1 this).1
theorem ask_no {ts : List ByteArray} {fs : Fms} {ss : Sgs} (h : chE ts fs ss ≠ 0) : askE ts fs ss = chE ts fs ss := by unfold askE; rw [if_pos h]
theorem ask_cl {ts : List ByteArray} {fs : Fms} {ss : Sgs} (h : chE ts fs ss = 0) {p : Nat × Nat} (hJ : clashJ fs ss = some p) : askE ts fs ss = 9 := by unfold askE; rw [if_neg (fun h' => h' h), hJ]; rfl
theorem ask_ok {ts : List ByteArray} {fs : Fms} {ss : Sgs} (h : chE ts fs ss = 0) (hJ : clashJ fs ss = none) : askE ts fs ss = 0 := by unfold askE; rw [if_neg (fun h' => h' h), hJ]; rfl
end Go.Ab.SkF

namespace Go.Ab.SkF
open Go Go.Ab Go.Ab.Pln Go.Proofs
set_option maxHeartbeats 1000000
set_option maxRecDepth 100000

abbrev boolsV (t : List (List Bool)) : AV S := .sl (S := S) U.bools t none
theorem c44 (gl : Gl) (l : List Nat) (hl : l.length ≤ 9223372036854775807) : PCalls PR gl 44 [vL (natsV l)] fun r => r = vI (manyL l) := by
  have hll := natsV_length l
  refine fnW_sound (par_ok gl) Tryd.func44 ?_
  conv => whnf
  refine ⟨⟨25, [], []⟩, ?_⟩
  refine LoopW_ind _ (fun i : Nat => (({ tmps := [vL (natsV l), .undef, .undef, vI (manyU l i), vI i, .undef, .undef, .undef, .undef, .undef, .undef, .undef, .undef, .undef, .undef, .undef, .undef, .undef, .undef, .undef, .undef, .undef, .undef], seg := [], up := [] } : St S))) (fun i : Nat => (i ≤ l.length)) (fun i : Nat => (l.length - i)) () ?_ 0 (Nat.zero_le _)
  intro i hi Z1 hZ1
  conv => whnf
  refine bcase_iff.2 ⟨fun h3 => ?_, fun h3 => ?_⟩
  · skip
    have hlt : i < l.length := by have := of_decide_eq_true h3; rw [hll] at this; omega
    have hw : IntKind.i64.wrap ((i : Int) + 1) = ((i + 1 : Nat) : Int) := wrap_nat (by omega)
    have hmu := manyU_le l i
    have hw2 : IntKind.i64.wrap ((manyU l i : Int) + 1) = ((manyU l i + 1 : Nat) : Int) := wrap_nat (by omega)
    have h99 : PCalls PR gl 99 [vL ((natsV l).take i), vI ((l.getD i 0 : Nat) : Int)] fun r => r = vB ((l.take i).contains (l.getD i 0)) := by
      have h := c99 gl ((natsV l).take i) (by rw [List.length_take]; omega) ((l.getD i 0 : Nat) : Int)
      rw [natsV_take, has_nats] at h; rw [natsV_take]; exact h
    conv => whnf
    refine ⟨[0, 1, 2, 3, 4, 5, 6, 7, 8], [], [], [], ⟨8388607, [], []⟩, by decide +kernel, ?_⟩
    conv => whnf
    refine ⟨by omega, ?_⟩
    conv => whnf
    refine ⟨by omega, by simp <;> omega, ?_⟩
    conv => whnf
    refine ⟨_, getI_natsD hlt, ?_⟩
    conv => whnf
    refine byC h99 op99 ?_
    conv => whnf
    refine bcase_iff.2 ⟨fun h5 => ?_, fun h5 => ?_⟩
    · skip
      have q : (l.take i).contains (l.getD i 0) = false := by have g : (!(l.take i).contains (l.getD i 0)) = true := h5; simpa using g
      -- Z3:TT
      conv => whnf
      refine ⟨⟨25, [], []⟩, ?_⟩
      conv => whnf
      rw [hw, hw2, ← manyU_T q]
      exact hZ1 (i + 1) hlt (by omega)
    · skip
      have q : (l.take i).contains (l.getD i 0) = true := by have g : (!(l.take i).contains (l.getD i 0)) = false := h5; simpa using g
      -- Z3:TF
      conv => whnf
      refine ⟨⟨25, [], []⟩, ?_⟩
      conv => whnf
      rw [hw, ← manyU_F q]
      exact hZ1 (i + 1) hlt (by omega)
  · skip
    have hge : i = l.length := by have := of_decide_eq_false h3; rw [hll] at this; omega
    -- R:F
    conv => whnf
    rw [hge]; rfl

theorem op44 : Opens PR 44 := ⟨_, Tryd.func44, rfl, rfl⟩

end Go.Ab.SkF
