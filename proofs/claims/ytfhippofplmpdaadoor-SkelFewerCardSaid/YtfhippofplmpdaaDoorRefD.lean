/-
  THE SKELETON FAMILY, PART PQ: parts of jobs, and what two formes have the same, of the reference: plain.
  THE SKELETON FAMILY, PART RE: parts of jobs, Proof and Share: of the reference; the law SkelSkeletons.
-/
import Derived.Test.YtfhippofplmpdaaDoorRefC
import Derived.Test.YtfhippofplmpdaaDoorLawA
namespace Go.Ab.SkF
open Go Go.Ab Go.Ab.Pln

theorem filt1_T {α : Type} {p : α → Bool} {a : α} (h : p a = true) : [a].filter p = [a] := by rw [List.filter_cons_of_pos h, List.filter_nil]
theorem filt1_F {α : Type} {p : α → Bool} {a : α} (h : p a = false) : [a].filter p = [] := by rw [List.filter_cons_of_neg (by rw [h]; simp), List.filter_nil]
/-- What is seen in some formes, by sightings: up to one of them, and up to a forme of the next. -/
def subX (l : List Nat) (x : Sg) (k : Nat) : Sgs := ((List.range k).filter fun k => ((l.getD k 0 : Nat) : Int) == x.1).map fun (k : Nat) => ((k : Int), x.2)
theorem subR_snoc (ss : Sgs) (l : List Nat) (i : Nat) (h : i < ss.length) : subR (ss.take (i + 1)) l = subR (ss.take i) l ++ subX l ss[i] l.length := by
  unfold subR; rw [take_snoc h, List.flatMap_append]
  congr 1
  rw [List.flatMap_singleton]; rfl
theorem subX_T {l : List Nat} {x : Sg} {k : Nat} (h : (((l.getD k 0 : Nat) : Int) == x.1) = true) : subX l x (k + 1) = subX l x k ++ [((k : Int), x.2)] := by
  unfold subX; rw [List.range_succ, List.filter_append, List.map_append, filt1_T (p := fun k => ((l.getD k 0 : Nat) : Int) == x.1) h]; rfl
theorem subX_F {l : List Nat} {x : Sg} {k : Nat} (h : (((l.getD k 0 : Nat) : Int) == x.1) = false) : subX l x (k + 1) = subX l x k := by
  unfold subX; rw [List.range_succ, List.filter_append, List.map_append, filt1_F (p := fun k => ((l.getD k 0 : Nat) : Int) == x.1) h, List.map_nil, List.append_nil]
theorem subX_len (l : List Nat) (x : Sg) (k : Nat) : (subX l x k).length ≤ k := by
  unfold subX; have := List.length_filter_le (fun k => ((l.getD k 0 : Nat) : Int) == x.1) (List.range k); simpa using this
theorem subR_len (l : List Nat) : ∀ (ss : Sgs), (subR ss l).length ≤ ss.length * l.length
  | [] => by simp [subR]
  | x :: ss => by
    have h1 := subR_len l ss
    have h2 := subX_len l x l.length
    have e : subR (x :: ss) l = subX l x l.length ++ subR ss l := by unfold subR; rw [List.flatMap_cons]; rfl
    rw [e, List.length_append, List.length_cons, Nat.succ_mul]; omega
theorem subF_up (fs : Fms) (l : List Nat) (k : Nat) (h : k < l.length) : subF fs (l.take k) ++ [fs.getD (l.getD k 0) f0] = subF fs (l.take (k + 1)) := by
  unfold subF; rw [take_snoc h, List.map_append, getD_at h]; rfl

/-! ### Whether two formes have the same -/
def sameC (W : List (List Nat)) (a b : Nat) : Nat := (W.filter fun x => x.getD a 0 == x.getD b 0).length
end Go.Ab.SkF

namespace Go.Ab.SkF
open Go Go.Ab Go.Ab.Pln Go.Proofs
set_option maxHeartbeats 1000000
set_option maxRecDepth 100000

theorem getI_fm {fs : Fms} {i : Nat} (h : i < fs.length) : getI fs (i : Int) = some (fs.getD i f0) := by rw [getI_nat h, getD_at h]
theorem c49 (gl : Gl) (ts : List ByteArray) (fs : Fms) (ss : Sgs) (hsl : ss.length ≤ 100) (l : List Nat) (hl : l.length ≤ 100) (hb : ∀ x ∈ l, x < fs.length) : PCalls PR gl 49 [.agg [strsV ts, fmsV fs, sgsV ss], vL (natsV l)] fun r => r = jobV ts (subF fs l) (subR ss l) := by
  have hll := natsV_length l
  refine fnW_sound (par_ok gl) Tryd.func49 ?_
  conv => whnf
  refine ⟨⟨118, [1004, 2004, 3004], [5, 1004, 2004, 3004]⟩, ?_⟩
  refine LoopW_ind _ (fun k : Nat => (({ tmps := [.undef, vL (natsV l), .own 2 [], .undef, .own 4 [], .sl (S := S) U.forme (subF fs (l.take k)) (some 5), vI k, .undef, .undef, .undef, .undef, .undef, .undef, .undef, .undef, .undef, .undef, .undef, .undef, .undef, .undef, .undef, .undef, .undef, .undef, .undef, .undef, .undef, .undef, .undef, .undef, .undef, .undef, .undef, .undef, .undef, .undef, .undef, .undef, .undef, .undef, .undef, .undef, .undef, .undef, .undef, .undef, .undef, .undef, .undef, .undef, .undef, .undef, .undef, .undef, .undef, .undef, .undef, .undef, .undef, .undef, .undef, .undef, .undef, .undef, .undef, .undef], seg := [(2, .cells [strsV ts, fmsV fs, sgsV ss]), (4, .cells [strsV [], fmsV [], sgsV []]), (5, .row U.forme false)], up := [] } : St S))) (fun k : Nat => (k ≤ l.length)) (fun k : Nat => (l.length - k)) () ?_ 0 (Nat.zero_le _)
  intro k hk Z1 hZ1
  conv => whnf
  refine bcase_iff.2 ⟨fun h3 => ?_, fun h3 => ?_⟩
  · skip
    have hlt : k < l.length := by have := of_decide_eq_true h3; rw [hll] at this; omega
    have hw : IntKind.i64.wrap ((k : Int) + 1) = ((k + 1 : Nat) : Int) := wrap_nat (by omega)
    have hkb : l.getD k 0 < fs.length := by rw [getD_at hlt]; exact hb _ (List.getElem_mem hlt)
    conv => whnf
    refine ⟨[0, 1, 2, 3, 4, 5, 6, 7, 8, 9, 10, 11], [9], [], [], ⟨147573952589676412927, [], []⟩, by decide +kernel, ?_⟩
    conv => whnf
    refine ⟨_, getI_natsD hlt, ?_⟩
    conv => whnf
    refine ⟨_, getI_fm hkb, ?_⟩
    conv => whnf
    refine ⟨_, rfl, ?_⟩
    conv => whnf
    have hsl2 := subF_len fs (l.take k)
    conv => whnf
    rw [List.length_take] at hsl2
    conv => whnf
    refine ⟨Pln.lim (by show (subF fs (l.take k)).length + 1 ≤ _; omega), ?_⟩
    -- Z3:T
    conv => whnf
    refine ⟨⟨118, [26, 27], []⟩, ?_⟩
    conv => whnf
    rw [hw]
    have hz := hZ1 (k + 1) hlt (by omega)
    rw [← subF_up fs l k hlt] at hz
    exact hz
  · skip
    have hge : k = l.length := by have := of_decide_eq_false h3; rw [hll] at this; omega
    rw [hge, List.take_length]
    conv => whnf
    refine ⟨⟨438, [], [7]⟩, ?_⟩
    refine LoopW_ind _ (fun i : Nat => (({ tmps := [.undef, vL (natsV l), .own 2 [], .undef, .own 4 [], .sl (S := S) U.forme (subF fs l) (some 5), .undef, .sl (S := S) U.sight (subR (ss.take i) l) (some 7), vI i, .undef, .undef, .undef, .undef, .undef, .undef, .undef, .undef, .undef, .undef, .undef, .undef, .undef, .undef, .undef, .undef, .undef, .undef, .undef, .undef, .undef, .undef, .undef, .undef, .undef, .undef, .undef, .undef, .undef, .undef, .undef, .undef, .undef, .undef, .undef, .undef, .undef, .undef, .undef, .undef, .undef, .undef, .undef, .undef, .undef, .undef, .undef, .undef, .undef, .undef, .undef, .undef, .undef, .undef, .undef, .undef, .undef, .undef], seg := [(2, .cells [strsV ts, fmsV fs, sgsV ss]), (4, .cells [strsV [], fmsV [], sgsV []]), (5, .row U.forme false), (7, .row U.sight false)], up := [] } : St S))) (fun i : Nat => (i ≤ ss.length)) (fun i : Nat => (ss.length - i)) () ?_ 0 (Nat.zero_le _)
    intro i hi Z2 hZ2
    conv => whnf
    refine bcase_iff.2 ⟨fun h8 => ?_, fun h8 => ?_⟩
    · skip
      have hlt : i < ss.length := by have := of_decide_eq_true h8; omega
      have hw : IntKind.i64.wrap ((i : Int) + 1) = ((i + 1 : Nat) : Int) := wrap_nat (by omega)
      conv => whnf
      refine ⟨_, getI_nat hlt, ?_⟩
      conv => whnf
      rw [← List.append_nil (subR (ss.take i) l)]
      refine ⟨⟨1974, [], []⟩, ?_⟩
      refine LoopW_ind _ (fun k : Nat => (({ tmps := [.undef, vL (natsV l), .own 2 [], .undef, .own 4 [], .sl (S := S) U.forme (subF fs l) (some 5), .undef, .sl (S := S) U.sight (subR (ss.take i) l ++ subX l ss[i] k) (some 7), vI i, .own 9 [], vI k, .undef, .undef, .undef, .undef, .undef, .undef, .undef, .undef, .undef, .undef, .undef, .undef, .undef, .undef, .undef, .undef, .undef, .undef, .undef, .undef, .undef, .undef, .undef, .undef, .undef, .undef, .undef, .undef, .undef, .undef, .undef, .undef, .undef, .undef, .undef, .undef, .undef, .undef, .undef, .undef, .undef, .undef, .undef, .undef, .undef, .undef, .undef, .undef, .undef, .undef, .undef, .undef, .undef, .undef, .undef, .undef], seg := [(2, .cells [strsV ts, fmsV fs, sgsV ss]), (4, .cells [strsV [], fmsV [], sgsV []]), (5, .row U.forme false), (7, .row U.sight false), (9, .cells [vI ss[i].1, vI ss[i].2.1, vI ss[i].2.2])], up := [] } : St S))) (fun k : Nat => (k ≤ l.length)) (fun k : Nat => (l.length - k)) () ?_ 0 (Nat.zero_le _)
      intro k hk Z3 hZ3
      conv => whnf
      refine bcase_iff.2 ⟨fun h12 => ?_, fun h12 => ?_⟩
      · skip
        have hltk : k < l.length := by have := of_decide_eq_true h12; rw [hll] at this; omega
        have hwk : IntKind.i64.wrap ((k : Int) + 1) = ((k + 1 : Nat) : Int) := wrap_nat (by omega)
        conv => whnf
        refine ⟨[0, 1, 2, 3, 4, 5, 6], [], [], [], ⟨147573952589676412927, [], []⟩, by decide +kernel, ?_⟩
        conv => whnf
        refine ⟨_, getI_natsD hltk, ?_⟩
        conv => whnf
        refine bcase_iff.2 ⟨fun h14 => ?_, fun h14 => ?_⟩
        · skip
          have q : (((l.getD k 0 : Nat) : Int) == ss[i].1) = true := h14
          conv => whnf
          refine ⟨_, rfl, ?_⟩
          conv => whnf
          have r1 := subR_len l (ss.take i)
          conv => whnf
          have r2 := subX_len l ss[i] k
          conv => whnf
          have r3 : (ss.take i).length * l.length ≤ 100 * 100 := Nat.mul_le_mul (by rw [List.length_take]; omega) hl
          conv => whnf
          refine ⟨Pln.lim (by rw [List.length_append]; show _ + 1 ≤ _; omega), ?_⟩
          -- Z12:TT
          conv => whnf
          refine ⟨⟨1974, [60, 61], []⟩, ?_⟩
          conv => whnf
          rw [hwk]
          have hz := hZ3 (k + 1) hltk (by omega)
          rw [subX_T q, ← List.append_assoc] at hz
          exact hz
        · skip
          have q : (((l.getD k 0 : Nat) : Int) == ss[i].1) = false := h14
          -- Z12:TF
          conv => whnf
          refine ⟨⟨1974, [60, 61], []⟩, ?_⟩
          conv => whnf
          rw [hwk]
          have hz := hZ3 (k + 1) hltk (by omega)
          rw [subX_F q] at hz
          exact hz
      · skip
        have hgek : k = l.length := by have := of_decide_eq_false h12; rw [hll] at this; omega
        subst hgek
        -- Z8:TF
        conv => whnf
        refine ⟨⟨438, [9, 60, 61, 1009, 2009, 3009, 4009], []⟩, ?_⟩
        conv => whnf
        rw [hw]
        have hz := hZ2 (i + 1) hlt (by omega)
        rw [subR_snoc ss l i hlt] at hz
        exact hz
    · skip
      have hge : i = ss.length := by have := of_decide_eq_false h8; omega
      rw [hge, List.take_length]
      -- R:FF
      conv => whnf

theorem op49 : Opens PR 49 := ⟨_, Tryd.func49, rfl, rfl⟩

end Go.Ab.SkF
