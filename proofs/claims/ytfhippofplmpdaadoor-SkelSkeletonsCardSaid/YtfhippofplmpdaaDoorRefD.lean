/-
  THE SKELETON FAMILY, PART PQ: parts of jobs, and what two formes have the same, of the reference: plain.
  THE SKELETON FAMILY, PART RE: parts of jobs, Proof and Share: of the reference; the law SkelSkeletons.
-/
import Derived.Test.YtfhippofplmpdaaDoorRefC
import Derived.Test.YtfhippofplmpdaaDoorLawA
namespace Go.Ab.SkF
open Go Go.Ab Go.Ab.Pln

theorem filt1_T {α : Type} {p : α → Bool} {a : α} (h : p a = true) : [a].filter p = [a] := by rw [List.filter_cons_of_pos h, List.filter_nil]
theorem filt1_F {α : Type} {p : α → Bool} {a : α} (h : p a = false) : [a].filter p = [] := by rw [List.filter_cons_of_neg (by rw [h]; simp), List.filter_nil]
/-- What is seen in some formes, by sightings: up to one of them, and up to a forme of the next. -/
def subX (l : List Nat) (x : Sg) (k : Nat) : Sgs := ((List.range k).filter fun k => ((l.getD k 0 : Nat) : Int) == x.1).map fun (k : Nat) => ((k : Int), x.2)
theorem subR_snoc (ss : Sgs) (l : List Nat) (i : Nat) (h : i < ss.length) : subR (ss.take (i + 1)) l = subR (ss.take i) l ++ subX l ss[i] l.length := by
  unfold subR; rw [take_snoc h, List.flatMap_append]
  congr 1
  rw [List.flatMap_singleton]; rfl
theorem subX_T {l : List Nat} {x : Sg} {k : Nat} (h : (((l.getD k 0 : Nat) : Int) == x.1) = true) : subX l x (k + 1) = subX l x k ++ [((k : Int), x.2)] := by
  unfold subX; rw [List.range_succ, List.filter_append, List.map_append, filt1_T (p := fun k => ((l.getD k 0 : Nat) : Int) == x.1) h]; rfl
theorem subX_F {l : List Nat} {x : Sg} {k : Nat} (h : (((l.getD k 0 : Nat) : Int) == x.1) = false) : subX l x (k + 1) = subX l x k := by
  unfold subX; rw [List.range_succ, List.filter_append, List.map_append, filt1_F (p := fun k => ((l.getD k 0 : Nat) : Int) == x.1) h, List.map_nil, List.append_nil]
theorem subX_len (l : List Nat) (x : Sg) (k : Nat) : (subX l x k).length ≤ k := by
  unfold subX; have := List.length_filter_le (fun k => ((l.getD k 0 : Nat) : Int) == x.1) (List.range k); simpa using this
theorem subR_len (l : List Nat) : ∀ (ss : Sgs), (subR ss l).length ≤ ss.length * l.length
  | [] => by simp [subR]
  | x :: ss => by
    have h1 := subR_len l ss
    have h2 := subX_len l x l.length
    have e : subR (x :: ss) l = subX l x l.length ++ subR ss l := by unfold subR; rw [List.flatMap_cons]; rfl
    rw [e, List.length_append, List.length_cons, Nat.succ_mul]; omega
theorem subF_up (fs : Fms) (l : List Nat) (k : Nat) (h : k < l.length) : subF fs (l.take k) ++ [fs.getD (l.getD k 0) f0] = subF fs (l.take (k + 1)) := by
  unfold subF; rw [take_snoc h, List.map_append, getD_at h]; rfl

/-! ### Whether two formes have the same -/
def sameC (W : List (List Nat)) (a b : Nat) : Nat := (W.filter fun x => x.getD a 0 == x.getD b 0).length
theorem share_cnt (W : List (List Nat)) (hne : W ≠ []) (a b : Nat) : shareV W a b = if sameC W a b = W.length then 1 else if sameC W a b = 0 then 2 else 0 := by
  have h1 : (W.all fun x => x.getD a 0 == x.getD b 0) = true ↔ sameC W a b = W.length := by
    unfold sameC
    rw [List.all_eq_true, List.length_filter_eq_length_iff]
  have h2 : (W.all fun x => x.getD a 0 != x.getD b 0) = true ↔ sameC W a b = 0 := by
    unfold sameC
    rw [List.all_eq_true, List.length_eq_zero_iff, List.filter_eq_nil_iff]
    exact ⟨fun h x hx => by have := h x hx; simpa using this, fun h x hx => by have := h x hx; simpa using this⟩
  have _ := hne
  unfold shareV
  by_cases c1 : sameC W a b = W.length
  · rw [if_pos c1, if_pos (h1.2 c1)]
  · rw [if_neg c1, if_neg (fun h => c1 (h1.1 h))]
    by_cases c2 : sameC W a b = 0
    · rw [if_pos c2, if_pos (h2.2 c2)]
    · rw [if_neg c2, if_neg (fun h => c2 (h2.1 h))]
theorem sameC_T {W : List (List Nat)} {a b i : Nat} (h : i < W.length) (hq : (W[i].getD a 0 == W[i].getD b 0) = true) : sameC (W.take (i + 1)) a b = sameC (W.take i) a b + 1 := by
  unfold sameC; rw [take_snoc h, List.filter_append, List.length_append, filt1_T (p := fun x : List Nat => x.getD a 0 == x.getD b 0) hq]; rfl
theorem sameC_F {W : List (List Nat)} {a b i : Nat} (h : i < W.length) (hq : (W[i].getD a 0 == W[i].getD b 0) = false) : sameC (W.take (i + 1)) a b = sameC (W.take i) a b := by
  unfold sameC; rw [take_snoc h, List.filter_append, List.length_append, filt1_F (p := fun x : List Nat => x.getD a 0 == x.getD b 0) hq]; rfl
theorem sameC_le (W : List (List Nat)) (a b i : Nat) : sameC (W.take i) a b ≤ i := by
  unfold sameC; have := List.length_filter_le (fun x : List Nat => x.getD a 0 == x.getD b 0) (W.take i); rw [List.length_take] at this; omega
theorem allJ_get {fs : Fms} {ss : Sgs} {x : List Nat} (h : x ∈ allJ fs ss) : x.length = fs.length := by
  unfold allJ at h
  obtain ⟨⟨y, u⟩, hy, rfl⟩ := List.mem_map.1 h
  exact (mem_ways.1 hy).1.len
theorem allJ_len {fs : Fms} {ss : Sgs} (h8 : fs.length ≤ 8) (hm : manyJ fs ss ≤ 8) : (allJ fs ss).length ≤ 16777216 := by
  unfold allJ
  rw [← num_nil]
  exact Nat.le_trans (numR_len _ _ hm _ _) (pow8 h8)
/-- The formes of Proof, up to a list of them. -/
theorem proof_many {fs : Fms} {ss : Sgs} (h8 : fs.length ≤ 8) (h : SsOk fs.length 6 ss) (hc : clashJ fs ss = none) {l : List Nat} (hl : Asc 0 fs.length l) (hne : l ≠ []) : ∃ x u, Skel (subF fs l) (subR ss l) x u := (sub_many h8 h hl hc).2 hne
end Go.Ab.SkF

namespace Go.Ab.SkF
open Go Go.Ab Go.Ab.Pln Go.Proofs
set_option maxHeartbeats 1000000
set_option maxRecDepth 100000

theorem getI_fm {fs : Fms} {i : Nat} (h : i < fs.length) : getI fs (i : Int) = some (fs.getD i f0) := by rw [getI_nat h, getD_at h]
theorem getI_lists {W : List (List Nat)} {i : Nat} (h : i < W.length) : getI (W.map natsV) (i : Int) = some (natsV W[i]) := by
  show (W.map natsV)[i]? = _
  rw [List.getElem?_map, List.getElem?_eq_getElem h]; rfl

theorem c49 (gl : Gl) (ts : List ByteArray) (fs : Fms) (ss : Sgs) (hsl : ss.length ≤ 100) (l : List Nat) (hl : l.length ≤ 100) (hb : ∀ x ∈ l, x < fs.length) : PCalls PR gl 49 [.agg [strsV ts, fmsV fs, sgsV ss], vL (natsV l)] fun r => r = jobV ts (subF fs l) (subR ss l) := by
  have hll := natsV_length l
  refine fnW_sound (par_ok gl) Tryd.func49 ?_
  conv => whnf
  refine ⟨⟨118, [1004, 2004, 3004], [5, 1004, 2004, 3004]⟩, ?_⟩
  refine LoopW_ind _ (fun k : Nat => (({ tmps := [.undef, vL (natsV l), .own 2 [], .undef, .own 4 [], .sl (S := S) U.forme (subF fs (l.take k)) (some 5), vI k, .undef, .undef, .undef, .undef, .undef, .undef, .undef, .undef, .undef, .undef, .undef, .undef, .undef, .undef, .undef, .undef, .undef, .undef, .undef, .undef, .undef, .undef, .undef, .undef, .undef, .undef, .undef, .undef, .undef, .undef, .undef, .undef, .undef, .undef, .undef, .undef, .undef, .undef, .undef, .undef, .undef, .undef, .undef, .undef, .undef, .undef, .undef, .undef, .undef, .undef, .undef, .undef, .undef, .undef, .undef, .undef, .undef, .undef, .undef, .undef], seg := [(2, .cells [strsV ts, fmsV fs, sgsV ss]), (4, .cells [strsV [], fmsV [], sgsV []]), (5, .row U.forme false)], up := [] } : St S))) (fun k : Nat => (k ≤ l.length)) (fun k : Nat => (l.length - k)) () ?_ 0 (Nat.zero_le _)
  intro k hk Z1 hZ1
  conv => whnf
  refine bcase_iff.2 ⟨fun h3 => ?_, fun h3 => ?_⟩
  · skip
    have hlt : k < l.length := by have := of_decide_eq_true h3; rw [hll] at this; omega
    have hw : IntKind.i64.wrap ((k : Int) + 1) = ((k + 1 : Nat) : Int) := wrap_nat (by omega)
    have hkb : l.getD k 0 < fs.length := by rw [getD_at hlt]; exact hb _ (List.getElem_mem hlt)
    conv => whnf
    refine ⟨[0, 1, 2, 3, 4, 5, 6, 7, 8, 9, 10, 11], [9], [], [], ⟨147573952589676412927, [], []⟩, by decide +kernel, ?_⟩
    conv => whnf
    refine ⟨_, getI_natsD hlt, ?_⟩
    conv => whnf
    refine ⟨_, getI_fm hkb, ?_⟩
    conv => whnf
    refine ⟨_, rfl, ?_⟩
    conv => whnf
    have hsl2 := subF_len fs (l.take k)
    conv => whnf
    rw [List.length_take] at hsl2
    conv => whnf
    refine ⟨Pln.lim (by show (subF fs (l.take k)).length + 1 ≤ _; omega), ?_⟩
    -- Z3:T
    conv => whnf
    refine ⟨⟨118, [26, 27], []⟩, ?_⟩
    conv => whnf
    rw [hw]
    have hz := hZ1 (k + 1) hlt (by omega)
    rw [← subF_up fs l k hlt] at hz
    exact hz
  · skip
    have hge : k = l.length := by have := of_decide_eq_false h3; rw [hll] at this; omega
    rw [hge, List.take_length]
    conv => whnf
    refine ⟨⟨438, [], [7]⟩, ?_⟩
    refine LoopW_ind _ (fun i : Nat => (({ tmps := [.undef, vL (natsV l), .own 2 [], .undef, .own 4 [], .sl (S := S) U.forme (subF fs l) (some 5), .undef, .sl (S := S) U.sight (subR (ss.take i) l) (some 7), vI i, .undef, .undef, .undef, .undef, .undef, .undef, .undef, .undef, .undef, .undef, .undef, .undef, .undef, .undef, .undef, .undef, .undef, .undef, .undef, .undef, .undef, .undef, .undef, .undef, .undef, .undef, .undef, .undef, .undef, .undef, .undef, .undef, .undef, .undef, .undef, .undef, .undef, .undef, .undef, .undef, .undef, .undef, .undef, .undef, .undef, .undef, .undef, .undef, .undef, .undef, .undef, .undef, .undef, .undef, .undef, .undef, .undef, .undef], seg := [(2, .cells [strsV ts, fmsV fs, sgsV ss]), (4, .cells [strsV [], fmsV [], sgsV []]), (5, .row U.forme false), (7, .row U.sight false)], up := [] } : St S))) (fun i : Nat => (i ≤ ss.length)) (fun i : Nat => (ss.length - i)) () ?_ 0 (Nat.zero_le _)
    intro i hi Z2 hZ2
    conv => whnf
    refine bcase_iff.2 ⟨fun h8 => ?_, fun h8 => ?_⟩
    · skip
      have hlt : i < ss.length := by have := of_decide_eq_true h8; omega
      have hw : IntKind.i64.wrap ((i : Int) + 1) = ((i + 1 : Nat) : Int) := wrap_nat (by omega)
      conv => whnf
      refine ⟨_, getI_nat hlt, ?_⟩
      conv => whnf
      rw [← List.append_nil (subR (ss.take i) l)]
      refine ⟨⟨1974, [], []⟩, ?_⟩
      refine LoopW_ind _ (fun k : Nat => (({ tmps := [.undef, vL (natsV l), .own 2 [], .undef, .own 4 [], .sl (S := S) U.forme (subF fs l) (some 5), .undef, .sl (S := S) U.sight (subR (ss.take i) l ++ subX l ss[i] k) (some 7), vI i, .own 9 [], vI k, .undef, .undef, .undef, .undef, .undef, .undef, .undef, .undef, .undef, .undef, .undef, .undef, .undef, .undef, .undef, .undef, .undef, .undef, .undef, .undef, .undef, .undef, .undef, .undef, .undef, .undef, .undef, .undef, .undef, .undef, .undef, .undef, .undef, .undef, .undef, .undef, .undef, .undef, .undef, .undef, .undef, .undef, .undef, .undef, .undef, .undef, .undef, .undef, .undef, .undef, .undef, .undef, .undef, .undef, .undef, .undef], seg := [(2, .cells [strsV ts, fmsV fs, sgsV ss]), (4, .cells [strsV [], fmsV [], sgsV []]), (5, .row U.forme false), (7, .row U.sight false), (9, .cells [vI ss[i].1, vI ss[i].2.1, vI ss[i].2.2])], up := [] } : St S))) (fun k : Nat => (k ≤ l.length)) (fun k : Nat => (l.length - k)) () ?_ 0 (Nat.zero_le _)
      intro k hk Z3 hZ3
      conv => whnf
      refine bcase_iff.2 ⟨fun h12 => ?_, fun h12 => ?_⟩
      · skip
        have hltk : k < l.length := by have := of_decide_eq_true h12; rw [hll] at this; omega
        have hwk : IntKind.i64.wrap ((k : Int) + 1) = ((k + 1 : Nat) : Int) := wrap_nat (by omega)
        conv => whnf
        refine ⟨[0, 1, 2, 3, 4, 5, 6], [], [], [], ⟨147573952589676412927, [], []⟩, by decide +kernel, ?_⟩
        conv => whnf
        refine ⟨_, getI_natsD hltk, ?_⟩
        conv => whnf
        refine bcase_iff.2 ⟨fun h14 => ?_, fun h14 => ?_⟩
        · skip
          have q : (((l.getD k 0 : Nat) : Int) == ss[i].1) = true := h14
          conv => whnf
          refine ⟨_, rfl, ?_⟩
          conv => whnf
          have r1 := subR_len l (ss.take i)
          conv => whnf
          have r2 := subX_len l ss[i] k
          conv => whnf
          have r3 : (ss.take i).length * l.length ≤ 100 * 100 := Nat.mul_le_mul (by rw [List.length_take]; omega) hl
          conv => whnf
          refine ⟨Pln.lim (by rw [List.length_append]; show _ + 1 ≤ _; omega), ?_⟩
          -- Z12:TT
          conv => whnf
          refine ⟨⟨1974, [60, 61], []⟩, ?_⟩
          conv => whnf
          rw [hwk]
          have hz := hZ3 (k + 1) hltk (by omega)
          rw [subX_T q, ← List.append_assoc] at hz
          exact hz
        · skip
          have q : (((l.getD k 0 : Nat) : Int) == ss[i].1) = false := h14
          -- Z12:TF
          conv => whnf
          refine ⟨⟨1974, [60, 61], []⟩, ?_⟩
          conv => whnf
          rw [hwk]
          have hz := hZ3 (k + 1) hltk (by omega)
          rw [subX_F q] at hz
          exact hz
      · skip
        have hgek : k = l.length := by have := of_decide_eq_false h12; rw [hll] at this; omega
        subst hgek
        -- Z8:TF
        conv => whnf
        refine ⟨⟨438, [9, 60, 61, 1009, 2009, 3009, 4009], []⟩, ?_⟩
        conv => whnf
        rw [hw]
        have hz := hZ2 (i + 1) hlt (by omega)
        rw [subR_snoc ss l i hlt] at hz
        exact hz
    · skip
      have hge : i = ss.length := by have := of_decide_eq_false h8; omega
      rw [hge, List.take_length]
      -- R:FF
      conv => whnf

theorem op49 : Opens PR 49 := ⟨_, Tryd.func49, rfl, rfl⟩

theorem c31 (gl : Gl) (ts : List ByteArray) (fs : Fms) (ss : Sgs) (hL : LensJ ts fs ss) : PCalls PR gl 31 [.agg [strsV ts, fmsV fs, sgsV ss]] fun r => r = .tup [vL (proofR ts fs ss).1, vI (proofR ts fs ss).2] := by
  refine fnW_sound (par_ok gl) Tryd.func31 ?_
  conv => whnf
  refine byC (c86 gl ts fs ss hL) op86 ?_
  rcases Classical.em (askE ts fs ss = 0) with hk | hk
  · skip
    have hV := ask_valid hk
    have hv := hV.job
    have h8 := hv.n8
    have hs6 := hv.s6
    have h12 := hV.s12
    obtain ⟨x, u, hsk⟩ := skel_of hv.n0 h8 hs6 (ask_clash hk)
    obtain ⟨rest, hall⟩ := all_head hsk
    have hxl := hsk.few.way.len
    have hxm := skel_many hsk
    conv => whnf
    refine bcase_iff.2 ⟨fun h2 => ?_, fun h2 => ?_⟩
    · skip
      exfalso
      have g : (askE ts fs ss != 0) = true := h2
      rw [hk] at g; cases g --done
    · skip
      conv => whnf
      have hmu : manyJ fs ss = u := by unfold manyJ; rw [hsk.eq]
      conv => whnf
      have hpos := hsk.few.pos
      conv => whnf
      have hule := hsk.few.le
      conv => whnf
      have hn7 := hV.n7
      conv => whnf
      have hR : proofR ts fs ss = (natsV (proofL fs ss u), 0) := by unfold proofR; rw [if_neg (fun h => h hk), hmu]
      conv => whnf
      have hfp := (proof_find h8 hs6 (ask_clash hk)).2.1
      conv => whnf
      rw [hmu] at hfp
      conv => whnf
      unfold listsFrom at hfp
      conv => whnf
      refine byC (c87 gl ts fs ss h8 hv.s hv.t6 (by omega) x u hsk) op87 ?_
      conv => whnf
      rw [hall]
      conv => whnf
      refine ⟨_, rfl, ?_⟩
      conv => whnf
      refine byC (c44 gl x (by omega)) op44 ?_
      conv => whnf
      rw [hxm]
      conv => whnf
      refine loop_q fun Q1 hQ1 => ?_
      refine ⟨⟨98, [2], [2]⟩, ?_⟩
      refine LoopW_ind _ (fun m : Nat => (({ tmps := [.undef, .own 1 [], .undef, .undef, .undef, vI u, vI m, .undef, .undef, .undef, .undef, .undef, .undef, .undef, .undef, .undef, .undef, .undef, .undef, .undef, .undef, .undef, .undef, .undef, .undef, .undef, .undef, .undef, .undef, .undef, .undef, .undef, .undef, .undef, .undef, .undef, .undef, .undef, .undef, .undef, .undef, .undef, .undef, .undef, .undef, .undef, .undef, .undef, .undef, .undef, .undef, .undef, .undef, .undef], seg := [(1, .cells [strsV ts, fmsV fs, sgsV ss])], up := [] } : St S))) (fun m : Nat => (u ≤ m ∧ m ≤ fs.length + 1 ∧ ∀ m', u ≤ m' → m' < m → ∀ l ∈ listsL 0 fs.length m', (proofP fs ss u) l = false)) (fun m : Nat => (fs.length + 1 - m)) () ?_ u ⟨Nat.le_refl _, by omega, fun m' h1 h2 => by omega⟩
      intro m hinv Z1 hZ1
      obtain ⟨hum, hm, hn⟩ := hinv
      conv => whnf
      refine bcase_iff.2 ⟨fun h6 => ?_, fun h6 => ?_⟩
      · skip
        have hltm : m ≤ fs.length := by have := of_decide_eq_true h6; omega
        have hwm : IntKind.i64.wrap ((m : Int) + 1) = ((m + 1 : Nat) : Int) := wrap_nat (by omega)
        conv => whnf
        refine byC (c81 gl fs.length (by omega) m 0 (by omega) (by omega)) op81 ?_
        conv => whnf
        have hll : ((listsL 0 fs.length m).map natsV).length = (listsL 0 fs.length m).length := List.length_map ..
        conv => whnf
        have hlen : (listsL 0 fs.length m).length ≤ 4096 := listsL_len (by omega) m
        conv => whnf
        refine loop_q fun Q2 hQ2 => ?_
        refine ⟨⟨482, [], []⟩, ?_⟩
        refine LoopW_ind _ (fun i : Nat => (({ tmps := [.undef, .own 1 [], .undef, .undef, .undef, vI u, vI m, .sl (S := S) U.ints ((listsL 0 fs.length m).map natsV) none, vI i, .undef, .undef, .undef, .undef, .undef, .undef, .undef, .undef, .undef, .undef, .undef, .undef, .undef, .undef, .undef, .undef, .undef, .undef, .undef, .undef, .undef, .undef, .undef, .undef, .undef, .undef, .undef, .undef, .undef, .undef, .undef, .undef, .undef, .undef, .undef, .undef, .undef, .undef, .undef, .undef, .undef, .undef, .undef, .undef, .undef], seg := [(1, .cells [strsV ts, fmsV fs, sgsV ss])], up := [] } : St S))) (fun i : Nat => (i ≤ (listsL 0 fs.length m).length ∧ ∀ j, j < i → ∀ h : j < (listsL 0 fs.length m).length, (proofP fs ss u) (listsL 0 fs.length m)[j] = false)) (fun i : Nat => ((listsL 0 fs.length m).length - i)) () ?_ 0 ⟨Nat.zero_le _, fun j h => absurd h (Nat.not_lt_zero _)⟩
        intro i hinv Z2 hZ2
        obtain ⟨hi, hj⟩ := hinv
        conv => whnf
        refine bcase_iff.2 ⟨fun h10 => ?_, fun h10 => ?_⟩
        · skip
          have hlt : i < (listsL 0 fs.length m).length := by have := of_decide_eq_true h10; rw [hll] at this; omega
          have hw : IntKind.i64.wrap ((i : Int) + 1) = ((i + 1 : Nat) : Int) := wrap_nat (by omega)
          have hgI := getI_lists hlt
          have hml := (listsL_mem m 0 fs.length _).1 (List.getElem_mem hlt)
          generalize hlq : (listsL 0 fs.length m)[i] = l at hgI hml
          have hlne : l ≠ [] := by intro e; rw [e] at hml; simp at hml; omega
          obtain ⟨x1, u1, hsk1⟩ := proof_many h8 hs6 (ask_clash hk) hml.2 hlne
          obtain ⟨r1, hall1⟩ := all_head hsk1
          have hxl1 := hsk1.few.way.len
          have hxm1 := skel_many hsk1
          have hfl := subF_len fs l
          have hso := (sub_ok hv.s l).1
          rw [← hfl] at hso
          have hrl := subR_len l ss
          have hrl2 : ss.length * l.length ≤ 12 * 8 := Nat.mul_le_mul h12 (by omega)
          have hmu1 : manyJ (subF fs l) (subR ss l) = u1 := by unfold manyJ; rw [hsk1.eq]
          conv => whnf
          refine ⟨[0, 1, 2, 3, 4, 10, 5, 6, 7, 8, 9, 11], [], [], [], ⟨18014398509481983, [], []⟩, by decide +kernel, ?_⟩
          conv => whnf
          refine ⟨_, hgI, ?_⟩
          conv => whnf
          refine byC (c49 gl ts fs ss (by omega) l (by omega) (fun q hq => (hml.2.2 q hq).2)) op49 ?_
          conv => whnf
          refine byC (c87 gl ts (subF fs l) (subR ss l) (by omega) hso hv.t6 (by omega) x1 u1 hsk1) op87 ?_
          conv => whnf
          rw [hall1]
          conv => whnf
          refine ⟨_, rfl, ?_⟩
          conv => whnf
          refine byC (c44 gl x1 (by omega)) op44 ?_
          conv => whnf
          rw [hxm1]
          conv => whnf
          refine bcase_iff.2 ⟨fun h12x => ?_, fun h12x => ?_⟩
          · skip
            have q : (proofP fs ss u) (listsL 0 fs.length m)[i] = true := by unfold proofP; rw [hlq, hmu1]; have g : ((u1 : Int) == (u : Int)) = true := h12x; rw [eqN] at g; exact g
            rw [find_at (P := (proofP fs ss u)) (g := fun m => listsL 0 fs.length m) hum (by omega) hlt q hn hj] at hfp
            conv => whnf
            refine ⟨_, hgI, ?_⟩
            conv => whnf
            refine (hQ2 _ _ _).mpr ?_
            conv => whnf
            refine (hQ1 _ _ _).mpr ?_
            -- R:aFTTT
            conv => whnf
            rw [hR, ← Option.some.inj hfp, hlq]
          · skip
            have q : (proofP fs ss u) (listsL 0 fs.length m)[i] = false := by unfold proofP; rw [hlq, hmu1]; have g : ((u1 : Int) == (u : Int)) = false := h12x; rw [eqN] at g; exact g
            -- Z10:TF
            conv => whnf
            refine ⟨⟨482, [], []⟩, ?_⟩
            conv => whnf
            rw [hw]
            exact hZ2 (i + 1) ⟨hlt, fun j h1 h2 => by
              rcases Nat.lt_or_ge j i with h | h
              · exact hj j h h2
              · obtain rfl : j = i := by omega
                exact q⟩ (by omega)
        · skip
          have hge : i = (listsL 0 fs.length m).length := by have := of_decide_eq_false h10; rw [hll] at this; omega
          conv => whnf
          refine (hQ2 _ _ _).mpr ?_
          -- Z6:TF
          conv => whnf
          refine ⟨⟨98, [], []⟩, ?_⟩
          conv => whnf
          rw [hwm]
          exact hZ1 (m + 1) ⟨by omega, by omega, fun m' h0 h1 l hl => by
            rcases Nat.lt_or_ge m' m with h | h
            · exact hn m' h0 h l hl
            · obtain rfl : m' = m := by omega
              obtain ⟨j, hj1, rfl⟩ := List.getElem_of_mem hl
              exact hj j (by omega) hj1⟩ (by omega)
      · skip
        have hgem : m = fs.length + 1 := by have := of_decide_eq_false h6; omega
        exfalso
        rw [find_no (P := (proofP fs ss u)) (g := fun m => listsL 0 fs.length m) (fun m' h1 h2 => hn m' h1 (by omega))] at hfp; cases hfp --done
  · skip
    conv => whnf
    refine bcase_iff.2 ⟨fun h2 => ?_, fun h2 => ?_⟩
    · skip
      -- R:bT
      conv => whnf
      unfold proofR
      rw [if_pos hk]
    · skip
      exfalso
      have g : (askE ts fs ss != 0) = false := h2
      exact hk (by simpa using g) --done

theorem op31 : Opens PR 31 := ⟨_, Tryd.func31, rfl, rfl⟩

theorem c33 (gl : Gl) (ts : List ByteArray) (fs : Fms) (ss : Sgs) (hL : LensJ ts fs ss) (a b : Int) : PCalls PR gl 33 [.agg [strsV ts, fmsV fs, sgsV ss], vI a, vI b] fun r => r = .tup [vI (shareR ts fs ss a b).1, vI (shareR ts fs ss a b).2] := by
  have hfl := hL.f
  have hwr : IntKind.i64.wrap ((fs.length : Int) - 1) = ((fs.length : Int) - 1) := wrap_int (by omega) (by omega)
  refine fnW_sound (par_ok gl) Tryd.func33 ?_
  conv => whnf
  have h17 := c17 gl ts fs ss hL
  rcases hq : (chk ts fs ss).2.2 with (_ | n) | n
  all_goals rw [hq] at h17
  all_goals refine byC h17 op17 ?_
  all_goals clear h17
  · skip
    have hk : chE ts fs ss = 0 := hq
    conv => whnf
    obtain ⟨ba, hba⟩ : ∃ q, inB a 0 (IntKind.i64.wrap ((fs.length : Int) - 1)) = q := ⟨_, rfl⟩
    have h68 := c68 gl a 0 (IntKind.i64.wrap ((fs.length : Int) - 1))
    rw [hba] at h68
    refine byC h68 op68 ?_
    have qa0 : outB 0 ((fs.length : Int) - 1) a = !ba := by rw [← in_out, ← hwr, hba]
    clear hba h68
    rcases ba with _ | _
    · skip
      have qa : outB 0 ((fs.length : Int) - 1) a = true := qa0
      have hR : shareR ts fs ss a b = (0, 4) := by unfold shareR; rw [if_neg (fun h => h hk), if_pos (by simp only [List.any_cons, qa, Bool.true_or])]
      -- R:aa
      conv => whnf
      rw [hR]
    · skip
      have qa : outB 0 ((fs.length : Int) - 1) a = false := qa0
      conv => whnf
      obtain ⟨bb, hbb⟩ : ∃ q, inB b 0 (IntKind.i64.wrap ((fs.length : Int) - 1)) = q := ⟨_, rfl⟩
      have h68 := c68 gl b 0 (IntKind.i64.wrap ((fs.length : Int) - 1))
      rw [hbb] at h68
      refine byC h68 op68 ?_
      have qb0 : outB 0 ((fs.length : Int) - 1) b = !bb := by rw [← in_out, ← hwr, hbb]
      clear hbb h68
      rcases bb with _ | _
      · skip
        have qb : outB 0 ((fs.length : Int) - 1) b = true := qb0
        have hR : shareR ts fs ss a b = (0, 4) := by unfold shareR; rw [if_neg (fun h => h hk), if_pos (by simp only [List.any_cons, qb, Bool.true_or, Bool.or_true])]
        -- R:aba
        conv => whnf
        rw [hR]
      · skip
        have qb : outB 0 ((fs.length : Int) - 1) b = false := qb0
        have qo : [a, b].any (outB 0 ((fs.length : Int) - 1)) = false := by simp only [List.any_cons, List.any_nil, qa, qb, Bool.or_false]
        conv => whnf
        refine byC (c86 gl ts fs ss hL) op86 ?_
        rcases Classical.em (askE ts fs ss = 0) with ha | ha
        · skip
          have hV := ask_valid ha
          have hv := hV.job
          have h8 := hv.n8
          have hs6 := hv.s6
          have h12 := hV.s12
          obtain ⟨x, u, hsk⟩ := skel_of hv.n0 h8 hs6 (ask_clash ha)
          obtain ⟨rest, hall⟩ := all_head hsk
          have hne : allJ fs ss ≠ [] := by rw [hall]; simp
          have hab : (0 ≤ a ∧ a < fs.length) ∧ 0 ≤ b ∧ b < fs.length := by simp [outB] at qa qb; omega
          obtain ⟨an, rfl⟩ : ∃ n : Nat, a = n := ⟨a.toNat, by omega⟩
          obtain ⟨bn, rfl⟩ : ∃ n : Nat, b = n := ⟨b.toNat, by omega⟩
          obtain ⟨⟨_, ha1⟩, _, hb1⟩ := hab
          have hR : shareR ts fs ss (an : Int) (bn : Int) = (if sameC (allJ fs ss) an bn = (allJ fs ss).length then 1 else if sameC (allJ fs ss) an bn = 0 then 2 else 0, 0) := by
            unfold shareR
            rw [if_neg (fun h => h hk), if_neg (by rw [qo]; simp), if_neg (fun h => h ha), Int.toNat_natCast, Int.toNat_natCast, share_cnt _ hne]
          have hmu : manyJ fs ss = u := by unfold manyJ; rw [hsk.eq]
          have hule := hsk.few.le
          have hwl := allJ_len (fs := fs) (ss := ss) h8 (by omega)
          have hll : ((allJ fs ss).map natsV).length = (allJ fs ss).length := List.length_map ..
          conv => whnf
          refine bcase_iff.2 ⟨fun h6 => ?_, fun h6 => ?_⟩
          · skip
            exfalso
            have g : (askE ts fs ss != 0) = true := h6
            rw [ha] at g; cases g --done
          · skip
            conv => whnf
            refine byC (c87 gl ts fs ss h8 hv.s hv.t6 (by omega) x u hsk) op87 ?_
            conv => whnf
            refine ⟨⟨14342, [3], []⟩, ?_⟩
            refine LoopW_ind _ (fun i : Nat => (({ tmps := [.undef, vI an, vI bn, .undef, .undef, .undef, .undef, .undef, .undef, .undef, .undef, .sl (S := S) U.ints ((allJ fs ss).map natsV) none, vI (sameC ((allJ fs ss).take i) an bn), vI i, .undef, .undef, .undef, .undef, .undef, .undef, .undef, .undef, .undef, .undef, .undef, .undef, .undef, .undef, .undef, .undef, .undef, .undef, .undef, .undef, .undef, .undef, .undef, .undef, .undef, .undef, .undef, .undef, .undef, .undef, .undef, .undef, .undef, .undef, .undef, .undef, .undef, .undef, .undef, .undef, .undef, .undef, .undef, .undef, .undef, .undef, .undef, .undef, .undef, .undef, .undef, .undef, .undef, .undef, .undef, .undef, .undef, .undef, .undef, .undef, .undef, .undef, .undef, .undef], seg := [], up := [] } : St S))) (fun i : Nat => (i ≤ (allJ fs ss).length)) (fun i : Nat => ((allJ fs ss).length - i)) () ?_ 0 (Nat.zero_le _)
            intro i hi Z1 hZ1
            conv => whnf
            refine bcase_iff.2 ⟨fun h11 => ?_, fun h11 => ?_⟩
            · skip
              have hlt : i < (allJ fs ss).length := by have := of_decide_eq_true h11; rw [hll] at this; omega
              have hw : IntKind.i64.wrap ((i : Int) + 1) = ((i + 1 : Nat) : Int) := wrap_nat (by omega)
              have hxi := allJ_get (List.getElem_mem hlt)
              have hsc := sameC_le (allJ fs ss) an bn i
              have hw2 : IntKind.i64.wrap ((sameC ((allJ fs ss).take i) an bn : Int) + 1) = ((sameC ((allJ fs ss).take i) an bn + 1 : Nat) : Int) := wrap_nat (by omega)
              conv => whnf
              refine ⟨[0, 1, 2, 3, 4, 5, 6, 7, 8, 9, 10, 11, 12, 13, 14], [], [], [], ⟨302231454903657293676543, [], []⟩, by decide +kernel, ?_⟩
              conv => whnf
              refine ⟨_, getI_lists hlt, ?_⟩
              conv => whnf
              refine ⟨_, getI_natsD (by omega), ?_⟩
              conv => whnf
              refine ⟨_, getI_lists hlt, ?_⟩
              conv => whnf
              refine ⟨_, getI_natsD (by omega), ?_⟩
              conv => whnf
              refine bcase_iff.2 ⟨fun h13 => ?_, fun h13 => ?_⟩
              · skip
                have q : ((allJ fs ss)[i].getD an 0 == (allJ fs ss)[i].getD bn 0) = true := by have g : ((((allJ fs ss)[i].getD an 0 : Nat) : Int) == (((allJ fs ss)[i].getD bn 0 : Nat) : Int)) = true := h13; rw [eqN] at g; exact g
                -- Z11:TT
                conv => whnf
                refine ⟨⟨14342, [], []⟩, ?_⟩
                conv => whnf
                rw [hw, hw2, ← sameC_T hlt q]
                exact hZ1 (i + 1) hlt (by omega)
              · skip
                have q : ((allJ fs ss)[i].getD an 0 == (allJ fs ss)[i].getD bn 0) = false := by have g : ((((allJ fs ss)[i].getD an 0 : Nat) : Int) == (((allJ fs ss)[i].getD bn 0 : Nat) : Int)) = false := h13; rw [eqN] at g; exact g
                -- Z11:TF
                conv => whnf
                refine ⟨⟨14342, [], []⟩, ?_⟩
                conv => whnf
                rw [hw, ← sameC_F hlt q]
                exact hZ1 (i + 1) hlt (by omega)
            · skip
              have hge : i = (allJ fs ss).length := by have := of_decide_eq_false h11; rw [hll] at this; omega
              rw [hge, List.take_length]
              conv => whnf
              refine bcase_iff.2 ⟨fun h15 => ?_, fun h15 => ?_⟩
              · skip
                have q1 : sameC (allJ fs ss) an bn = (allJ fs ss).length := by have g : (((sameC (allJ fs ss) an bn : Nat) : Int) == (((allJ fs ss).map natsV).length : Int)) = true := h15; rw [hll, eqN] at g; simpa using g
                -- R:abbaFFT
                conv => whnf
                rw [hR, if_pos q1]
              · skip
                have q1 : ¬ sameC (allJ fs ss) an bn = (allJ fs ss).length := by have g : (((sameC (allJ fs ss) an bn : Nat) : Int) == (((allJ fs ss).map natsV).length : Int)) = false := h15; rw [hll, eqN] at g; simpa using g
                conv => whnf
                refine bcase_iff.2 ⟨fun h17 => ?_, fun h17 => ?_⟩
                · skip
                  have q2 : sameC (allJ fs ss) an bn = 0 := by have g : (((sameC (allJ fs ss) an bn : Nat) : Int) == 0) = true := h17; simpa using g
                  -- R:abbaFFFT
                  conv => whnf
                  rw [hR, if_neg q1, if_pos q2]
                · skip
                  have q2 : ¬ sameC (allJ fs ss) an bn = 0 := by have g : (((sameC (allJ fs ss) an bn : Nat) : Int) == 0) = false := h17; simpa using g
                  -- R:abbaFFFF
                  conv => whnf
                  rw [hR, if_neg q1, if_neg q2]
        · skip
          have hR : shareR ts fs ss a b = (0, askE ts fs ss) := by unfold shareR; rw [if_neg (fun h => h hk), if_neg (by rw [qo]; simp), if_pos ha]
          conv => whnf
          refine bcase_iff.2 ⟨fun h6 => ?_, fun h6 => ?_⟩
          · skip
            -- R:abbbT
            conv => whnf
            rw [hR]
          · skip
            exfalso
            have g : (askE ts fs ss != 0) = false := h6
            exact ha (by simpa using g) --done
  · skip
    have hk : chE ts fs ss ≠ 0 := by show (chk ts fs ss).2.2 ≠ 0; rw [hq]; intro e; cases e
    have hR : shareR ts fs ss a b = (0, Int.ofNat (n + 1)) := by unfold shareR; rw [if_pos hk]; exact congrArg _ hq
    -- R:b
    conv => whnf
    rw [hR]
  · skip
    have hk : chE ts fs ss ≠ 0 := by show (chk ts fs ss).2.2 ≠ 0; rw [hq]; intro e; cases e
    have hR : shareR ts fs ss a b = (0, Int.negSucc n) := by unfold shareR; rw [if_pos hk]; exact congrArg _ hq
    -- R:c
    conv => whnf
    rw [hR]

theorem op33 : Opens PR 33 := ⟨_, Tryd.func33, rfl, rfl⟩


theorem few_len9 {ts : List ByteArray} {fs : Fms} {ss : Sgs} : (fewR ts fs ss).1.length ≤ 9223372036854775807 := by
  unfold fewR
  by_cases hk : askE ts fs ss = 0
  · rw [if_neg (fun h => h hk)]
    have hv := (ask_valid hk).job
    have h8 := hv.n8
    obtain ⟨x, u, hsk⟩ := skel_of hv.n0 h8 hv.s6 (ask_clash hk)
    have := hsk.few.way.len
    rw [hsk.eq, natsV_length]; dsimp only; omega
  · rw [if_pos hk]; simp
theorem proof_len9 {ts : List ByteArray} {fs : Fms} {ss : Sgs} : (proofR ts fs ss).1.length ≤ 9223372036854775807 := by
  unfold proofR
  by_cases hk : askE ts fs ss = 0
  · rw [if_neg (fun h => h hk)]
    have hv := (ask_valid hk).job
    have h8 := hv.n8
    have := asc_le (proof_find h8 hv.s6 (ask_clash hk)).2.2.asc
    rw [natsV_length]; omega
  · rw [if_pos hk]; simp

theorem c4 (ts : List ByteArray) (fs : List Fm) (ss : List Sg) (hL : LensJ ts fs ss) (a b : Int) : PCalls PR glT 4 [.agg [strsV ts, fmsV fs, sgsV ss], .agg [.arr (S := S) U.int 2 [a, b]]] fun r => r = vB true := by
  have hf9 := few_len9 (ts := ts) (fs := fs) (ss := ss)
  have hp9 := proof_len9 (ts := ts) (fs := fs) (ss := ss)
  refine fnW_sound (par_ok glT) Tryd.func4 ?_
  conv => whnf
  refine byC ((c28 ts fs ss hL)) op28 ?_
  conv => whnf
  refine byC (c29 glT ts fs ss hL) op29 ?_
  conv => whnf
  refine byC (c20 glT _ _ hf9) op20 ?_
  conv => whnf
  refine bcase_iff.2 ⟨fun g3_4 => ?_, fun g3_4 => ?_⟩
  · skip
    exact decX g3_4 --done
  · skip
    conv => whnf
    refine bcase_iff.2 ⟨fun g3_9 => ?_, fun g3_9 => ?_⟩
    · skip
      exact neqX g3_9 --done
    · skip
      conv => whnf
      refine bcase_iff.2 ⟨fun h3 => ?_, fun h3 => ?_⟩
      · skip
        exact neqX h3 --done
      · skip
        conv => whnf
        refine byC ((c30 ts fs ss hL)) op30 ?_
        conv => whnf
        refine byC (c31 glT ts fs ss hL) op31 ?_
        conv => whnf
        refine byC (c20 glT _ _ hp9) op20 ?_
        conv => whnf
        refine bcase_iff.2 ⟨fun g7_4 => ?_, fun g7_4 => ?_⟩
        · skip
          exact decX g7_4 --done
        · skip
          conv => whnf
          refine bcase_iff.2 ⟨fun h7 => ?_, fun h7 => ?_⟩
          · skip
            exact neqX h7 --done
          · skip
            conv => whnf
            refine ⟨by omega, by omega, ?_⟩
            conv => whnf
            refine ⟨_, rfl, ?_⟩
            conv => whnf
            refine ⟨by omega, by omega, ?_⟩
            conv => whnf
            refine ⟨_, rfl, ?_⟩
            conv => whnf
            refine byC ((c32 ts fs ss hL a b)) op32 ?_
            conv => whnf
            refine ⟨by omega, by omega, ?_⟩
            conv => whnf
            refine ⟨_, rfl, ?_⟩
            conv => whnf
            refine ⟨by omega, by omega, ?_⟩
            conv => whnf
            refine ⟨_, rfl, ?_⟩
            conv => whnf
            refine byC (c33 glT ts fs ss hL a b) op33 ?_
            conv => whnf
            refine bcase_iff.2 ⟨fun g11_3 => ?_, fun g11_3 => ?_⟩
            · skip
              conv => whnf
              refine bcase_iff.2 ⟨fun g11_8 => ?_, fun g11_8 => ?_⟩
              · skip
                conv => whnf
                refine byC ((c27)) op27 ?_
                -- R:FFFFFTT
                conv => whnf
                rfl
              · skip
                exact eqX g11_8 --done
            · skip
              exact eqX g11_3 --done

end Go.Ab.SkF
