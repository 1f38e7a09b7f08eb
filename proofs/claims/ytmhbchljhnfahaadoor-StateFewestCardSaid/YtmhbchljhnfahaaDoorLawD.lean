/-
  THE STATE FAMILY, PART OD: a forme with some of its copies; StateProof.
-/
import Derived.Test.YtmhbchljhnfahaaDoorLawB
import Derived.Test.YtmhbchljhnfahaaDoorPlainD
namespace Go.Ab.StF
open Go Go.Ab Go.Proofs
set_option maxHeartbeats 1000000
set_option maxRecDepth 100000

theorem only_lens {xs : List (ByteArray × Int)} {cs : List (ByteArray × List Int)} (hN : LensN xs cs) {l : List Nat} (hl : ∀ i ∈ l, i < cs.length) (h8 : l.length ≤ 100) : LensN xs (onlyL cs l) := by
  have hm : ∀ c ∈ onlyL cs l, c ∈ cs := fun c hc => by
    obtain ⟨i, hi, rfl⟩ := List.mem_map.1 hc
    rw [getD_e (hl i hi)]; exact List.getElem_mem _
  exact ⟨⟨hN.x, by simp only [onlyL, List.length_map]; omega, fun c hc => hN.s c (hm c hc)⟩, hN.nx, fun c hc => hN.nc c (hm c hc)⟩
theorem only_take {cs : List (ByteArray × List Int)} {l : List Nat} {i : Nat} (h : i < l.length) (hc : l[i] < cs.length) : onlyL cs (l.take (i + 1)) = onlyL cs (l.take i) ++ [cs[l[i]]] := by
  rw [take_succ' h]; unfold onlyL; rw [List.map_append, List.map_singleton, getD_e hc]
theorem asc_len8 {c : Nat} {l : List Nat} (h : Asc 0 c l) : l.length ≤ c := by
  have := List.Nodup.length_le_of_subset (l₂ := List.range c) (h.1.imp fun h => Nat.ne_of_lt h) fun x hx => List.mem_range.2 (h.2 x hx).2
  simpa using this
theorem natsV_len (l : List Nat) : (natsV l).length = l.length := by simp [natsV]
theorem natsV_get {l : List Nat} {k : Nat} (h : k < l.length) : (natsV l)[k]'(by simpa [natsV] using h) = ((l[k] : Nat) : Int) := by simp [natsV]

theorem c108 (gl : Gl) (xs : List (ByteArray × Int)) (cs : List (ByteArray × List Int)) (l : List Nat) (hl : ∀ i ∈ l, i < cs.length) (h8 : l.length ≤ 100) : PCalls PR gl 108 [.agg [lociV xs, copsV cs], vL (natsV l)] fun r => r = .agg [lociV xs, copsV (onlyL cs l)] := by
  have hnl := natsV_len l
  refine fnW_sound (par_ok gl) Tryd.func108 ?_
  conv => whnf
  refine ⟨⟨118, [], [5]⟩, ?_⟩
  refine LoopW_ind _ (fun i : Nat => (({ tmps := [.undef, vL (natsV l), .own 2 [], .undef, .own 4 [], .sl (S := S) U.copy (onlyL cs (l.take i)) (some 5), vI i, .undef, .undef, .undef, .undef, .undef, .undef, .undef, .undef, .undef, .undef, .undef, .undef, .undef, .undef, .undef, .undef, .undef, .undef, .undef, .undef], seg := [(2, .cells [lociV xs, copsV cs]), (4, .cells [.sl (S := S) U.locus [] (some 1004), .sl (S := S) U.copy [] (some 2004)]), (5, .row U.copy false), (1004, .row U.locus true), (2004, .row U.copy true)], up := [] } : St S))) (fun i : Nat => (i ≤ l.length)) (fun i : Nat => (l.length - i)) () ?_ 0 (Nat.zero_le _)
  intro i hi Z1 hZ1
  conv => whnf
  refine bcase_iff.2 ⟨fun h3 => ?_, fun h3 => ?_⟩
  · skip
    have hlt : i < l.length := by have := of_decide_eq_true h3; omega
    have hlc := hl _ (List.getElem_mem hlt)
    have hw : IntKind.i64.wrap ((i : Int) + 1) = ((i + 1 : Nat) : Int) := wrap_nat (by omega)
    conv => whnf
    refine ⟨[0, 1, 2, 3, 4, 5, 6, 7, 8, 9, 10, 11], [9], [], [], ⟨134217727, [], []⟩, by decide +kernel, ?_⟩
    conv => whnf
    refine ⟨_, getI_nat (show i < (natsV l).length by omega), ?_⟩
    conv => whnf
    refine ⟨_, getI_at (natsV_get hlt) hlc, ?_⟩
    conv => whnf
    refine ⟨_, rfl, ?_⟩
    conv => whnf
    refine ⟨lim (by show (onlyL cs (l.take i)).length + 1 ≤ _; simp only [onlyL, List.length_map, List.length_take]; omega), ?_⟩
    -- Z3:T
    conv => whnf
    refine ⟨⟨118, [22, 23], []⟩, ?_⟩
    conv => whnf
    rw [hw]
    have := hZ1 (i + 1) hlt (by omega)
    rw [only_take hlt hlc] at this
    exact this
  · skip
    have hge : i = l.length := by have := of_decide_eq_false h3; omega
    -- R:F
    conv => whnf
    rw [hge, List.take_length]

theorem op108 : Opens PR 108 := ⟨_, Tryd.func108, rfl, rfl⟩

theorem c57 (gl : Gl) (xs : List (ByteArray × Int)) (cs : List (ByteArray × List Int)) (hN : LensN xs cs) (hc : (chk xs cs).2.2 = 0) (ys : List Int) (l : List Nat) (e : ys = natsV l) (ha : Asc 0 cs.length l) : PCalls PR gl 57 [.agg [lociV xs, copsV cs], vL ys] fun r => r = vB (agrsB xs cs l) := by
  subst e
  have hv := chk_valid hc
  have hc8 := hv.c8
  have hnl := natsV_len l
  have hl8 := asc_len8 ha
  have hli : ∀ i ∈ l, i < cs.length := fun i hi => (ha.2 i hi).2
  refine fnW_sound (par_ok gl) Tryd.func57 ?_
  conv => whnf
  refine bcase_iff.2 ⟨fun h1 => ?_, fun h1 => ?_⟩
  · skip
    have h0 : l = [] := List.eq_nil_of_length_eq_zero (by have := beq_iff_eq.1 h1; omega)
    -- R:T
    conv => whnf
    rw [h0, agrs_nil hc]
  · skip
    have h0 : l ≠ [] := fun h => by have := beq_eq_false_iff_ne.1 h1; rw [h] at this; exact this rfl
    conv => whnf
    refine byC (c108 gl xs cs l hli (by omega)) op108 ?_
    conv => whnf
    refine byC (to (c21 gl xs (onlyL cs l) (only_lens hN hli (by omega)).toLens) (by rw [first_eq])) op21 ?_
    -- R:F
    conv => whnf
    rw [← only_first hc ha h0]

theorem op57 : Opens PR 57 := ⟨_, Tryd.func57, rfl, rfl⟩


end Go.Ab.StF
