/-
  THE SKELETON FAMILY, PART PU: how many stand, and how many presses there are: plain.
  THE SKELETON FAMILY, PART LG: the law SkelStanding.
-/
import Derived.Test.YtfhippofplmpdaaDoorLawC
namespace Go.Ab.SkF
open Go Go.Ab Go.Ab.Pln

theorem st_meets {fs : Fms} {i k : Nat} (hne : i ≠ k) (h : meets (setOf fs) (offOf fs) i k) : stN fs i k = true := by
  unfold stN stB
  unfold meets setOf offOf at h
  rw [Bool.and_eq_true, Bool.and_eq_true]
  exact ⟨by simpa using hne, by simpa using h.1, by simpa using h.2⟩
theorem pr_meets {fs : Fms} {i k : Nat} (hne : i ≠ k) (h : meets (onOf fs) (offOf fs) i k) : prN fs i k = true := by
  unfold prN prB
  unfold meets onOf offOf at h
  rw [Bool.and_eq_true, Bool.and_eq_true]
  exact ⟨by simpa using hne, by simpa using h.1, by simpa using h.2⟩
theorem meets_st {fs : Fms} {i k : Nat} (h : stN fs i k = true) : meets (setOf fs) (offOf fs) i k := by
  unfold stN stB at h
  unfold meets setOf offOf
  rw [Bool.and_eq_true, Bool.and_eq_true] at h
  exact ⟨by simpa using h.2.1, by simpa using h.2.2⟩
theorem meets_pr {fs : Fms} {i k : Nat} (h : prN fs i k = true) : meets (onOf fs) (offOf fs) i k := by
  unfold prN prB at h
  unfold meets onOf offOf
  rw [Bool.and_eq_true, Bool.and_eq_true] at h
  exact ⟨by simpa using h.2.1, by simpa using h.2.2⟩
theorem stand_le {fs : Fms} {ss : Sgs} {x : List Nat} {u : Nat} (h : Skel fs ss x u) (d : Int) : (onL fs d).length ≤ u :=
  span_least (c := fun i => x.getD i 0) h.lt (fun i k hi hk hne hm => h.fits.diff i k hi hk (st_meets hne hm)) d
theorem job_days {nt : Nat} {fs : Fms} {ss : Sgs} (hj : Job nt fs ss) {i : Nat} (hi : i < fs.length) : 0 ≤ setOf fs i ∧ setOf fs i ≤ onOf fs i ∧ onOf fs i ≤ offOf fs i ∧ offOf fs i ≤ 60 := by
  unfold setOf onOf offOf
  rw [getD_at hi]
  exact hj.f _ (List.getElem_mem hi)
theorem stand_ge {nt : Nat} {fs : Fms} {x : List Nat} {u : Nat} (hj : Job nt fs []) (h : Skel fs [] x u) : u ≤ (onL fs (bestD fs 60)).length := by
  obtain ⟨c, h1, h2⟩ := span_fit (lo := setOf fs) (hi := offOf fs) (n := fs.length) (K := (onL fs (bestD fs 60)).length) (fun i hi => by have := job_days hj hi; omega) fun i hi => by
    have hd := job_days hj hi
    have := (bestD_spec fs 60).2.1 (setOf fs i).toNat (by omega)
    rw [show (((setOf fs i).toNat : Nat) : Int) = setOf fs i by omega] at this
    exact this
  refine h.least c ⟨fun i k _ _ hc => ?_, fun i k hi hk hs => h2 i k hi hk (stN_self hs) (meets_st hs)⟩ _ h1
  obtain ⟨t, ⟨s, hs, _⟩, _⟩ := hc
  cases hs
/-- The greatest of some numbers. -/
def maxU (f : Nat → Nat) : Nat → Nat
  | 0 => 0
  | t + 1 => max (maxU f t) (f t)
theorem maxU_le {f : Nat → Nat} {n t : Nat} (h : t < n) : f t ≤ maxU f n := by
  induction n with
  | zero => omega
  | succ n ih =>
    unfold maxU
    rcases Nat.lt_or_ge t n with h' | h'
    · have := ih h'; omega
    · obtain rfl : t = n := by omega
      omega
theorem maxU_all {f : Nat → Nat} {K : Nat} (h : ∀ t, f t ≤ K) : ∀ n, maxU f n ≤ K
  | 0 => Nat.zero_le _
  | n + 1 => by unfold maxU; have := maxU_all h n; have := h n; omega
/-- How many formes are printed on a day. -/
def prC (fs : Fms) (t : Nat) : Nat := (onP (onOf fs) (offOf fs) fs.length t).length
def prU (fs : Fms) (t i : Nat) : Nat := (onP (onOf fs) (offOf fs) i t).length
theorem prU_le (fs : Fms) (t i : Nat) : prU fs t i ≤ i := by
  unfold prU onP
  have := List.length_filter_le (fun k => decide (onOf fs k ≤ (t : Int)) && decide ((t : Int) ≤ offOf fs k)) (List.range i)
  rw [List.length_range] at this
  exact this
theorem prU_T {fs : Fms} {t i : Nat} (h1 : onOf fs i ≤ t) (h2 : (t : Int) ≤ offOf fs i) : prU fs t (i + 1) = prU fs t i + 1 := by
  unfold prU onP
  rw [List.range_succ, List.filter_append, List.length_append, filt1_T (p := fun k => decide (onOf fs k ≤ (t : Int)) && decide ((t : Int) ≤ offOf fs k)) (by simp [h1, h2])]; rfl
theorem prU_F {fs : Fms} {t i : Nat} (h : ¬ (onOf fs i ≤ t ∧ (t : Int) ≤ offOf fs i)) : prU fs t (i + 1) = prU fs t i := by
  unfold prU onP
  rw [List.range_succ, List.filter_append, List.length_append, filt1_F (p := fun k => decide (onOf fs k ≤ (t : Int)) && decide ((t : Int) ≤ offOf fs k)) (by
    rw [Bool.and_eq_false_iff, decide_eq_false_iff_not, decide_eq_false_iff_not]
    exact Classical.not_and_iff_not_or_not.1 h)]; rfl
theorem press_diff {fs : Fms} {x : List Nat} {u : Nat} (h : Few aloneB (prN fs) fs.length x u) {i k : Nat} (hi : i < fs.length) (hk : k < fs.length) (hp : prN fs i k = true) : x.getD i 0 ≠ x.getD k 0 := by
  have hne : i ≠ k := by intro e; unfold prN at hp; rw [e] at hp; simp at hp
  rcases Nat.lt_or_ge i k with hik | hik
  · exact h.way.fit.diff k i hik hk (by rw [prN_symm]; exact hp)
  · exact fun e => h.way.fit.diff i k (by omega) hi hp e.symm
theorem press_max {nt : Nat} {fs : Fms} {ss : Sgs} (hj : Job nt fs ss) {x : List Nat} {u : Nat} (h : Few aloneB (prN fs) fs.length x u) : u = maxU (prC fs) 61 := by
  apply Nat.le_antisymm
  · obtain ⟨c, h1, h2⟩ := span_fit (lo := onOf fs) (hi := offOf fs) (n := fs.length) (K := maxU (prC fs) 61) (fun i hi => by have := job_days hj hi; omega) fun i hi => by
      have hd := job_days hj hi
      have := maxU_le (f := prC fs) (n := 61) (t := (onOf fs i).toNat) (by omega)
      unfold prC at this
      rw [show (((onOf fs i).toNat : Nat) : Int) = onOf fs i by omega] at this
      exact this
    refine h.least c ⟨fun i k hk hi hg => ?_, fun i k hk hi hm => h2 k i (by omega) hi (by omega) (meets_pr (by rw [prN_symm]; exact hm))⟩ _ h1
    unfold aloneB at hg; simp at hg; omega
  · refine maxU_all (fun t => ?_) 61
    exact span_least (c := fun i => x.getD i 0) h.way.lt (fun i k hi hk hne hm => press_diff h hi hk (pr_meets hne hm)) t
theorem max_int (a b : Nat) : (if (b : Int) > (a : Int) then (b : Int) else (a : Int)) = ((max a b : Nat) : Int) := by
  split <;> omega
theorem pressR_ok {ts : List ByteArray} {fs : Fms} {ss : Sgs} (hk : chE ts fs ss = 0) {x : List Nat} {u : Nat} (h : Few aloneB (prN fs) fs.length x u) : pressR ts fs ss = (natsV x, (u : Int), 0) := by unfold pressR pressJ; rw [if_neg (fun g => g hk), h.eq]
theorem pressR_no {ts : List ByteArray} {fs : Fms} {ss : Sgs} {e : Int} (he : e ≠ 0) (hk : chE ts fs ss = e) : pressR ts fs ss = ([], 0, e) := by unfold pressR; rw [hk, if_pos he]
theorem standR_ok {ts : List ByteArray} {fs : Fms} {ss : Sgs} (hk : chE ts fs ss = 0) : standR ts fs ss = ((bestD fs 60 : Int), natsV (onL fs (bestD fs 60)), 0) := by unfold standR; rw [if_neg (fun g => g hk)]
theorem standR_no {ts : List ByteArray} {fs : Fms} {ss : Sgs} {e : Int} (he : e ≠ 0) (hk : chE ts fs ss = e) : standR ts fs ss = (0, [], e) := by unfold standR; rw [hk, if_pos he]
end Go.Ab.SkF

namespace Go.Ab.SkF
open Go Go.Ab Go.Ab.Pln Go.Proofs
set_option maxHeartbeats 1000000
set_option maxRecDepth 100000

theorem c11 (ts : List ByteArray) (fs : List Fm) (ss : List Sg) (hL : LensJ ts fs ss) (day : Int) (hday : 0 ≤ day ∧ day ≤ 255) : PCalls PR glT 11 [.agg [strsV ts, fmsV fs, sgsV ss], .int .u8 day] fun r => r = vB true := by
  have hm61 : (IntKind.i64.wrap day).tmod 61 = ((day.toNat % 61 : Nat) : Int) := mod_byte hday 61
  have ht61 : day.toNat % 61 < 61 := Nat.mod_lt _ (by decide)
  generalize hT : day.toNat % 61 = T at hm61 ht61
  refine fnW_sound (par_ok glT) Tryd.func11 ?_
  conv => whnf
  have h28 := c28 ts fs ss hL
  rcases job3 ts fs ss with ⟨e, he0, hk, hR⟩ | ⟨hk, p, q, hJ, hR⟩ | ⟨hk, hJ, x, u, hsk, hR⟩
  all_goals rw [hR] at h28
  · skip
    have h41 := c41f glT ts fs ss hL (by rw [hk]; exact he0)
    have h36 := c36 ts fs ss hL
    rw [pressR_no he0 hk] at h36
    have h38 := c38 glT ts fs ss hL
    rw [standR_no he0 hk] at h38
    refine byC h38 op38 ?_
    conv => whnf
    refine byC h36 op36 ?_
    conv => whnf
    refine byC h41 op41 ?_
    conv => whnf
    refine bcase_iff.2 ⟨fun g4_2 => ?_, fun g4_2 => ?_⟩
    · skip
      conv => whnf
      refine bcase_iff.2 ⟨fun g4_7 => ?_, fun g4_7 => ?_⟩
      · skip
        conv => whnf
        refine byC ((c27)) op27 ?_
        -- R:aTT
        conv => whnf
        rfl
      · skip
        exact eqX g4_7 --done
    · skip
      exfalso
      have g : (e != 0) = false := g4_2
      exact he0 (by simpa using g) --done
  · skip
    have hV := chk_valid.1 hk
    have hv := hV.job
    have h8 := hv.n8
    have hs6 := hv.s6
    have hf7 := hV.n7
    have h12 := hV.s12
    have h41 := c41t glT ts fs ss hL hk
    obtain ⟨y, w, hF⟩ := press_few hv.n0
    have hyl := hF.way.len
    have hyn := natsV_length y
    have hym : manyL y = w := by rw [way_many hF.way, hF.top]
    have hwl := hF.le
    have hmx := press_max hv hF
    have h36 := c36 ts fs ss hL
    rw [pressR_ok hk hF] at h36
    have h38 := c38 glT ts fs ss hL
    rw [standR_ok hk] at h38
    obtain ⟨hb60, hball, hbbef⟩ := bestD_spec fs 60
    have hol := onL_len fs (bestD fs 60)
    have hon := natsV_length (onL fs (bestD fs 60))
    generalize hD : bestD fs 60 = D at *
    refine byC h38 op38 ?_
    conv => whnf
    refine byC h36 op36 ?_
    conv => whnf
    refine byC h41 op41 ?_
    conv => whnf
    refine byC (c52 glT ts fs ss (by omega) D) op52 ?_
    conv => whnf
    refine byC (c20 glT _ _ (by rw [hon]; omega)) op20 ?_
    conv => whnf
    refine bcase_iff.2 ⟨fun g5_14 => ?_, fun g5_14 => ?_⟩
    · skip
      exact decX g5_14 --done
    · skip
      conv => whnf
      refine bcase_iff.2 ⟨fun g5_22 => ?_, fun g5_22 => ?_⟩
      · skip
        exfalso
        have g : (((natsV y).length : Int) != (fs.length : Int)) = true := g5_22
        rw [hyn, hyl] at g; simp at g --done
      · skip
        conv => whnf
        refine byC (c44 glT y (by omega)) op44 ?_
        conv => whnf
        rw [hym]
        conv => whnf
        refine bcase_iff.2 ⟨fun h5 => ?_, fun h5 => ?_⟩
        · skip
          exact neqX h5 --done
        · skip
          conv => whnf
          refine ⟨by decide, ?_⟩
          conv => whnf
          rw [hm61]
          conv => whnf
          refine byC (c52 glT ts fs ss (by omega) T) op52 ?_
          conv => whnf
          refine bcase_iff.2 ⟨fun g8_7 => ?_, fun g8_7 => ?_⟩
          · skip
            exfalso
            have g := of_decide_eq_true g8_7
            rw [natsV_length, natsV_length] at g
            have := hball T (by omega); omega --done
          · skip
            conv => whnf
            refine bcase_iff.2 ⟨fun g8_11 => ?_, fun g8_11 => ?_⟩
            · skip
              have g1 : decide ((T : Int) < (D : Int)) = true := g8_11
              have g1 := of_decide_eq_true g1
              have hlb := hbbef T (by omega)
              conv => whnf
              refine byC (c52 glT ts fs ss (by omega) T) op52 ?_
              conv => whnf
              refine bcase_iff.2 ⟨fun h88 => ?_, fun h88 => ?_⟩
              · skip
                exfalso
                have g : (((natsV (onL fs (T : Int))).length : Int) == ((natsV (onL fs (D : Int))).length : Int)) = true := h88
                rw [natsV_length, natsV_length] at g
                have g := eN g; simp at g; omega --done
              · skip
                conv => whnf
                refine byC h28 op28 ?_
                conv => whnf
                refine loop_q fun Q1 hQ1 => ?_
                refine ⟨⟨99076, [], []⟩, ?_⟩
                refine LoopW_ind _ (fun t : Nat => (({ tmps := [.undef, .undef, .own 2 [], .undef, .undef, .undef, .undef, .undef, vL (natsV y), vI w, .undef, .undef, .undef, .undef, .undef, vI (maxU (prC fs) t), vI t, .undef, .undef, .undef, .undef, .undef, .undef, .undef, .undef, .undef, .undef, .undef, .undef, .undef, .undef, .undef, .undef, .undef, .undef, .undef, .undef, .undef, .undef, .undef, .undef, .undef, .undef, .undef, .undef, .undef, .undef, .undef, .undef, .undef, .undef, .undef, .undef, .undef, .undef, .undef, .undef, .undef, .undef, .undef, .undef, .undef, .undef, .undef, .undef, .undef, .undef, .undef, .undef, .undef, .undef, .undef, .undef, .undef, .undef, .undef, .undef, .undef, .undef, .undef, .undef, .undef, .undef, .undef, .undef, .undef, .undef, .undef, .undef, .undef, .undef, .undef, .undef, .undef, .undef, .undef, .undef, .undef, .undef, .undef, .undef, .undef, .undef, .undef, .undef, .undef, .undef, .undef, .undef, .undef, .undef, .undef, .undef, .undef, .undef, .undef, .undef, .undef, .undef, .undef, .undef, .undef, .undef, .undef, .undef, .undef, .undef, .undef, .undef, .undef, .undef, .undef, .undef, .undef, .undef, .undef, .undef, .undef, .undef, .undef, .undef, .undef, .undef, .undef, .undef, .undef, .undef, .undef, .undef, .undef, .undef, .undef, .undef, .undef, .undef, .undef, .undef, .undef, .undef, .undef, .undef, .undef, .undef, .undef, .undef, .undef, .undef, .undef, .undef, .undef, .undef, .undef, .undef, .undef, .undef, .undef, .undef, .undef, .undef, .undef, .undef, .undef, .undef, .undef, .undef, .undef, .undef, .undef, .undef, .undef, .undef, .undef, .undef, .undef, .undef, .undef, .undef, .undef, .undef, .undef, .undef, .undef, .undef, .undef, .undef, .undef, .undef, .undef, .undef, .undef, .undef, .undef, .undef], seg := [(2, .cells [strsV ts, fmsV fs, sgsV ss])], up := [] } : St S))) (fun t : Nat => (t ≤ 61)) (fun t : Nat => (61 - t)) () ?_ 0 (Nat.zero_le _)
                intro t ht Z1 hZ1
                conv => whnf
                refine bcase_iff.2 ⟨fun h15 => ?_, fun h15 => ?_⟩
                · skip
                  have hltt : t ≤ 60 := by have := of_decide_eq_true h15; omega
                  have hwt : IntKind.i64.wrap ((t : Int) + 1) = ((t + 1 : Nat) : Int) := wrap_nat (by omega)
                  conv => whnf
                  refine loop_q fun Q2 hQ2 => ?_
                  refine ⟨⟨492292, [], []⟩, ?_⟩
                  refine LoopW_ind _ (fun i : Nat => (({ tmps := [.undef, .undef, .own 2 [], .undef, .undef, .undef, .undef, .undef, vL (natsV y), vI w, .undef, .undef, .undef, .undef, .undef, vI (maxU (prC fs) t), vI t, vI (prU fs t i), vI i, .undef, .undef, .undef, .undef, .undef, .undef, .undef, .undef, .undef, .undef, .undef, .undef, .undef, .undef, .undef, .undef, .undef, .undef, .undef, .undef, .undef, .undef, .undef, .undef, .undef, .undef, .undef, .undef, .undef, .undef, .undef, .undef, .undef, .undef, .undef, .undef, .undef, .undef, .undef, .undef, .undef, .undef, .undef, .undef, .undef, .undef, .undef, .undef, .undef, .undef, .undef, .undef, .undef, .undef, .undef, .undef, .undef, .undef, .undef, .undef, .undef, .undef, .undef, .undef, .undef, .undef, .undef, .undef, .undef, .undef, .undef, .undef, .undef, .undef, .undef, .undef, .undef, .undef, .undef, .undef, .undef, .undef, .undef, .undef, .undef, .undef, .undef, .undef, .undef, .undef, .undef, .undef, .undef, .undef, .undef, .undef, .undef, .undef, .undef, .undef, .undef, .undef, .undef, .undef, .undef, .undef, .undef, .undef, .undef, .undef, .undef, .undef, .undef, .undef, .undef, .undef, .undef, .undef, .undef, .undef, .undef, .undef, .undef, .undef, .undef, .undef, .undef, .undef, .undef, .undef, .undef, .undef, .undef, .undef, .undef, .undef, .undef, .undef, .undef, .undef, .undef, .undef, .undef, .undef, .undef, .undef, .undef, .undef, .undef, .undef, .undef, .undef, .undef, .undef, .undef, .undef, .undef, .undef, .undef, .undef, .undef, .undef, .undef, .undef, .undef, .undef, .undef, .undef, .undef, .undef, .undef, .undef, .undef, .undef, .undef, .undef, .undef, .undef, .undef, .undef, .undef, .undef, .undef, .undef, .undef, .undef, .undef, .undef, .undef, .undef, .undef, .undef, .undef, .undef], seg := [(2, .cells [strsV ts, fmsV fs, sgsV ss])], up := [] } : St S))) (fun i : Nat => (i ≤ fs.length)) (fun i : Nat => (fs.length - i)) () ?_ 0 (Nat.zero_le _)
                  intro i hi Z2 hZ2
                  conv => whnf
                  refine bcase_iff.2 ⟨fun h19 => ?_, fun h19 => ?_⟩
                  · skip
                    have hlt : i < fs.length := by have := of_decide_eq_true h19; omega
                    have hw : IntKind.i64.wrap ((i : Int) + 1) = ((i + 1 : Nat) : Int) := wrap_nat (by omega)
                    conv => whnf
                    refine ⟨_, getI_nat hlt, ?_⟩
                    conv => whnf
                    refine bcase_iff.2 ⟨fun g21_8 => ?_, fun g21_8 => ?_⟩
                    · skip
                      have q1 : onOf fs i ≤ t := by unfold onOf; rw [getD_at hlt]; exact of_decide_eq_true g21_8
                      conv => whnf
                      refine ⟨_, getI_nat hlt, ?_⟩
                      conv => whnf
                      refine bcase_iff.2 ⟨fun h21 => ?_, fun h21 => ?_⟩
                      · skip
                        have q2 : (t : Int) ≤ offOf fs i := by unfold offOf; rw [getD_at hlt]; exact of_decide_eq_true h21
                        have hpu := prU_le fs t i
                        have hwp : IntKind.i64.wrap ((prU fs t i : Int) + 1) = ((prU fs t i + 1 : Nat) : Int) := wrap_nat (by omega)
                        -- Z19:TTT
                        conv => whnf
                        refine ⟨⟨492292, [], []⟩, ?_⟩
                        conv => whnf
                        rw [hw, hwp, ← prU_T q1 q2]
                        exact hZ2 (i + 1) hlt (by omega)
                      · skip
                        have q2 : ¬ (t : Int) ≤ offOf fs i := by unfold offOf; rw [getD_at hlt]; exact of_decide_eq_false h21
                        -- Z19:TTF
                        conv => whnf
                        refine ⟨⟨492292, [], []⟩, ?_⟩
                        conv => whnf
                        rw [hw, ← prU_F (fun h => q2 h.2)]
                        exact hZ2 (i + 1) hlt (by omega)
                    · skip
                      have q1 : ¬ onOf fs i ≤ t := by unfold onOf; rw [getD_at hlt]; exact of_decide_eq_false g21_8
                      -- Z19:TF
                      conv => whnf
                      refine ⟨⟨492292, [], []⟩, ?_⟩
                      conv => whnf
                      rw [hw, ← prU_F (fun h => q1 h.1)]
                      exact hZ2 (i + 1) hlt (by omega)
                  · skip
                    have hge : i = fs.length := by have := of_decide_eq_false h19; omega
                    conv => whnf
                    refine (hQ2 _ _ _).mpr ?_
                    -- Z15:TF
                    conv => whnf
                    refine ⟨⟨99076, [], []⟩, ?_⟩
                    conv => whnf
                    rw [hwt, max_int, hge]
                    exact hZ1 (t + 1) (by omega) (by omega)
                · skip
                  have hget : t = 61 := by have := of_decide_eq_false h15; omega
                  subst hget
                  conv => whnf
                  refine (hQ1 _ _ _).mpr ?_
                  conv => whnf
                  refine loop_q fun Q2 hQ2 => ?_
                  refine ⟨⟨557828, [], []⟩, ?_⟩
                  refine LoopW_ind _ (fun i : Nat => (({ tmps := [.undef, .undef, .own 2 [], .undef, .undef, .undef, .undef, .undef, vL (natsV y), vI w, .undef, .undef, .undef, .undef, .undef, vI (maxU (prC fs) 61), .undef, .undef, .undef, vI i, .undef, .undef, .undef, .undef, .undef, .undef, .undef, .undef, .undef, .undef, .undef, .undef, .undef, .undef, .undef, .undef, .undef, .undef, .undef, .undef, .undef, .undef, .undef, .undef, .undef, .undef, .undef, .undef, .undef, .undef, .undef, .undef, .undef, .undef, .undef, .undef, .undef, .undef, .undef, .undef, .undef, .undef, .undef, .undef, .undef, .undef, .undef, .undef, .undef, .undef, .undef, .undef, .undef, .undef, .undef, .undef, .undef, .undef, .undef, .undef, .undef, .undef, .undef, .undef, .undef, .undef, .undef, .undef, .undef, .undef, .undef, .undef, .undef, .undef, .undef, .undef, .undef, .undef, .undef, .undef, .undef, .undef, .undef, .undef, .undef, .undef, .undef, .undef, .undef, .undef, .undef, .undef, .undef, .undef, .undef, .undef, .undef, .undef, .undef, .undef, .undef, .undef, .undef, .undef, .undef, .undef, .undef, .undef, .undef, .undef, .undef, .undef, .undef, .undef, .undef, .undef, .undef, .undef, .undef, .undef, .undef, .undef, .undef, .undef, .undef, .undef, .undef, .undef, .undef, .undef, .undef, .undef, .undef, .undef, .undef, .undef, .undef, .undef, .undef, .undef, .undef, .undef, .undef, .undef, .undef, .undef, .undef, .undef, .undef, .undef, .undef, .undef, .undef, .undef, .undef, .undef, .undef, .undef, .undef, .undef, .undef, .undef, .undef, .undef, .undef, .undef, .undef, .undef, .undef, .undef, .undef, .undef, .undef, .undef, .undef, .undef, .undef, .undef, .undef, .undef, .undef, .undef, .undef, .undef, .undef, .undef, .undef, .undef, .undef, .undef, .undef, .undef, .undef], seg := [(2, .cells [strsV ts, fmsV fs, sgsV ss])], up := [] } : St S))) (fun i : Nat => (i ≤ fs.length)) (fun i : Nat => (fs.length - i)) () ?_ 0 (Nat.zero_le _)
                  intro i hi Z2 hZ2
                  conv => whnf
                  refine bcase_iff.2 ⟨fun h25 => ?_, fun h25 => ?_⟩
                  · skip
                    have hlt : i < fs.length := by have := of_decide_eq_true h25; rw [hyn] at this; omega
                    have hw : IntKind.i64.wrap ((i : Int) + 1) = ((i + 1 : Nat) : Int) := wrap_nat (by omega)
                    conv => whnf
                    refine loop_q fun Q3 hQ3 => ?_
                    refine ⟨⟨1606404, [], []⟩, ?_⟩
                    refine LoopW_ind _ (fun k : Nat => (({ tmps := [.undef, .undef, .own 2 [], .undef, .undef, .undef, .undef, .undef, vL (natsV y), vI w, .undef, .undef, .undef, .undef, .undef, vI (maxU (prC fs) 61), .undef, .undef, .undef, vI i, vI k, .undef, .undef, .undef, .undef, .undef, .undef, .undef, .undef, .undef, .undef, .undef, .undef, .undef, .undef, .undef, .undef, .undef, .undef, .undef, .undef, .undef, .undef, .undef, .undef, .undef, .undef, .undef, .undef, .undef, .undef, .undef, .undef, .undef, .undef, .undef, .undef, .undef, .undef, .undef, .undef, .undef, .undef, .undef, .undef, .undef, .undef, .undef, .undef, .undef, .undef, .undef, .undef, .undef, .undef, .undef, .undef, .undef, .undef, .undef, .undef, .undef, .undef, .undef, .undef, .undef, .undef, .undef, .undef, .undef, .undef, .undef, .undef, .undef, .undef, .undef, .undef, .undef, .undef, .undef, .undef, .undef, .undef, .undef, .undef, .undef, .undef, .undef, .undef, .undef, .undef, .undef, .undef, .undef, .undef, .undef, .undef, .undef, .undef, .undef, .undef, .undef, .undef, .undef, .undef, .undef, .undef, .undef, .undef, .undef, .undef, .undef, .undef, .undef, .undef, .undef, .undef, .undef, .undef, .undef, .undef, .undef, .undef, .undef, .undef, .undef, .undef, .undef, .undef, .undef, .undef, .undef, .undef, .undef, .undef, .undef, .undef, .undef, .undef, .undef, .undef, .undef, .undef, .undef, .undef, .undef, .undef, .undef, .undef, .undef, .undef, .undef, .undef, .undef, .undef, .undef, .undef, .undef, .undef, .undef, .undef, .undef, .undef, .undef, .undef, .undef, .undef, .undef, .undef, .undef, .undef, .undef, .undef, .undef, .undef, .undef, .undef, .undef, .undef, .undef, .undef, .undef, .undef, .undef, .undef, .undef, .undef, .undef, .undef, .undef, .undef, .undef, .undef], seg := [(2, .cells [strsV ts, fmsV fs, sgsV ss])], up := [] } : St S))) (fun k : Nat => (k ≤ i)) (fun k : Nat => (i - k)) () ?_ 0 (Nat.zero_le _)
                    intro k hki Z3 hZ3
                    conv => whnf
                    refine bcase_iff.2 ⟨fun h28x => ?_, fun h28x => ?_⟩
                    · skip
                      have hltk : k < i := by have := of_decide_eq_true h28x; omega
                      have hwk : IntKind.i64.wrap ((k : Int) + 1) = ((k + 1 : Nat) : Int) := wrap_nat (by omega)
                      have hkf : k < fs.length := by omega
                      conv => whnf
                      refine ⟨[0, 1, 2, 3, 4, 5, 6, 7, 8, 9, 10, 11, 12, 13, 14, 15, 16, 17, 18, 19, 20, 21], [], [], [], ⟨13164036458569648337239753460458804039861886925068638906788872191, [], []⟩, by decide +kernel, ?_⟩
                      conv => whnf
                      refine ⟨_, getI_natsD (by omega), ?_⟩
                      conv => whnf
                      refine ⟨_, getI_natsD (by omega), ?_⟩
                      conv => whnf
                      refine bcase_iff.2 ⟨fun g30_9 => ?_, fun g30_9 => ?_⟩
                      · skip
                        have q1 : (y.getD i 0 == y.getD k 0) = true := eN g30_9
                        conv => whnf
                        refine ⟨_, getI_nat hlt, ?_⟩
                        conv => whnf
                        refine ⟨_, getI_nat hkf, ?_⟩
                        conv => whnf
                        refine byC (c53 glT fs[i] fs[k]) op53 ?_
                        conv => whnf
                        refine bcase_iff.2 ⟨fun h30 => ?_, fun h30 => ?_⟩
                        · skip
                          exfalso
                          have g : prB fs[i] fs[k] = true := h30
                          exact press_diff hF hlt hkf (by unfold prN; rw [getD_at hlt, getD_at hkf, g, Bool.and_true]; simpa using (show i ≠ k by omega)) (by simpa using q1) --done
                        · skip
                          -- Z28:TTF
                          conv => whnf
                          refine ⟨⟨1606404, [], []⟩, ?_⟩
                          conv => whnf
                          rw [hwk]
                          exact hZ3 (k + 1) hltk (by omega)
                      · skip
                        -- Z28:TF
                        conv => whnf
                        refine ⟨⟨1606404, [], []⟩, ?_⟩
                        conv => whnf
                        rw [hwk]
                        exact hZ3 (k + 1) hltk (by omega)
                    · skip
                      conv => whnf
                      refine (hQ3 _ _ _).mpr ?_
                      -- Z25:TF
                      conv => whnf
                      refine ⟨⟨557828, [], []⟩, ?_⟩
                      conv => whnf
                      rw [hw]
                      exact hZ2 (i + 1) hlt (by omega)
                  · skip
                    conv => whnf
                    refine (hQ2 _ _ _).mpr ?_
                    conv => whnf
                    refine bcase_iff.2 ⟨fun g32_3 => ?_, fun g32_3 => ?_⟩
                    · skip
                      conv => whnf
                      refine byC ((c27)) op27 ?_
                      -- R:bFFFFTFFFT
                      conv => whnf
                      rfl
                    · skip
                      exfalso
                      have g := eN g32_3
                      rw [← hmx] at g; simp at g --done
            · skip
              conv => whnf
              refine byC h28 op28 ?_
              conv => whnf
              refine loop_q fun Q1 hQ1 => ?_
              refine ⟨⟨99076, [], []⟩, ?_⟩
              refine LoopW_ind _ (fun t : Nat => (({ tmps := [.undef, .undef, .own 2 [], .undef, .undef, .undef, .undef, .undef, vL (natsV y), vI w, .undef, .undef, .undef, .undef, .undef, vI (maxU (prC fs) t), vI t, .undef, .undef, .undef, .undef, .undef, .undef, .undef, .undef, .undef, .undef, .undef, .undef, .undef, .undef, .undef, .undef, .undef, .undef, .undef, .undef, .undef, .undef, .undef, .undef, .undef, .undef, .undef, .undef, .undef, .undef, .undef, .undef, .undef, .undef, .undef, .undef, .undef, .undef, .undef, .undef, .undef, .undef, .undef, .undef, .undef, .undef, .undef, .undef, .undef, .undef, .undef, .undef, .undef, .undef, .undef, .undef, .undef, .undef, .undef, .undef, .undef, .undef, .undef, .undef, .undef, .undef, .undef, .undef, .undef, .undef, .undef, .undef, .undef, .undef, .undef, .undef, .undef, .undef, .undef, .undef, .undef, .undef, .undef, .undef, .undef, .undef, .undef, .undef, .undef, .undef, .undef, .undef, .undef, .undef, .undef, .undef, .undef, .undef, .undef, .undef, .undef, .undef, .undef, .undef, .undef, .undef, .undef, .undef, .undef, .undef, .undef, .undef, .undef, .undef, .undef, .undef, .undef, .undef, .undef, .undef, .undef, .undef, .undef, .undef, .undef, .undef, .undef, .undef, .undef, .undef, .undef, .undef, .undef, .undef, .undef, .undef, .undef, .undef, .undef, .undef, .undef, .undef, .undef, .undef, .undef, .undef, .undef, .undef, .undef, .undef, .undef, .undef, .undef, .undef, .undef, .undef, .undef, .undef, .undef, .undef, .undef, .undef, .undef, .undef, .undef, .undef, .undef, .undef, .undef, .undef, .undef, .undef, .undef, .undef, .undef, .undef, .undef, .undef, .undef, .undef, .undef, .undef, .undef, .undef, .undef, .undef, .undef, .undef, .undef, .undef, .undef, .undef, .undef, .undef, .undef, .undef], seg := [(2, .cells [strsV ts, fmsV fs, sgsV ss])], up := [] } : St S))) (fun t : Nat => (t ≤ 61)) (fun t : Nat => (61 - t)) () ?_ 0 (Nat.zero_le _)
              intro t ht Z1 hZ1
              conv => whnf
              refine bcase_iff.2 ⟨fun h15 => ?_, fun h15 => ?_⟩
              · skip
                have hltt : t ≤ 60 := by have := of_decide_eq_true h15; omega
                have hwt : IntKind.i64.wrap ((t : Int) + 1) = ((t + 1 : Nat) : Int) := wrap_nat (by omega)
                conv => whnf
                refine loop_q fun Q2 hQ2 => ?_
                refine ⟨⟨492292, [], []⟩, ?_⟩
                refine LoopW_ind _ (fun i : Nat => (({ tmps := [.undef, .undef, .own 2 [], .undef, .undef, .undef, .undef, .undef, vL (natsV y), vI w, .undef, .undef, .undef, .undef, .undef, vI (maxU (prC fs) t), vI t, vI (prU fs t i), vI i, .undef, .undef, .undef, .undef, .undef, .undef, .undef, .undef, .undef, .undef, .undef, .undef, .undef, .undef, .undef, .undef, .undef, .undef, .undef, .undef, .undef, .undef, .undef, .undef, .undef, .undef, .undef, .undef, .undef, .undef, .undef, .undef, .undef, .undef, .undef, .undef, .undef, .undef, .undef, .undef, .undef, .undef, .undef, .undef, .undef, .undef, .undef, .undef, .undef, .undef, .undef, .undef, .undef, .undef, .undef, .undef, .undef, .undef, .undef, .undef, .undef, .undef, .undef, .undef, .undef, .undef, .undef, .undef, .undef, .undef, .undef, .undef, .undef, .undef, .undef, .undef, .undef, .undef, .undef, .undef, .undef, .undef, .undef, .undef, .undef, .undef, .undef, .undef, .undef, .undef, .undef, .undef, .undef, .undef, .undef, .undef, .undef, .undef, .undef, .undef, .undef, .undef, .undef, .undef, .undef, .undef, .undef, .undef, .undef, .undef, .undef, .undef, .undef, .undef, .undef, .undef, .undef, .undef, .undef, .undef, .undef, .undef, .undef, .undef, .undef, .undef, .undef, .undef, .undef, .undef, .undef, .undef, .undef, .undef, .undef, .undef, .undef, .undef, .undef, .undef, .undef, .undef, .undef, .undef, .undef, .undef, .undef, .undef, .undef, .undef, .undef, .undef, .undef, .undef, .undef, .undef, .undef, .undef, .undef, .undef, .undef, .undef, .undef, .undef, .undef, .undef, .undef, .undef, .undef, .undef, .undef, .undef, .undef, .undef, .undef, .undef, .undef, .undef, .undef, .undef, .undef, .undef, .undef, .undef, .undef, .undef, .undef, .undef, .undef, .undef, .undef, .undef, .undef, .undef], seg := [(2, .cells [strsV ts, fmsV fs, sgsV ss])], up := [] } : St S))) (fun i : Nat => (i ≤ fs.length)) (fun i : Nat => (fs.length - i)) () ?_ 0 (Nat.zero_le _)
                intro i hi Z2 hZ2
                conv => whnf
                refine bcase_iff.2 ⟨fun h19 => ?_, fun h19 => ?_⟩
                · skip
                  have hlt : i < fs.length := by have := of_decide_eq_true h19; omega
                  have hw : IntKind.i64.wrap ((i : Int) + 1) = ((i + 1 : Nat) : Int) := wrap_nat (by omega)
                  conv => whnf
                  refine ⟨_, getI_nat hlt, ?_⟩
                  conv => whnf
                  refine bcase_iff.2 ⟨fun g21_8 => ?_, fun g21_8 => ?_⟩
                  · skip
                    have q1 : onOf fs i ≤ t := by unfold onOf; rw [getD_at hlt]; exact of_decide_eq_true g21_8
                    conv => whnf
                    refine ⟨_, getI_nat hlt, ?_⟩
                    conv => whnf
                    refine bcase_iff.2 ⟨fun h21 => ?_, fun h21 => ?_⟩
                    · skip
                      have q2 : (t : Int) ≤ offOf fs i := by unfold offOf; rw [getD_at hlt]; exact of_decide_eq_true h21
                      have hpu := prU_le fs t i
                      have hwp : IntKind.i64.wrap ((prU fs t i : Int) + 1) = ((prU fs t i + 1 : Nat) : Int) := wrap_nat (by omega)
                      -- Z19:TTT
                      conv => whnf
                      refine ⟨⟨492292, [], []⟩, ?_⟩
                      conv => whnf
                      rw [hw, hwp, ← prU_T q1 q2]
                      exact hZ2 (i + 1) hlt (by omega)
                    · skip
                      have q2 : ¬ (t : Int) ≤ offOf fs i := by unfold offOf; rw [getD_at hlt]; exact of_decide_eq_false h21
                      -- Z19:TTF
                      conv => whnf
                      refine ⟨⟨492292, [], []⟩, ?_⟩
                      conv => whnf
                      rw [hw, ← prU_F (fun h => q2 h.2)]
                      exact hZ2 (i + 1) hlt (by omega)
                  · skip
                    have q1 : ¬ onOf fs i ≤ t := by unfold onOf; rw [getD_at hlt]; exact of_decide_eq_false g21_8
                    -- Z19:TF
                    conv => whnf
                    refine ⟨⟨492292, [], []⟩, ?_⟩
                    conv => whnf
                    rw [hw, ← prU_F (fun h => q1 h.1)]
                    exact hZ2 (i + 1) hlt (by omega)
                · skip
                  have hge : i = fs.length := by have := of_decide_eq_false h19; omega
                  conv => whnf
                  refine (hQ2 _ _ _).mpr ?_
                  -- Z15:TF
                  conv => whnf
                  refine ⟨⟨99076, [], []⟩, ?_⟩
                  conv => whnf
                  rw [hwt, max_int, hge]
                  exact hZ1 (t + 1) (by omega) (by omega)
              · skip
                have hget : t = 61 := by have := of_decide_eq_false h15; omega
                subst hget
                conv => whnf
                refine (hQ1 _ _ _).mpr ?_
                conv => whnf
                refine loop_q fun Q2 hQ2 => ?_
                refine ⟨⟨557828, [], []⟩, ?_⟩
                refine LoopW_ind _ (fun i : Nat => (({ tmps := [.undef, .undef, .own 2 [], .undef, .undef, .undef, .undef, .undef, vL (natsV y), vI w, .undef, .undef, .undef, .undef, .undef, vI (maxU (prC fs) 61), .undef, .undef, .undef, vI i, .undef, .undef, .undef, .undef, .undef, .undef, .undef, .undef, .undef, .undef, .undef, .undef, .undef, .undef, .undef, .undef, .undef, .undef, .undef, .undef, .undef, .undef, .undef, .undef, .undef, .undef, .undef, .undef, .undef, .undef, .undef, .undef, .undef, .undef, .undef, .undef, .undef, .undef, .undef, .undef, .undef, .undef, .undef, .undef, .undef, .undef, .undef, .undef, .undef, .undef, .undef, .undef, .undef, .undef, .undef, .undef, .undef, .undef, .undef, .undef, .undef, .undef, .undef, .undef, .undef, .undef, .undef, .undef, .undef, .undef, .undef, .undef, .undef, .undef, .undef, .undef, .undef, .undef, .undef, .undef, .undef, .undef, .undef, .undef, .undef, .undef, .undef, .undef, .undef, .undef, .undef, .undef, .undef, .undef, .undef, .undef, .undef, .undef, .undef, .undef, .undef, .undef, .undef, .undef, .undef, .undef, .undef, .undef, .undef, .undef, .undef, .undef, .undef, .undef, .undef, .undef, .undef, .undef, .undef, .undef, .undef, .undef, .undef, .undef, .undef, .undef, .undef, .undef, .undef, .undef, .undef, .undef, .undef, .undef, .undef, .undef, .undef, .undef, .undef, .undef, .undef, .undef, .undef, .undef, .undef, .undef, .undef, .undef, .undef, .undef, .undef, .undef, .undef, .undef, .undef, .undef, .undef, .undef, .undef, .undef, .undef, .undef, .undef, .undef, .undef, .undef, .undef, .undef, .undef, .undef, .undef, .undef, .undef, .undef, .undef, .undef, .undef, .undef, .undef, .undef, .undef, .undef, .undef, .undef, .undef, .undef, .undef, .undef, .undef, .undef, .undef, .undef, .undef], seg := [(2, .cells [strsV ts, fmsV fs, sgsV ss])], up := [] } : St S))) (fun i : Nat => (i ≤ fs.length)) (fun i : Nat => (fs.length - i)) () ?_ 0 (Nat.zero_le _)
                intro i hi Z2 hZ2
                conv => whnf
                refine bcase_iff.2 ⟨fun h25 => ?_, fun h25 => ?_⟩
                · skip
                  have hlt : i < fs.length := by have := of_decide_eq_true h25; rw [hyn] at this; omega
                  have hw : IntKind.i64.wrap ((i : Int) + 1) = ((i + 1 : Nat) : Int) := wrap_nat (by omega)
                  conv => whnf
                  refine loop_q fun Q3 hQ3 => ?_
                  refine ⟨⟨1606404, [], []⟩, ?_⟩
                  refine LoopW_ind _ (fun k : Nat => (({ tmps := [.undef, .undef, .own 2 [], .undef, .undef, .undef, .undef, .undef, vL (natsV y), vI w, .undef, .undef, .undef, .undef, .undef, vI (maxU (prC fs) 61), .undef, .undef, .undef, vI i, vI k, .undef, .undef, .undef, .undef, .undef, .undef, .undef, .undef, .undef, .undef, .undef, .undef, .undef, .undef, .undef, .undef, .undef, .undef, .undef, .undef, .undef, .undef, .undef, .undef, .undef, .undef, .undef, .undef, .undef, .undef, .undef, .undef, .undef, .undef, .undef, .undef, .undef, .undef, .undef, .undef, .undef, .undef, .undef, .undef, .undef, .undef, .undef, .undef, .undef, .undef, .undef, .undef, .undef, .undef, .undef, .undef, .undef, .undef, .undef, .undef, .undef, .undef, .undef, .undef, .undef, .undef, .undef, .undef, .undef, .undef, .undef, .undef, .undef, .undef, .undef, .undef, .undef, .undef, .undef, .undef, .undef, .undef, .undef, .undef, .undef, .undef, .undef, .undef, .undef, .undef, .undef, .undef, .undef, .undef, .undef, .undef, .undef, .undef, .undef, .undef, .undef, .undef, .undef, .undef, .undef, .undef, .undef, .undef, .undef, .undef, .undef, .undef, .undef, .undef, .undef, .undef, .undef, .undef, .undef, .undef, .undef, .undef, .undef, .undef, .undef, .undef, .undef, .undef, .undef, .undef, .undef, .undef, .undef, .undef, .undef, .undef, .undef, .undef, .undef, .undef, .undef, .undef, .undef, .undef, .undef, .undef, .undef, .undef, .undef, .undef, .undef, .undef, .undef, .undef, .undef, .undef, .undef, .undef, .undef, .undef, .undef, .undef, .undef, .undef, .undef, .undef, .undef, .undef, .undef, .undef, .undef, .undef, .undef, .undef, .undef, .undef, .undef, .undef, .undef, .undef, .undef, .undef, .undef, .undef, .undef, .undef, .undef, .undef, .undef, .undef, .undef, .undef], seg := [(2, .cells [strsV ts, fmsV fs, sgsV ss])], up := [] } : St S))) (fun k : Nat => (k ≤ i)) (fun k : Nat => (i - k)) () ?_ 0 (Nat.zero_le _)
                  intro k hki Z3 hZ3
                  conv => whnf
                  refine bcase_iff.2 ⟨fun h28x => ?_, fun h28x => ?_⟩
                  · skip
                    have hltk : k < i := by have := of_decide_eq_true h28x; omega
                    have hwk : IntKind.i64.wrap ((k : Int) + 1) = ((k + 1 : Nat) : Int) := wrap_nat (by omega)
                    have hkf : k < fs.length := by omega
                    conv => whnf
                    refine ⟨[0, 1, 2, 3, 4, 5, 6, 7, 8, 9, 10, 11, 12, 13, 14, 15, 16, 17, 18, 19, 20, 21], [], [], [], ⟨13164036458569648337239753460458804039861886925068638906788872191, [], []⟩, by decide +kernel, ?_⟩
                    conv => whnf
                    refine ⟨_, getI_natsD (by omega), ?_⟩
                    conv => whnf
                    refine ⟨_, getI_natsD (by omega), ?_⟩
                    conv => whnf
                    refine bcase_iff.2 ⟨fun g30_9 => ?_, fun g30_9 => ?_⟩
                    · skip
                      have q1 : (y.getD i 0 == y.getD k 0) = true := eN g30_9
                      conv => whnf
                      refine ⟨_, getI_nat hlt, ?_⟩
                      conv => whnf
                      refine ⟨_, getI_nat hkf, ?_⟩
                      conv => whnf
                      refine byC (c53 glT fs[i] fs[k]) op53 ?_
                      conv => whnf
                      refine bcase_iff.2 ⟨fun h30 => ?_, fun h30 => ?_⟩
                      · skip
                        exfalso
                        have g : prB fs[i] fs[k] = true := h30
                        exact press_diff hF hlt hkf (by unfold prN; rw [getD_at hlt, getD_at hkf, g, Bool.and_true]; simpa using (show i ≠ k by omega)) (by simpa using q1) --done
                      · skip
                        -- Z28:TTF
                        conv => whnf
                        refine ⟨⟨1606404, [], []⟩, ?_⟩
                        conv => whnf
                        rw [hwk]
                        exact hZ3 (k + 1) hltk (by omega)
                    · skip
                      -- Z28:TF
                      conv => whnf
                      refine ⟨⟨1606404, [], []⟩, ?_⟩
                      conv => whnf
                      rw [hwk]
                      exact hZ3 (k + 1) hltk (by omega)
                  · skip
                    conv => whnf
                    refine (hQ3 _ _ _).mpr ?_
                    -- Z25:TF
                    conv => whnf
                    refine ⟨⟨557828, [], []⟩, ?_⟩
                    conv => whnf
                    rw [hw]
                    exact hZ2 (i + 1) hlt (by omega)
                · skip
                  conv => whnf
                  refine (hQ2 _ _ _).mpr ?_
                  conv => whnf
                  refine bcase_iff.2 ⟨fun g32_3 => ?_, fun g32_3 => ?_⟩
                  · skip
                    conv => whnf
                    refine byC ((c27)) op27 ?_
                    -- R:bFFFFFFFT
                    conv => whnf
                    rfl
                  · skip
                    exfalso
                    have g := eN g32_3
                    rw [← hmx] at g; simp at g --done
  · skip
    have hxl := hsk.few.way.len
    have hxm := skel_many hsk
    have hule := hsk.few.le
    have hxn := natsV_length x
    have hV := chk_valid.1 hk
    have hv := hV.job
    have h8 := hv.n8
    have hs6 := hv.s6
    have hf7 := hV.n7
    have h12 := hV.s12
    have h41 := c41t glT ts fs ss hL hk
    obtain ⟨y, w, hF⟩ := press_few hv.n0
    have hyl := hF.way.len
    have hyn := natsV_length y
    have hym : manyL y = w := by rw [way_many hF.way, hF.top]
    have hwl := hF.le
    have hmx := press_max hv hF
    have h36 := c36 ts fs ss hL
    rw [pressR_ok hk hF] at h36
    have h38 := c38 glT ts fs ss hL
    rw [standR_ok hk] at h38
    obtain ⟨hb60, hball, hbbef⟩ := bestD_spec fs 60
    have hol := onL_len fs (bestD fs 60)
    have hon := natsV_length (onL fs (bestD fs 60))
    generalize hD : bestD fs 60 = D at *
    refine byC h38 op38 ?_
    conv => whnf
    refine byC h36 op36 ?_
    conv => whnf
    refine byC h41 op41 ?_
    conv => whnf
    refine byC (c52 glT ts fs ss (by omega) D) op52 ?_
    conv => whnf
    refine byC (c20 glT _ _ (by rw [hon]; omega)) op20 ?_
    conv => whnf
    refine bcase_iff.2 ⟨fun g5_14 => ?_, fun g5_14 => ?_⟩
    · skip
      exact decX g5_14 --done
    · skip
      conv => whnf
      refine bcase_iff.2 ⟨fun g5_22 => ?_, fun g5_22 => ?_⟩
      · skip
        exfalso
        have g : (((natsV y).length : Int) != (fs.length : Int)) = true := g5_22
        rw [hyn, hyl] at g; simp at g --done
      · skip
        conv => whnf
        refine byC (c44 glT y (by omega)) op44 ?_
        conv => whnf
        rw [hym]
        conv => whnf
        refine bcase_iff.2 ⟨fun h5 => ?_, fun h5 => ?_⟩
        · skip
          exact neqX h5 --done
        · skip
          conv => whnf
          refine ⟨by decide, ?_⟩
          conv => whnf
          rw [hm61]
          conv => whnf
          refine byC (c52 glT ts fs ss (by omega) T) op52 ?_
          conv => whnf
          refine bcase_iff.2 ⟨fun g8_7 => ?_, fun g8_7 => ?_⟩
          · skip
            exfalso
            have g := of_decide_eq_true g8_7
            rw [natsV_length, natsV_length] at g
            have := hball T (by omega); omega --done
          · skip
            conv => whnf
            refine bcase_iff.2 ⟨fun g8_11 => ?_, fun g8_11 => ?_⟩
            · skip
              have g1 : decide ((T : Int) < (D : Int)) = true := g8_11
              have g1 := of_decide_eq_true g1
              have hlb := hbbef T (by omega)
              conv => whnf
              refine byC (c52 glT ts fs ss (by omega) T) op52 ?_
              conv => whnf
              refine bcase_iff.2 ⟨fun h88 => ?_, fun h88 => ?_⟩
              · skip
                exfalso
                have g : (((natsV (onL fs (T : Int))).length : Int) == ((natsV (onL fs (D : Int))).length : Int)) = true := h88
                rw [natsV_length, natsV_length] at g
                have g := eN g; simp at g; omega --done
              · skip
                conv => whnf
                refine byC h28 op28 ?_
                conv => whnf
                refine bcase_iff.2 ⟨fun g11_7 => ?_, fun g11_7 => ?_⟩
                · skip
                  exfalso
                  have g : decide ((u : Int) < ((natsV (onL fs D)).length : Int)) = true := g11_7
                  have g := of_decide_eq_true g
                  rw [hon] at g
                  have := stand_le hsk (D : Int); omega --done
                · skip
                  conv => whnf
                  refine bcase_iff.2 ⟨fun g11_12 => ?_, fun g11_12 => ?_⟩
                  · skip
                    have hss : ss = [] := by have g : ((ss.length : Int) == 0) = true := g11_12; exact List.eq_nil_of_length_eq_zero (by simpa using g)
                    conv => whnf
                    refine bcase_iff.2 ⟨fun g11_20 => ?_, fun g11_20 => ?_⟩
                    · skip
                      exfalso
                      have g : decide ((u : Int) > ((natsV (onL fs D)).length : Int)) = true := g11_20
                      have g := of_decide_eq_true g
                      rw [hon] at g
                      subst hss
                      have := stand_ge hv hsk
                      rw [hD] at this; omega --done
                    · skip
                      conv => whnf
                      refine loop_q fun Q1 hQ1 => ?_
                      refine ⟨⟨99076, [], []⟩, ?_⟩
                      refine LoopW_ind _ (fun t : Nat => (({ tmps := [.undef, .undef, .own 2 [], .undef, .undef, .undef, .undef, .undef, vL (natsV y), vI w, .undef, .undef, .undef, .undef, .undef, vI (maxU (prC fs) t), vI t, .undef, .undef, .undef, .undef, .undef, .undef, .undef, .undef, .undef, .undef, .undef, .undef, .undef, .undef, .undef, .undef, .undef, .undef, .undef, .undef, .undef, .undef, .undef, .undef, .undef, .undef, .undef, .undef, .undef, .undef, .undef, .undef, .undef, .undef, .undef, .undef, .undef, .undef, .undef, .undef, .undef, .undef, .undef, .undef, .undef, .undef, .undef, .undef, .undef, .undef, .undef, .undef, .undef, .undef, .undef, .undef, .undef, .undef, .undef, .undef, .undef, .undef, .undef, .undef, .undef, .undef, .undef, .undef, .undef, .undef, .undef, .undef, .undef, .undef, .undef, .undef, .undef, .undef, .undef, .undef, .undef, .undef, .undef, .undef, .undef, .undef, .undef, .undef, .undef, .undef, .undef, .undef, .undef, .undef, .undef, .undef, .undef, .undef, .undef, .undef, .undef, .undef, .undef, .undef, .undef, .undef, .undef, .undef, .undef, .undef, .undef, .undef, .undef, .undef, .undef, .undef, .undef, .undef, .undef, .undef, .undef, .undef, .undef, .undef, .undef, .undef, .undef, .undef, .undef, .undef, .undef, .undef, .undef, .undef, .undef, .undef, .undef, .undef, .undef, .undef, .undef, .undef, .undef, .undef, .undef, .undef, .undef, .undef, .undef, .undef, .undef, .undef, .undef, .undef, .undef, .undef, .undef, .undef, .undef, .undef, .undef, .undef, .undef, .undef, .undef, .undef, .undef, .undef, .undef, .undef, .undef, .undef, .undef, .undef, .undef, .undef, .undef, .undef, .undef, .undef, .undef, .undef, .undef, .undef, .undef, .undef, .undef, .undef, .undef, .undef, .undef, .undef, .undef, .undef, .undef, .undef], seg := [(2, .cells [strsV ts, fmsV fs, sgsV ss])], up := [] } : St S))) (fun t : Nat => (t ≤ 61)) (fun t : Nat => (61 - t)) () ?_ 0 (Nat.zero_le _)
                      intro t ht Z1 hZ1
                      conv => whnf
                      refine bcase_iff.2 ⟨fun h15 => ?_, fun h15 => ?_⟩
                      · skip
                        have hltt : t ≤ 60 := by have := of_decide_eq_true h15; omega
                        have hwt : IntKind.i64.wrap ((t : Int) + 1) = ((t + 1 : Nat) : Int) := wrap_nat (by omega)
                        conv => whnf
                        refine loop_q fun Q2 hQ2 => ?_
                        refine ⟨⟨492292, [], []⟩, ?_⟩
                        refine LoopW_ind _ (fun i : Nat => (({ tmps := [.undef, .undef, .own 2 [], .undef, .undef, .undef, .undef, .undef, vL (natsV y), vI w, .undef, .undef, .undef, .undef, .undef, vI (maxU (prC fs) t), vI t, vI (prU fs t i), vI i, .undef, .undef, .undef, .undef, .undef, .undef, .undef, .undef, .undef, .undef, .undef, .undef, .undef, .undef, .undef, .undef, .undef, .undef, .undef, .undef, .undef, .undef, .undef, .undef, .undef, .undef, .undef, .undef, .undef, .undef, .undef, .undef, .undef, .undef, .undef, .undef, .undef, .undef, .undef, .undef, .undef, .undef, .undef, .undef, .undef, .undef, .undef, .undef, .undef, .undef, .undef, .undef, .undef, .undef, .undef, .undef, .undef, .undef, .undef, .undef, .undef, .undef, .undef, .undef, .undef, .undef, .undef, .undef, .undef, .undef, .undef, .undef, .undef, .undef, .undef, .undef, .undef, .undef, .undef, .undef, .undef, .undef, .undef, .undef, .undef, .undef, .undef, .undef, .undef, .undef, .undef, .undef, .undef, .undef, .undef, .undef, .undef, .undef, .undef, .undef, .undef, .undef, .undef, .undef, .undef, .undef, .undef, .undef, .undef, .undef, .undef, .undef, .undef, .undef, .undef, .undef, .undef, .undef, .undef, .undef, .undef, .undef, .undef, .undef, .undef, .undef, .undef, .undef, .undef, .undef, .undef, .undef, .undef, .undef, .undef, .undef, .undef, .undef, .undef, .undef, .undef, .undef, .undef, .undef, .undef, .undef, .undef, .undef, .undef, .undef, .undef, .undef, .undef, .undef, .undef, .undef, .undef, .undef, .undef, .undef, .undef, .undef, .undef, .undef, .undef, .undef, .undef, .undef, .undef, .undef, .undef, .undef, .undef, .undef, .undef, .undef, .undef, .undef, .undef, .undef, .undef, .undef, .undef, .undef, .undef, .undef, .undef, .undef, .undef, .undef, .undef, .undef, .undef, .undef], seg := [(2, .cells [strsV ts, fmsV fs, sgsV ss])], up := [] } : St S))) (fun i : Nat => (i ≤ fs.length)) (fun i : Nat => (fs.length - i)) () ?_ 0 (Nat.zero_le _)
                        intro i hi Z2 hZ2
                        conv => whnf
                        refine bcase_iff.2 ⟨fun h19 => ?_, fun h19 => ?_⟩
                        · skip
                          have hlt : i < fs.length := by have := of_decide_eq_true h19; omega
                          have hw : IntKind.i64.wrap ((i : Int) + 1) = ((i + 1 : Nat) : Int) := wrap_nat (by omega)
                          conv => whnf
                          refine ⟨_, getI_nat hlt, ?_⟩
                          conv => whnf
                          refine bcase_iff.2 ⟨fun g21_8 => ?_, fun g21_8 => ?_⟩
                          · skip
                            have q1 : onOf fs i ≤ t := by unfold onOf; rw [getD_at hlt]; exact of_decide_eq_true g21_8
                            conv => whnf
                            refine ⟨_, getI_nat hlt, ?_⟩
                            conv => whnf
                            refine bcase_iff.2 ⟨fun h21 => ?_, fun h21 => ?_⟩
                            · skip
                              have q2 : (t : Int) ≤ offOf fs i := by unfold offOf; rw [getD_at hlt]; exact of_decide_eq_true h21
                              have hpu := prU_le fs t i
                              have hwp : IntKind.i64.wrap ((prU fs t i : Int) + 1) = ((prU fs t i + 1 : Nat) : Int) := wrap_nat (by omega)
                              -- Z19:TTT
                              conv => whnf
                              refine ⟨⟨492292, [], []⟩, ?_⟩
                              conv => whnf
                              rw [hw, hwp, ← prU_T q1 q2]
                              exact hZ2 (i + 1) hlt (by omega)
                            · skip
                              have q2 : ¬ (t : Int) ≤ offOf fs i := by unfold offOf; rw [getD_at hlt]; exact of_decide_eq_false h21
                              -- Z19:TTF
                              conv => whnf
                              refine ⟨⟨492292, [], []⟩, ?_⟩
                              conv => whnf
                              rw [hw, ← prU_F (fun h => q2 h.2)]
                              exact hZ2 (i + 1) hlt (by omega)
                          · skip
                            have q1 : ¬ onOf fs i ≤ t := by unfold onOf; rw [getD_at hlt]; exact of_decide_eq_false g21_8
                            -- Z19:TF
                            conv => whnf
                            refine ⟨⟨492292, [], []⟩, ?_⟩
                            conv => whnf
                            rw [hw, ← prU_F (fun h => q1 h.1)]
                            exact hZ2 (i + 1) hlt (by omega)
                        · skip
                          have hge : i = fs.length := by have := of_decide_eq_false h19; omega
                          conv => whnf
                          refine (hQ2 _ _ _).mpr ?_
                          -- Z15:TF
                          conv => whnf
                          refine ⟨⟨99076, [], []⟩, ?_⟩
                          conv => whnf
                          rw [hwt, max_int, hge]
                          exact hZ1 (t + 1) (by omega) (by omega)
                      · skip
                        have hget : t = 61 := by have := of_decide_eq_false h15; omega
                        subst hget
                        conv => whnf
                        refine (hQ1 _ _ _).mpr ?_
                        conv => whnf
                        refine loop_q fun Q2 hQ2 => ?_
                        refine ⟨⟨557828, [], []⟩, ?_⟩
                        refine LoopW_ind _ (fun i : Nat => (({ tmps := [.undef, .undef, .own 2 [], .undef, .undef, .undef, .undef, .undef, vL (natsV y), vI w, .undef, .undef, .undef, .undef, .undef, vI (maxU (prC fs) 61), .undef, .undef, .undef, vI i, .undef, .undef, .undef, .undef, .undef, .undef, .undef, .undef, .undef, .undef, .undef, .undef, .undef, .undef, .undef, .undef, .undef, .undef, .undef, .undef, .undef, .undef, .undef, .undef, .undef, .undef, .undef, .undef, .undef, .undef, .undef, .undef, .undef, .undef, .undef, .undef, .undef, .undef, .undef, .undef, .undef, .undef, .undef, .undef, .undef, .undef, .undef, .undef, .undef, .undef, .undef, .undef, .undef, .undef, .undef, .undef, .undef, .undef, .undef, .undef, .undef, .undef, .undef, .undef, .undef, .undef, .undef, .undef, .undef, .undef, .undef, .undef, .undef, .undef, .undef, .undef, .undef, .undef, .undef, .undef, .undef, .undef, .undef, .undef, .undef, .undef, .undef, .undef, .undef, .undef, .undef, .undef, .undef, .undef, .undef, .undef, .undef, .undef, .undef, .undef, .undef, .undef, .undef, .undef, .undef, .undef, .undef, .undef, .undef, .undef, .undef, .undef, .undef, .undef, .undef, .undef, .undef, .undef, .undef, .undef, .undef, .undef, .undef, .undef, .undef, .undef, .undef, .undef, .undef, .undef, .undef, .undef, .undef, .undef, .undef, .undef, .undef, .undef, .undef, .undef, .undef, .undef, .undef, .undef, .undef, .undef, .undef, .undef, .undef, .undef, .undef, .undef, .undef, .undef, .undef, .undef, .undef, .undef, .undef, .undef, .undef, .undef, .undef, .undef, .undef, .undef, .undef, .undef, .undef, .undef, .undef, .undef, .undef, .undef, .undef, .undef, .undef, .undef, .undef, .undef, .undef, .undef, .undef, .undef, .undef, .undef, .undef, .undef, .undef, .undef, .undef, .undef, .undef], seg := [(2, .cells [strsV ts, fmsV fs, sgsV ss])], up := [] } : St S))) (fun i : Nat => (i ≤ fs.length)) (fun i : Nat => (fs.length - i)) () ?_ 0 (Nat.zero_le _)
                        intro i hi Z2 hZ2
                        conv => whnf
                        refine bcase_iff.2 ⟨fun h25 => ?_, fun h25 => ?_⟩
                        · skip
                          have hlt : i < fs.length := by have := of_decide_eq_true h25; rw [hyn] at this; omega
                          have hw : IntKind.i64.wrap ((i : Int) + 1) = ((i + 1 : Nat) : Int) := wrap_nat (by omega)
                          conv => whnf
                          refine loop_q fun Q3 hQ3 => ?_
                          refine ⟨⟨1606404, [], []⟩, ?_⟩
                          refine LoopW_ind _ (fun k : Nat => (({ tmps := [.undef, .undef, .own 2 [], .undef, .undef, .undef, .undef, .undef, vL (natsV y), vI w, .undef, .undef, .undef, .undef, .undef, vI (maxU (prC fs) 61), .undef, .undef, .undef, vI i, vI k, .undef, .undef, .undef, .undef, .undef, .undef, .undef, .undef, .undef, .undef, .undef, .undef, .undef, .undef, .undef, .undef, .undef, .undef, .undef, .undef, .undef, .undef, .undef, .undef, .undef, .undef, .undef, .undef, .undef, .undef, .undef, .undef, .undef, .undef, .undef, .undef, .undef, .undef, .undef, .undef, .undef, .undef, .undef, .undef, .undef, .undef, .undef, .undef, .undef, .undef, .undef, .undef, .undef, .undef, .undef, .undef, .undef, .undef, .undef, .undef, .undef, .undef, .undef, .undef, .undef, .undef, .undef, .undef, .undef, .undef, .undef, .undef, .undef, .undef, .undef, .undef, .undef, .undef, .undef, .undef, .undef, .undef, .undef, .undef, .undef, .undef, .undef, .undef, .undef, .undef, .undef, .undef, .undef, .undef, .undef, .undef, .undef, .undef, .undef, .undef, .undef, .undef, .undef, .undef, .undef, .undef, .undef, .undef, .undef, .undef, .undef, .undef, .undef, .undef, .undef, .undef, .undef, .undef, .undef, .undef, .undef, .undef, .undef, .undef, .undef, .undef, .undef, .undef, .undef, .undef, .undef, .undef, .undef, .undef, .undef, .undef, .undef, .undef, .undef, .undef, .undef, .undef, .undef, .undef, .undef, .undef, .undef, .undef, .undef, .undef, .undef, .undef, .undef, .undef, .undef, .undef, .undef, .undef, .undef, .undef, .undef, .undef, .undef, .undef, .undef, .undef, .undef, .undef, .undef, .undef, .undef, .undef, .undef, .undef, .undef, .undef, .undef, .undef, .undef, .undef, .undef, .undef, .undef, .undef, .undef, .undef, .undef, .undef, .undef, .undef, .undef, .undef], seg := [(2, .cells [strsV ts, fmsV fs, sgsV ss])], up := [] } : St S))) (fun k : Nat => (k ≤ i)) (fun k : Nat => (i - k)) () ?_ 0 (Nat.zero_le _)
                          intro k hki Z3 hZ3
                          conv => whnf
                          refine bcase_iff.2 ⟨fun h28x => ?_, fun h28x => ?_⟩
                          · skip
                            have hltk : k < i := by have := of_decide_eq_true h28x; omega
                            have hwk : IntKind.i64.wrap ((k : Int) + 1) = ((k + 1 : Nat) : Int) := wrap_nat (by omega)
                            have hkf : k < fs.length := by omega
                            conv => whnf
                            refine ⟨[0, 1, 2, 3, 4, 5, 6, 7, 8, 9, 10, 11, 12, 13, 14, 15, 16, 17, 18, 19, 20, 21], [], [], [], ⟨13164036458569648337239753460458804039861886925068638906788872191, [], []⟩, by decide +kernel, ?_⟩
                            conv => whnf
                            refine ⟨_, getI_natsD (by omega), ?_⟩
                            conv => whnf
                            refine ⟨_, getI_natsD (by omega), ?_⟩
                            conv => whnf
                            refine bcase_iff.2 ⟨fun g30_9 => ?_, fun g30_9 => ?_⟩
                            · skip
                              have q1 : (y.getD i 0 == y.getD k 0) = true := eN g30_9
                              conv => whnf
                              refine ⟨_, getI_nat hlt, ?_⟩
                              conv => whnf
                              refine ⟨_, getI_nat hkf, ?_⟩
                              conv => whnf
                              refine byC (c53 glT fs[i] fs[k]) op53 ?_
                              conv => whnf
                              refine bcase_iff.2 ⟨fun h30 => ?_, fun h30 => ?_⟩
                              · skip
                                exfalso
                                have g : prB fs[i] fs[k] = true := h30
                                exact press_diff hF hlt hkf (by unfold prN; rw [getD_at hlt, getD_at hkf, g, Bool.and_true]; simpa using (show i ≠ k by omega)) (by simpa using q1) --done
                              · skip
                                -- Z28:TTF
                                conv => whnf
                                refine ⟨⟨1606404, [], []⟩, ?_⟩
                                conv => whnf
                                rw [hwk]
                                exact hZ3 (k + 1) hltk (by omega)
                            · skip
                              -- Z28:TF
                              conv => whnf
                              refine ⟨⟨1606404, [], []⟩, ?_⟩
                              conv => whnf
                              rw [hwk]
                              exact hZ3 (k + 1) hltk (by omega)
                          · skip
                            conv => whnf
                            refine (hQ3 _ _ _).mpr ?_
                            -- Z25:TF
                            conv => whnf
                            refine ⟨⟨557828, [], []⟩, ?_⟩
                            conv => whnf
                            rw [hw]
                            exact hZ2 (i + 1) hlt (by omega)
                        · skip
                          conv => whnf
                          refine (hQ2 _ _ _).mpr ?_
                          conv => whnf
                          refine bcase_iff.2 ⟨fun g32_3 => ?_, fun g32_3 => ?_⟩
                          · skip
                            conv => whnf
                            refine byC ((c27)) op27 ?_
                            -- R:cFFFFTFFTFFFT
                            conv => whnf
                            rfl
                          · skip
                            exfalso
                            have g := eN g32_3
                            rw [← hmx] at g; simp at g --done
                  · skip
                    conv => whnf
                    refine loop_q fun Q1 hQ1 => ?_
                    refine ⟨⟨99076, [], []⟩, ?_⟩
                    refine LoopW_ind _ (fun t : Nat => (({ tmps := [.undef, .undef, .own 2 [], .undef, .undef, .undef, .undef, .undef, vL (natsV y), vI w, .undef, .undef, .undef, .undef, .undef, vI (maxU (prC fs) t), vI t, .undef, .undef, .undef, .undef, .undef, .undef, .undef, .undef, .undef, .undef, .undef, .undef, .undef, .undef, .undef, .undef, .undef, .undef, .undef, .undef, .undef, .undef, .undef, .undef, .undef, .undef, .undef, .undef, .undef, .undef, .undef, .undef, .undef, .undef, .undef, .undef, .undef, .undef, .undef, .undef, .undef, .undef, .undef, .undef, .undef, .undef, .undef, .undef, .undef, .undef, .undef, .undef, .undef, .undef, .undef, .undef, .undef, .undef, .undef, .undef, .undef, .undef, .undef, .undef, .undef, .undef, .undef, .undef, .undef, .undef, .undef, .undef, .undef, .undef, .undef, .undef, .undef, .undef, .undef, .undef, .undef, .undef, .undef, .undef, .undef, .undef, .undef, .undef, .undef, .undef, .undef, .undef, .undef, .undef, .undef, .undef, .undef, .undef, .undef, .undef, .undef, .undef, .undef, .undef, .undef, .undef, .undef, .undef, .undef, .undef, .undef, .undef, .undef, .undef, .undef, .undef, .undef, .undef, .undef, .undef, .undef, .undef, .undef, .undef, .undef, .undef, .undef, .undef, .undef, .undef, .undef, .undef, .undef, .undef, .undef, .undef, .undef, .undef, .undef, .undef, .undef, .undef, .undef, .undef, .undef, .undef, .undef, .undef, .undef, .undef, .undef, .undef, .undef, .undef, .undef, .undef, .undef, .undef, .undef, .undef, .undef, .undef, .undef, .undef, .undef, .undef, .undef, .undef, .undef, .undef, .undef, .undef, .undef, .undef, .undef, .undef, .undef, .undef, .undef, .undef, .undef, .undef, .undef, .undef, .undef, .undef, .undef, .undef, .undef, .undef, .undef, .undef, .undef, .undef, .undef, .undef], seg := [(2, .cells [strsV ts, fmsV fs, sgsV ss])], up := [] } : St S))) (fun t : Nat => (t ≤ 61)) (fun t : Nat => (61 - t)) () ?_ 0 (Nat.zero_le _)
                    intro t ht Z1 hZ1
                    conv => whnf
                    refine bcase_iff.2 ⟨fun h15 => ?_, fun h15 => ?_⟩
                    · skip
                      have hltt : t ≤ 60 := by have := of_decide_eq_true h15; omega
                      have hwt : IntKind.i64.wrap ((t : Int) + 1) = ((t + 1 : Nat) : Int) := wrap_nat (by omega)
                      conv => whnf
                      refine loop_q fun Q2 hQ2 => ?_
                      refine ⟨⟨492292, [], []⟩, ?_⟩
                      refine LoopW_ind _ (fun i : Nat => (({ tmps := [.undef, .undef, .own 2 [], .undef, .undef, .undef, .undef, .undef, vL (natsV y), vI w, .undef, .undef, .undef, .undef, .undef, vI (maxU (prC fs) t), vI t, vI (prU fs t i), vI i, .undef, .undef, .undef, .undef, .undef, .undef, .undef, .undef, .undef, .undef, .undef, .undef, .undef, .undef, .undef, .undef, .undef, .undef, .undef, .undef, .undef, .undef, .undef, .undef, .undef, .undef, .undef, .undef, .undef, .undef, .undef, .undef, .undef, .undef, .undef, .undef, .undef, .undef, .undef, .undef, .undef, .undef, .undef, .undef, .undef, .undef, .undef, .undef, .undef, .undef, .undef, .undef, .undef, .undef, .undef, .undef, .undef, .undef, .undef, .undef, .undef, .undef, .undef, .undef, .undef, .undef, .undef, .undef, .undef, .undef, .undef, .undef, .undef, .undef, .undef, .undef, .undef, .undef, .undef, .undef, .undef, .undef, .undef, .undef, .undef, .undef, .undef, .undef, .undef, .undef, .undef, .undef, .undef, .undef, .undef, .undef, .undef, .undef, .undef, .undef, .undef, .undef, .undef, .undef, .undef, .undef, .undef, .undef, .undef, .undef, .undef, .undef, .undef, .undef, .undef, .undef, .undef, .undef, .undef, .undef, .undef, .undef, .undef, .undef, .undef, .undef, .undef, .undef, .undef, .undef, .undef, .undef, .undef, .undef, .undef, .undef, .undef, .undef, .undef, .undef, .undef, .undef, .undef, .undef, .undef, .undef, .undef, .undef, .undef, .undef, .undef, .undef, .undef, .undef, .undef, .undef, .undef, .undef, .undef, .undef, .undef, .undef, .undef, .undef, .undef, .undef, .undef, .undef, .undef, .undef, .undef, .undef, .undef, .undef, .undef, .undef, .undef, .undef, .undef, .undef, .undef, .undef, .undef, .undef, .undef, .undef, .undef, .undef, .undef, .undef, .undef, .undef, .undef, .undef], seg := [(2, .cells [strsV ts, fmsV fs, sgsV ss])], up := [] } : St S))) (fun i : Nat => (i ≤ fs.length)) (fun i : Nat => (fs.length - i)) () ?_ 0 (Nat.zero_le _)
                      intro i hi Z2 hZ2
                      conv => whnf
                      refine bcase_iff.2 ⟨fun h19 => ?_, fun h19 => ?_⟩
                      · skip
                        have hlt : i < fs.length := by have := of_decide_eq_true h19; omega
                        have hw : IntKind.i64.wrap ((i : Int) + 1) = ((i + 1 : Nat) : Int) := wrap_nat (by omega)
                        conv => whnf
                        refine ⟨_, getI_nat hlt, ?_⟩
                        conv => whnf
                        refine bcase_iff.2 ⟨fun g21_8 => ?_, fun g21_8 => ?_⟩
                        · skip
                          have q1 : onOf fs i ≤ t := by unfold onOf; rw [getD_at hlt]; exact of_decide_eq_true g21_8
                          conv => whnf
                          refine ⟨_, getI_nat hlt, ?_⟩
                          conv => whnf
                          refine bcase_iff.2 ⟨fun h21 => ?_, fun h21 => ?_⟩
                          · skip
                            have q2 : (t : Int) ≤ offOf fs i := by unfold offOf; rw [getD_at hlt]; exact of_decide_eq_true h21
                            have hpu := prU_le fs t i
                            have hwp : IntKind.i64.wrap ((prU fs t i : Int) + 1) = ((prU fs t i + 1 : Nat) : Int) := wrap_nat (by omega)
                            -- Z19:TTT
                            conv => whnf
                            refine ⟨⟨492292, [], []⟩, ?_⟩
                            conv => whnf
                            rw [hw, hwp, ← prU_T q1 q2]
                            exact hZ2 (i + 1) hlt (by omega)
                          · skip
                            have q2 : ¬ (t : Int) ≤ offOf fs i := by unfold offOf; rw [getD_at hlt]; exact of_decide_eq_false h21
                            -- Z19:TTF
                            conv => whnf
                            refine ⟨⟨492292, [], []⟩, ?_⟩
                            conv => whnf
                            rw [hw, ← prU_F (fun h => q2 h.2)]
                            exact hZ2 (i + 1) hlt (by omega)
                        · skip
                          have q1 : ¬ onOf fs i ≤ t := by unfold onOf; rw [getD_at hlt]; exact of_decide_eq_false g21_8
                          -- Z19:TF
                          conv => whnf
                          refine ⟨⟨492292, [], []⟩, ?_⟩
                          conv => whnf
                          rw [hw, ← prU_F (fun h => q1 h.1)]
                          exact hZ2 (i + 1) hlt (by omega)
                      · skip
                        have hge : i = fs.length := by have := of_decide_eq_false h19; omega
                        conv => whnf
                        refine (hQ2 _ _ _).mpr ?_
                        -- Z15:TF
                        conv => whnf
                        refine ⟨⟨99076, [], []⟩, ?_⟩
                        conv => whnf
                        rw [hwt, max_int, hge]
                        exact hZ1 (t + 1) (by omega) (by omega)
                    · skip
                      have hget : t = 61 := by have := of_decide_eq_false h15; omega
                      subst hget
                      conv => whnf
                      refine (hQ1 _ _ _).mpr ?_
                      conv => whnf
                      refine loop_q fun Q2 hQ2 => ?_
                      refine ⟨⟨557828, [], []⟩, ?_⟩
                      refine LoopW_ind _ (fun i : Nat => (({ tmps := [.undef, .undef, .own 2 [], .undef, .undef, .undef, .undef, .undef, vL (natsV y), vI w, .undef, .undef, .undef, .undef, .undef, vI (maxU (prC fs) 61), .undef, .undef, .undef, vI i, .undef, .undef, .undef, .undef, .undef, .undef, .undef, .undef, .undef, .undef, .undef, .undef, .undef, .undef, .undef, .undef, .undef, .undef, .undef, .undef, .undef, .undef, .undef, .undef, .undef, .undef, .undef, .undef, .undef, .undef, .undef, .undef, .undef, .undef, .undef, .undef, .undef, .undef, .undef, .undef, .undef, .undef, .undef, .undef, .undef, .undef, .undef, .undef, .undef, .undef, .undef, .undef, .undef, .undef, .undef, .undef, .undef, .undef, .undef, .undef, .undef, .undef, .undef, .undef, .undef, .undef, .undef, .undef, .undef, .undef, .undef, .undef, .undef, .undef, .undef, .undef, .undef, .undef, .undef, .undef, .undef, .undef, .undef, .undef, .undef, .undef, .undef, .undef, .undef, .undef, .undef, .undef, .undef, .undef, .undef, .undef, .undef, .undef, .undef, .undef, .undef, .undef, .undef, .undef, .undef, .undef, .undef, .undef, .undef, .undef, .undef, .undef, .undef, .undef, .undef, .undef, .undef, .undef, .undef, .undef, .undef, .undef, .undef, .undef, .undef, .undef, .undef, .undef, .undef, .undef, .undef, .undef, .undef, .undef, .undef, .undef, .undef, .undef, .undef, .undef, .undef, .undef, .undef, .undef, .undef, .undef, .undef, .undef, .undef, .undef, .undef, .undef, .undef, .undef, .undef, .undef, .undef, .undef, .undef, .undef, .undef, .undef, .undef, .undef, .undef, .undef, .undef, .undef, .undef, .undef, .undef, .undef, .undef, .undef, .undef, .undef, .undef, .undef, .undef, .undef, .undef, .undef, .undef, .undef, .undef, .undef, .undef, .undef, .undef, .undef, .undef, .undef, .undef], seg := [(2, .cells [strsV ts, fmsV fs, sgsV ss])], up := [] } : St S))) (fun i : Nat => (i ≤ fs.length)) (fun i : Nat => (fs.length - i)) () ?_ 0 (Nat.zero_le _)
                      intro i hi Z2 hZ2
                      conv => whnf
                      refine bcase_iff.2 ⟨fun h25 => ?_, fun h25 => ?_⟩
                      · skip
                        have hlt : i < fs.length := by have := of_decide_eq_true h25; rw [hyn] at this; omega
                        have hw : IntKind.i64.wrap ((i : Int) + 1) = ((i + 1 : Nat) : Int) := wrap_nat (by omega)
                        conv => whnf
                        refine loop_q fun Q3 hQ3 => ?_
                        refine ⟨⟨1606404, [], []⟩, ?_⟩
                        refine LoopW_ind _ (fun k : Nat => (({ tmps := [.undef, .undef, .own 2 [], .undef, .undef, .undef, .undef, .undef, vL (natsV y), vI w, .undef, .undef, .undef, .undef, .undef, vI (maxU (prC fs) 61), .undef, .undef, .undef, vI i, vI k, .undef, .undef, .undef, .undef, .undef, .undef, .undef, .undef, .undef, .undef, .undef, .undef, .undef, .undef, .undef, .undef, .undef, .undef, .undef, .undef, .undef, .undef, .undef, .undef, .undef, .undef, .undef, .undef, .undef, .undef, .undef, .undef, .undef, .undef, .undef, .undef, .undef, .undef, .undef, .undef, .undef, .undef, .undef, .undef, .undef, .undef, .undef, .undef, .undef, .undef, .undef, .undef, .undef, .undef, .undef, .undef, .undef, .undef, .undef, .undef, .undef, .undef, .undef, .undef, .undef, .undef, .undef, .undef, .undef, .undef, .undef, .undef, .undef, .undef, .undef, .undef, .undef, .undef, .undef, .undef, .undef, .undef, .undef, .undef, .undef, .undef, .undef, .undef, .undef, .undef, .undef, .undef, .undef, .undef, .undef, .undef, .undef, .undef, .undef, .undef, .undef, .undef, .undef, .undef, .undef, .undef, .undef, .undef, .undef, .undef, .undef, .undef, .undef, .undef, .undef, .undef, .undef, .undef, .undef, .undef, .undef, .undef, .undef, .undef, .undef, .undef, .undef, .undef, .undef, .undef, .undef, .undef, .undef, .undef, .undef, .undef, .undef, .undef, .undef, .undef, .undef, .undef, .undef, .undef, .undef, .undef, .undef, .undef, .undef, .undef, .undef, .undef, .undef, .undef, .undef, .undef, .undef, .undef, .undef, .undef, .undef, .undef, .undef, .undef, .undef, .undef, .undef, .undef, .undef, .undef, .undef, .undef, .undef, .undef, .undef, .undef, .undef, .undef, .undef, .undef, .undef, .undef, .undef, .undef, .undef, .undef, .undef, .undef, .undef, .undef, .undef, .undef], seg := [(2, .cells [strsV ts, fmsV fs, sgsV ss])], up := [] } : St S))) (fun k : Nat => (k ≤ i)) (fun k : Nat => (i - k)) () ?_ 0 (Nat.zero_le _)
                        intro k hki Z3 hZ3
                        conv => whnf
                        refine bcase_iff.2 ⟨fun h28x => ?_, fun h28x => ?_⟩
                        · skip
                          have hltk : k < i := by have := of_decide_eq_true h28x; omega
                          have hwk : IntKind.i64.wrap ((k : Int) + 1) = ((k + 1 : Nat) : Int) := wrap_nat (by omega)
                          have hkf : k < fs.length := by omega
                          conv => whnf
                          refine ⟨[0, 1, 2, 3, 4, 5, 6, 7, 8, 9, 10, 11, 12, 13, 14, 15, 16, 17, 18, 19, 20, 21], [], [], [], ⟨13164036458569648337239753460458804039861886925068638906788872191, [], []⟩, by decide +kernel, ?_⟩
                          conv => whnf
                          refine ⟨_, getI_natsD (by omega), ?_⟩
                          conv => whnf
                          refine ⟨_, getI_natsD (by omega), ?_⟩
                          conv => whnf
                          refine bcase_iff.2 ⟨fun g30_9 => ?_, fun g30_9 => ?_⟩
                          · skip
                            have q1 : (y.getD i 0 == y.getD k 0) = true := eN g30_9
                            conv => whnf
                            refine ⟨_, getI_nat hlt, ?_⟩
                            conv => whnf
                            refine ⟨_, getI_nat hkf, ?_⟩
                            conv => whnf
                            refine byC (c53 glT fs[i] fs[k]) op53 ?_
                            conv => whnf
                            refine bcase_iff.2 ⟨fun h30 => ?_, fun h30 => ?_⟩
                            · skip
                              exfalso
                              have g : prB fs[i] fs[k] = true := h30
                              exact press_diff hF hlt hkf (by unfold prN; rw [getD_at hlt, getD_at hkf, g, Bool.and_true]; simpa using (show i ≠ k by omega)) (by simpa using q1) --done
                            · skip
                              -- Z28:TTF
                              conv => whnf
                              refine ⟨⟨1606404, [], []⟩, ?_⟩
                              conv => whnf
                              rw [hwk]
                              exact hZ3 (k + 1) hltk (by omega)
                          · skip
                            -- Z28:TF
                            conv => whnf
                            refine ⟨⟨1606404, [], []⟩, ?_⟩
                            conv => whnf
                            rw [hwk]
                            exact hZ3 (k + 1) hltk (by omega)
                        · skip
                          conv => whnf
                          refine (hQ3 _ _ _).mpr ?_
                          -- Z25:TF
                          conv => whnf
                          refine ⟨⟨557828, [], []⟩, ?_⟩
                          conv => whnf
                          rw [hw]
                          exact hZ2 (i + 1) hlt (by omega)
                      · skip
                        conv => whnf
                        refine (hQ2 _ _ _).mpr ?_
                        conv => whnf
                        refine bcase_iff.2 ⟨fun g32_3 => ?_, fun g32_3 => ?_⟩
                        · skip
                          conv => whnf
                          refine byC ((c27)) op27 ?_
                          -- R:cFFFFTFFFFFT
                          conv => whnf
                          rfl
                        · skip
                          exfalso
                          have g := eN g32_3
                          rw [← hmx] at g; simp at g --done
            · skip
              conv => whnf
              refine byC h28 op28 ?_
              conv => whnf
              refine bcase_iff.2 ⟨fun g11_7 => ?_, fun g11_7 => ?_⟩
              · skip
                exfalso
                have g : decide ((u : Int) < ((natsV (onL fs D)).length : Int)) = true := g11_7
                have g := of_decide_eq_true g
                rw [hon] at g
                have := stand_le hsk (D : Int); omega --done
              · skip
                conv => whnf
                refine bcase_iff.2 ⟨fun g11_12 => ?_, fun g11_12 => ?_⟩
                · skip
                  have hss : ss = [] := by have g : ((ss.length : Int) == 0) = true := g11_12; exact List.eq_nil_of_length_eq_zero (by simpa using g)
                  conv => whnf
                  refine bcase_iff.2 ⟨fun g11_20 => ?_, fun g11_20 => ?_⟩
                  · skip
                    exfalso
                    have g : decide ((u : Int) > ((natsV (onL fs D)).length : Int)) = true := g11_20
                    have g := of_decide_eq_true g
                    rw [hon] at g
                    subst hss
                    have := stand_ge hv hsk
                    rw [hD] at this; omega --done
                  · skip
                    conv => whnf
                    refine loop_q fun Q1 hQ1 => ?_
                    refine ⟨⟨99076, [], []⟩, ?_⟩
                    refine LoopW_ind _ (fun t : Nat => (({ tmps := [.undef, .undef, .own 2 [], .undef, .undef, .undef, .undef, .undef, vL (natsV y), vI w, .undef, .undef, .undef, .undef, .undef, vI (maxU (prC fs) t), vI t, .undef, .undef, .undef, .undef, .undef, .undef, .undef, .undef, .undef, .undef, .undef, .undef, .undef, .undef, .undef, .undef, .undef, .undef, .undef, .undef, .undef, .undef, .undef, .undef, .undef, .undef, .undef, .undef, .undef, .undef, .undef, .undef, .undef, .undef, .undef, .undef, .undef, .undef, .undef, .undef, .undef, .undef, .undef, .undef, .undef, .undef, .undef, .undef, .undef, .undef, .undef, .undef, .undef, .undef, .undef, .undef, .undef, .undef, .undef, .undef, .undef, .undef, .undef, .undef, .undef, .undef, .undef, .undef, .undef, .undef, .undef, .undef, .undef, .undef, .undef, .undef, .undef, .undef, .undef, .undef, .undef, .undef, .undef, .undef, .undef, .undef, .undef, .undef, .undef, .undef, .undef, .undef, .undef, .undef, .undef, .undef, .undef, .undef, .undef, .undef, .undef, .undef, .undef, .undef, .undef, .undef, .undef, .undef, .undef, .undef, .undef, .undef, .undef, .undef, .undef, .undef, .undef, .undef, .undef, .undef, .undef, .undef, .undef, .undef, .undef, .undef, .undef, .undef, .undef, .undef, .undef, .undef, .undef, .undef, .undef, .undef, .undef, .undef, .undef, .undef, .undef, .undef, .undef, .undef, .undef, .undef, .undef, .undef, .undef, .undef, .undef, .undef, .undef, .undef, .undef, .undef, .undef, .undef, .undef, .undef, .undef, .undef, .undef, .undef, .undef, .undef, .undef, .undef, .undef, .undef, .undef, .undef, .undef, .undef, .undef, .undef, .undef, .undef, .undef, .undef, .undef, .undef, .undef, .undef, .undef, .undef, .undef, .undef, .undef, .undef, .undef, .undef, .undef, .undef, .undef, .undef], seg := [(2, .cells [strsV ts, fmsV fs, sgsV ss])], up := [] } : St S))) (fun t : Nat => (t ≤ 61)) (fun t : Nat => (61 - t)) () ?_ 0 (Nat.zero_le _)
                    intro t ht Z1 hZ1
                    conv => whnf
                    refine bcase_iff.2 ⟨fun h15 => ?_, fun h15 => ?_⟩
                    · skip
                      have hltt : t ≤ 60 := by have := of_decide_eq_true h15; omega
                      have hwt : IntKind.i64.wrap ((t : Int) + 1) = ((t + 1 : Nat) : Int) := wrap_nat (by omega)
                      conv => whnf
                      refine loop_q fun Q2 hQ2 => ?_
                      refine ⟨⟨492292, [], []⟩, ?_⟩
                      refine LoopW_ind _ (fun i : Nat => (({ tmps := [.undef, .undef, .own 2 [], .undef, .undef, .undef, .undef, .undef, vL (natsV y), vI w, .undef, .undef, .undef, .undef, .undef, vI (maxU (prC fs) t), vI t, vI (prU fs t i), vI i, .undef, .undef, .undef, .undef, .undef, .undef, .undef, .undef, .undef, .undef, .undef, .undef, .undef, .undef, .undef, .undef, .undef, .undef, .undef, .undef, .undef, .undef, .undef, .undef, .undef, .undef, .undef, .undef, .undef, .undef, .undef, .undef, .undef, .undef, .undef, .undef, .undef, .undef, .undef, .undef, .undef, .undef, .undef, .undef, .undef, .undef, .undef, .undef, .undef, .undef, .undef, .undef, .undef, .undef, .undef, .undef, .undef, .undef, .undef, .undef, .undef, .undef, .undef, .undef, .undef, .undef, .undef, .undef, .undef, .undef, .undef, .undef, .undef, .undef, .undef, .undef, .undef, .undef, .undef, .undef, .undef, .undef, .undef, .undef, .undef, .undef, .undef, .undef, .undef, .undef, .undef, .undef, .undef, .undef, .undef, .undef, .undef, .undef, .undef, .undef, .undef, .undef, .undef, .undef, .undef, .undef, .undef, .undef, .undef, .undef, .undef, .undef, .undef, .undef, .undef, .undef, .undef, .undef, .undef, .undef, .undef, .undef, .undef, .undef, .undef, .undef, .undef, .undef, .undef, .undef, .undef, .undef, .undef, .undef, .undef, .undef, .undef, .undef, .undef, .undef, .undef, .undef, .undef, .undef, .undef, .undef, .undef, .undef, .undef, .undef, .undef, .undef, .undef, .undef, .undef, .undef, .undef, .undef, .undef, .undef, .undef, .undef, .undef, .undef, .undef, .undef, .undef, .undef, .undef, .undef, .undef, .undef, .undef, .undef, .undef, .undef, .undef, .undef, .undef, .undef, .undef, .undef, .undef, .undef, .undef, .undef, .undef, .undef, .undef, .undef, .undef, .undef, .undef, .undef], seg := [(2, .cells [strsV ts, fmsV fs, sgsV ss])], up := [] } : St S))) (fun i : Nat => (i ≤ fs.length)) (fun i : Nat => (fs.length - i)) () ?_ 0 (Nat.zero_le _)
                      intro i hi Z2 hZ2
                      conv => whnf
                      refine bcase_iff.2 ⟨fun h19 => ?_, fun h19 => ?_⟩
                      · skip
                        have hlt : i < fs.length := by have := of_decide_eq_true h19; omega
                        have hw : IntKind.i64.wrap ((i : Int) + 1) = ((i + 1 : Nat) : Int) := wrap_nat (by omega)
                        conv => whnf
                        refine ⟨_, getI_nat hlt, ?_⟩
                        conv => whnf
                        refine bcase_iff.2 ⟨fun g21_8 => ?_, fun g21_8 => ?_⟩
                        · skip
                          have q1 : onOf fs i ≤ t := by unfold onOf; rw [getD_at hlt]; exact of_decide_eq_true g21_8
                          conv => whnf
                          refine ⟨_, getI_nat hlt, ?_⟩
                          conv => whnf
                          refine bcase_iff.2 ⟨fun h21 => ?_, fun h21 => ?_⟩
                          · skip
                            have q2 : (t : Int) ≤ offOf fs i := by unfold offOf; rw [getD_at hlt]; exact of_decide_eq_true h21
                            have hpu := prU_le fs t i
                            have hwp : IntKind.i64.wrap ((prU fs t i : Int) + 1) = ((prU fs t i + 1 : Nat) : Int) := wrap_nat (by omega)
                            -- Z19:TTT
                            conv => whnf
                            refine ⟨⟨492292, [], []⟩, ?_⟩
                            conv => whnf
                            rw [hw, hwp, ← prU_T q1 q2]
                            exact hZ2 (i + 1) hlt (by omega)
                          · skip
                            have q2 : ¬ (t : Int) ≤ offOf fs i := by unfold offOf; rw [getD_at hlt]; exact of_decide_eq_false h21
                            -- Z19:TTF
                            conv => whnf
                            refine ⟨⟨492292, [], []⟩, ?_⟩
                            conv => whnf
                            rw [hw, ← prU_F (fun h => q2 h.2)]
                            exact hZ2 (i + 1) hlt (by omega)
                        · skip
                          have q1 : ¬ onOf fs i ≤ t := by unfold onOf; rw [getD_at hlt]; exact of_decide_eq_false g21_8
                          -- Z19:TF
                          conv => whnf
                          refine ⟨⟨492292, [], []⟩, ?_⟩
                          conv => whnf
                          rw [hw, ← prU_F (fun h => q1 h.1)]
                          exact hZ2 (i + 1) hlt (by omega)
                      · skip
                        have hge : i = fs.length := by have := of_decide_eq_false h19; omega
                        conv => whnf
                        refine (hQ2 _ _ _).mpr ?_
                        -- Z15:TF
                        conv => whnf
                        refine ⟨⟨99076, [], []⟩, ?_⟩
                        conv => whnf
                        rw [hwt, max_int, hge]
                        exact hZ1 (t + 1) (by omega) (by omega)
                    · skip
                      have hget : t = 61 := by have := of_decide_eq_false h15; omega
                      subst hget
                      conv => whnf
                      refine (hQ1 _ _ _).mpr ?_
                      conv => whnf
                      refine loop_q fun Q2 hQ2 => ?_
                      refine ⟨⟨557828, [], []⟩, ?_⟩
                      refine LoopW_ind _ (fun i : Nat => (({ tmps := [.undef, .undef, .own 2 [], .undef, .undef, .undef, .undef, .undef, vL (natsV y), vI w, .undef, .undef, .undef, .undef, .undef, vI (maxU (prC fs) 61), .undef, .undef, .undef, vI i, .undef, .undef, .undef, .undef, .undef, .undef, .undef, .undef, .undef, .undef, .undef, .undef, .undef, .undef, .undef, .undef, .undef, .undef, .undef, .undef, .undef, .undef, .undef, .undef, .undef, .undef, .undef, .undef, .undef, .undef, .undef, .undef, .undef, .undef, .undef, .undef, .undef, .undef, .undef, .undef, .undef, .undef, .undef, .undef, .undef, .undef, .undef, .undef, .undef, .undef, .undef, .undef, .undef, .undef, .undef, .undef, .undef, .undef, .undef, .undef, .undef, .undef, .undef, .undef, .undef, .undef, .undef, .undef, .undef, .undef, .undef, .undef, .undef, .undef, .undef, .undef, .undef, .undef, .undef, .undef, .undef, .undef, .undef, .undef, .undef, .undef, .undef, .undef, .undef, .undef, .undef, .undef, .undef, .undef, .undef, .undef, .undef, .undef, .undef, .undef, .undef, .undef, .undef, .undef, .undef, .undef, .undef, .undef, .undef, .undef, .undef, .undef, .undef, .undef, .undef, .undef, .undef, .undef, .undef, .undef, .undef, .undef, .undef, .undef, .undef, .undef, .undef, .undef, .undef, .undef, .undef, .undef, .undef, .undef, .undef, .undef, .undef, .undef, .undef, .undef, .undef, .undef, .undef, .undef, .undef, .undef, .undef, .undef, .undef, .undef, .undef, .undef, .undef, .undef, .undef, .undef, .undef, .undef, .undef, .undef, .undef, .undef, .undef, .undef, .undef, .undef, .undef, .undef, .undef, .undef, .undef, .undef, .undef, .undef, .undef, .undef, .undef, .undef, .undef, .undef, .undef, .undef, .undef, .undef, .undef, .undef, .undef, .undef, .undef, .undef, .undef, .undef, .undef], seg := [(2, .cells [strsV ts, fmsV fs, sgsV ss])], up := [] } : St S))) (fun i : Nat => (i ≤ fs.length)) (fun i : Nat => (fs.length - i)) () ?_ 0 (Nat.zero_le _)
                      intro i hi Z2 hZ2
                      conv => whnf
                      refine bcase_iff.2 ⟨fun h25 => ?_, fun h25 => ?_⟩
                      · skip
                        have hlt : i < fs.length := by have := of_decide_eq_true h25; rw [hyn] at this; omega
                        have hw : IntKind.i64.wrap ((i : Int) + 1) = ((i + 1 : Nat) : Int) := wrap_nat (by omega)
                        conv => whnf
                        refine loop_q fun Q3 hQ3 => ?_
                        refine ⟨⟨1606404, [], []⟩, ?_⟩
                        refine LoopW_ind _ (fun k : Nat => (({ tmps := [.undef, .undef, .own 2 [], .undef, .undef, .undef, .undef, .undef, vL (natsV y), vI w, .undef, .undef, .undef, .undef, .undef, vI (maxU (prC fs) 61), .undef, .undef, .undef, vI i, vI k, .undef, .undef, .undef, .undef, .undef, .undef, .undef, .undef, .undef, .undef, .undef, .undef, .undef, .undef, .undef, .undef, .undef, .undef, .undef, .undef, .undef, .undef, .undef, .undef, .undef, .undef, .undef, .undef, .undef, .undef, .undef, .undef, .undef, .undef, .undef, .undef, .undef, .undef, .undef, .undef, .undef, .undef, .undef, .undef, .undef, .undef, .undef, .undef, .undef, .undef, .undef, .undef, .undef, .undef, .undef, .undef, .undef, .undef, .undef, .undef, .undef, .undef, .undef, .undef, .undef, .undef, .undef, .undef, .undef, .undef, .undef, .undef, .undef, .undef, .undef, .undef, .undef, .undef, .undef, .undef, .undef, .undef, .undef, .undef, .undef, .undef, .undef, .undef, .undef, .undef, .undef, .undef, .undef, .undef, .undef, .undef, .undef, .undef, .undef, .undef, .undef, .undef, .undef, .undef, .undef, .undef, .undef, .undef, .undef, .undef, .undef, .undef, .undef, .undef, .undef, .undef, .undef, .undef, .undef, .undef, .undef, .undef, .undef, .undef, .undef, .undef, .undef, .undef, .undef, .undef, .undef, .undef, .undef, .undef, .undef, .undef, .undef, .undef, .undef, .undef, .undef, .undef, .undef, .undef, .undef, .undef, .undef, .undef, .undef, .undef, .undef, .undef, .undef, .undef, .undef, .undef, .undef, .undef, .undef, .undef, .undef, .undef, .undef, .undef, .undef, .undef, .undef, .undef, .undef, .undef, .undef, .undef, .undef, .undef, .undef, .undef, .undef, .undef, .undef, .undef, .undef, .undef, .undef, .undef, .undef, .undef, .undef, .undef, .undef, .undef, .undef, .undef], seg := [(2, .cells [strsV ts, fmsV fs, sgsV ss])], up := [] } : St S))) (fun k : Nat => (k ≤ i)) (fun k : Nat => (i - k)) () ?_ 0 (Nat.zero_le _)
                        intro k hki Z3 hZ3
                        conv => whnf
                        refine bcase_iff.2 ⟨fun h28x => ?_, fun h28x => ?_⟩
                        · skip
                          have hltk : k < i := by have := of_decide_eq_true h28x; omega
                          have hwk : IntKind.i64.wrap ((k : Int) + 1) = ((k + 1 : Nat) : Int) := wrap_nat (by omega)
                          have hkf : k < fs.length := by omega
                          conv => whnf
                          refine ⟨[0, 1, 2, 3, 4, 5, 6, 7, 8, 9, 10, 11, 12, 13, 14, 15, 16, 17, 18, 19, 20, 21], [], [], [], ⟨13164036458569648337239753460458804039861886925068638906788872191, [], []⟩, by decide +kernel, ?_⟩
                          conv => whnf
                          refine ⟨_, getI_natsD (by omega), ?_⟩
                          conv => whnf
                          refine ⟨_, getI_natsD (by omega), ?_⟩
                          conv => whnf
                          refine bcase_iff.2 ⟨fun g30_9 => ?_, fun g30_9 => ?_⟩
                          · skip
                            have q1 : (y.getD i 0 == y.getD k 0) = true := eN g30_9
                            conv => whnf
                            refine ⟨_, getI_nat hlt, ?_⟩
                            conv => whnf
                            refine ⟨_, getI_nat hkf, ?_⟩
                            conv => whnf
                            refine byC (c53 glT fs[i] fs[k]) op53 ?_
                            conv => whnf
                            refine bcase_iff.2 ⟨fun h30 => ?_, fun h30 => ?_⟩
                            · skip
                              exfalso
                              have g : prB fs[i] fs[k] = true := h30
                              exact press_diff hF hlt hkf (by unfold prN; rw [getD_at hlt, getD_at hkf, g, Bool.and_true]; simpa using (show i ≠ k by omega)) (by simpa using q1) --done
                            · skip
                              -- Z28:TTF
                              conv => whnf
                              refine ⟨⟨1606404, [], []⟩, ?_⟩
                              conv => whnf
                              rw [hwk]
                              exact hZ3 (k + 1) hltk (by omega)
                          · skip
                            -- Z28:TF
                            conv => whnf
                            refine ⟨⟨1606404, [], []⟩, ?_⟩
                            conv => whnf
                            rw [hwk]
                            exact hZ3 (k + 1) hltk (by omega)
                        · skip
                          conv => whnf
                          refine (hQ3 _ _ _).mpr ?_
                          -- Z25:TF
                          conv => whnf
                          refine ⟨⟨557828, [], []⟩, ?_⟩
                          conv => whnf
                          rw [hw]
                          exact hZ2 (i + 1) hlt (by omega)
                      · skip
                        conv => whnf
                        refine (hQ2 _ _ _).mpr ?_
                        conv => whnf
                        refine bcase_iff.2 ⟨fun g32_3 => ?_, fun g32_3 => ?_⟩
                        · skip
                          conv => whnf
                          refine byC ((c27)) op27 ?_
                          -- R:cFFFFFFTFFFT
                          conv => whnf
                          rfl
                        · skip
                          exfalso
                          have g := eN g32_3
                          rw [← hmx] at g; simp at g --done
                · skip
                  conv => whnf
                  refine loop_q fun Q1 hQ1 => ?_
                  refine ⟨⟨99076, [], []⟩, ?_⟩
                  refine LoopW_ind _ (fun t : Nat => (({ tmps := [.undef, .undef, .own 2 [], .undef, .undef, .undef, .undef, .undef, vL (natsV y), vI w, .undef, .undef, .undef, .undef, .undef, vI (maxU (prC fs) t), vI t, .undef, .undef, .undef, .undef, .undef, .undef, .undef, .undef, .undef, .undef, .undef, .undef, .undef, .undef, .undef, .undef, .undef, .undef, .undef, .undef, .undef, .undef, .undef, .undef, .undef, .undef, .undef, .undef, .undef, .undef, .undef, .undef, .undef, .undef, .undef, .undef, .undef, .undef, .undef, .undef, .undef, .undef, .undef, .undef, .undef, .undef, .undef, .undef, .undef, .undef, .undef, .undef, .undef, .undef, .undef, .undef, .undef, .undef, .undef, .undef, .undef, .undef, .undef, .undef, .undef, .undef, .undef, .undef, .undef, .undef, .undef, .undef, .undef, .undef, .undef, .undef, .undef, .undef, .undef, .undef, .undef, .undef, .undef, .undef, .undef, .undef, .undef, .undef, .undef, .undef, .undef, .undef, .undef, .undef, .undef, .undef, .undef, .undef, .undef, .undef, .undef, .undef, .undef, .undef, .undef, .undef, .undef, .undef, .undef, .undef, .undef, .undef, .undef, .undef, .undef, .undef, .undef, .undef, .undef, .undef, .undef, .undef, .undef, .undef, .undef, .undef, .undef, .undef, .undef, .undef, .undef, .undef, .undef, .undef, .undef, .undef, .undef, .undef, .undef, .undef, .undef, .undef, .undef, .undef, .undef, .undef, .undef, .undef, .undef, .undef, .undef, .undef, .undef, .undef, .undef, .undef, .undef, .undef, .undef, .undef, .undef, .undef, .undef, .undef, .undef, .undef, .undef, .undef, .undef, .undef, .undef, .undef, .undef, .undef, .undef, .undef, .undef, .undef, .undef, .undef, .undef, .undef, .undef, .undef, .undef, .undef, .undef, .undef, .undef, .undef, .undef, .undef, .undef, .undef, .undef, .undef], seg := [(2, .cells [strsV ts, fmsV fs, sgsV ss])], up := [] } : St S))) (fun t : Nat => (t ≤ 61)) (fun t : Nat => (61 - t)) () ?_ 0 (Nat.zero_le _)
                  intro t ht Z1 hZ1
                  conv => whnf
                  refine bcase_iff.2 ⟨fun h15 => ?_, fun h15 => ?_⟩
                  · skip
                    have hltt : t ≤ 60 := by have := of_decide_eq_true h15; omega
                    have hwt : IntKind.i64.wrap ((t : Int) + 1) = ((t + 1 : Nat) : Int) := wrap_nat (by omega)
                    conv => whnf
                    refine loop_q fun Q2 hQ2 => ?_
                    refine ⟨⟨492292, [], []⟩, ?_⟩
                    refine LoopW_ind _ (fun i : Nat => (({ tmps := [.undef, .undef, .own 2 [], .undef, .undef, .undef, .undef, .undef, vL (natsV y), vI w, .undef, .undef, .undef, .undef, .undef, vI (maxU (prC fs) t), vI t, vI (prU fs t i), vI i, .undef, .undef, .undef, .undef, .undef, .undef, .undef, .undef, .undef, .undef, .undef, .undef, .undef, .undef, .undef, .undef, .undef, .undef, .undef, .undef, .undef, .undef, .undef, .undef, .undef, .undef, .undef, .undef, .undef, .undef, .undef, .undef, .undef, .undef, .undef, .undef, .undef, .undef, .undef, .undef, .undef, .undef, .undef, .undef, .undef, .undef, .undef, .undef, .undef, .undef, .undef, .undef, .undef, .undef, .undef, .undef, .undef, .undef, .undef, .undef, .undef, .undef, .undef, .undef, .undef, .undef, .undef, .undef, .undef, .undef, .undef, .undef, .undef, .undef, .undef, .undef, .undef, .undef, .undef, .undef, .undef, .undef, .undef, .undef, .undef, .undef, .undef, .undef, .undef, .undef, .undef, .undef, .undef, .undef, .undef, .undef, .undef, .undef, .undef, .undef, .undef, .undef, .undef, .undef, .undef, .undef, .undef, .undef, .undef, .undef, .undef, .undef, .undef, .undef, .undef, .undef, .undef, .undef, .undef, .undef, .undef, .undef, .undef, .undef, .undef, .undef, .undef, .undef, .undef, .undef, .undef, .undef, .undef, .undef, .undef, .undef, .undef, .undef, .undef, .undef, .undef, .undef, .undef, .undef, .undef, .undef, .undef, .undef, .undef, .undef, .undef, .undef, .undef, .undef, .undef, .undef, .undef, .undef, .undef, .undef, .undef, .undef, .undef, .undef, .undef, .undef, .undef, .undef, .undef, .undef, .undef, .undef, .undef, .undef, .undef, .undef, .undef, .undef, .undef, .undef, .undef, .undef, .undef, .undef, .undef, .undef, .undef, .undef, .undef, .undef, .undef, .undef, .undef, .undef], seg := [(2, .cells [strsV ts, fmsV fs, sgsV ss])], up := [] } : St S))) (fun i : Nat => (i ≤ fs.length)) (fun i : Nat => (fs.length - i)) () ?_ 0 (Nat.zero_le _)
                    intro i hi Z2 hZ2
                    conv => whnf
                    refine bcase_iff.2 ⟨fun h19 => ?_, fun h19 => ?_⟩
                    · skip
                      have hlt : i < fs.length := by have := of_decide_eq_true h19; omega
                      have hw : IntKind.i64.wrap ((i : Int) + 1) = ((i + 1 : Nat) : Int) := wrap_nat (by omega)
                      conv => whnf
                      refine ⟨_, getI_nat hlt, ?_⟩
                      conv => whnf
                      refine bcase_iff.2 ⟨fun g21_8 => ?_, fun g21_8 => ?_⟩
                      · skip
                        have q1 : onOf fs i ≤ t := by unfold onOf; rw [getD_at hlt]; exact of_decide_eq_true g21_8
                        conv => whnf
                        refine ⟨_, getI_nat hlt, ?_⟩
                        conv => whnf
                        refine bcase_iff.2 ⟨fun h21 => ?_, fun h21 => ?_⟩
                        · skip
                          have q2 : (t : Int) ≤ offOf fs i := by unfold offOf; rw [getD_at hlt]; exact of_decide_eq_true h21
                          have hpu := prU_le fs t i
                          have hwp : IntKind.i64.wrap ((prU fs t i : Int) + 1) = ((prU fs t i + 1 : Nat) : Int) := wrap_nat (by omega)
                          -- Z19:TTT
                          conv => whnf
                          refine ⟨⟨492292, [], []⟩, ?_⟩
                          conv => whnf
                          rw [hw, hwp, ← prU_T q1 q2]
                          exact hZ2 (i + 1) hlt (by omega)
                        · skip
                          have q2 : ¬ (t : Int) ≤ offOf fs i := by unfold offOf; rw [getD_at hlt]; exact of_decide_eq_false h21
                          -- Z19:TTF
                          conv => whnf
                          refine ⟨⟨492292, [], []⟩, ?_⟩
                          conv => whnf
                          rw [hw, ← prU_F (fun h => q2 h.2)]
                          exact hZ2 (i + 1) hlt (by omega)
                      · skip
                        have q1 : ¬ onOf fs i ≤ t := by unfold onOf; rw [getD_at hlt]; exact of_decide_eq_false g21_8
                        -- Z19:TF
                        conv => whnf
                        refine ⟨⟨492292, [], []⟩, ?_⟩
                        conv => whnf
                        rw [hw, ← prU_F (fun h => q1 h.1)]
                        exact hZ2 (i + 1) hlt (by omega)
                    · skip
                      have hge : i = fs.length := by have := of_decide_eq_false h19; omega
                      conv => whnf
                      refine (hQ2 _ _ _).mpr ?_
                      -- Z15:TF
                      conv => whnf
                      refine ⟨⟨99076, [], []⟩, ?_⟩
                      conv => whnf
                      rw [hwt, max_int, hge]
                      exact hZ1 (t + 1) (by omega) (by omega)
                  · skip
                    have hget : t = 61 := by have := of_decide_eq_false h15; omega
                    subst hget
                    conv => whnf
                    refine (hQ1 _ _ _).mpr ?_
                    conv => whnf
                    refine loop_q fun Q2 hQ2 => ?_
                    refine ⟨⟨557828, [], []⟩, ?_⟩
                    refine LoopW_ind _ (fun i : Nat => (({ tmps := [.undef, .undef, .own 2 [], .undef, .undef, .undef, .undef, .undef, vL (natsV y), vI w, .undef, .undef, .undef, .undef, .undef, vI (maxU (prC fs) 61), .undef, .undef, .undef, vI i, .undef, .undef, .undef, .undef, .undef, .undef, .undef, .undef, .undef, .undef, .undef, .undef, .undef, .undef, .undef, .undef, .undef, .undef, .undef, .undef, .undef, .undef, .undef, .undef, .undef, .undef, .undef, .undef, .undef, .undef, .undef, .undef, .undef, .undef, .undef, .undef, .undef, .undef, .undef, .undef, .undef, .undef, .undef, .undef, .undef, .undef, .undef, .undef, .undef, .undef, .undef, .undef, .undef, .undef, .undef, .undef, .undef, .undef, .undef, .undef, .undef, .undef, .undef, .undef, .undef, .undef, .undef, .undef, .undef, .undef, .undef, .undef, .undef, .undef, .undef, .undef, .undef, .undef, .undef, .undef, .undef, .undef, .undef, .undef, .undef, .undef, .undef, .undef, .undef, .undef, .undef, .undef, .undef, .undef, .undef, .undef, .undef, .undef, .undef, .undef, .undef, .undef, .undef, .undef, .undef, .undef, .undef, .undef, .undef, .undef, .undef, .undef, .undef, .undef, .undef, .undef, .undef, .undef, .undef, .undef, .undef, .undef, .undef, .undef, .undef, .undef, .undef, .undef, .undef, .undef, .undef, .undef, .undef, .undef, .undef, .undef, .undef, .undef, .undef, .undef, .undef, .undef, .undef, .undef, .undef, .undef, .undef, .undef, .undef, .undef, .undef, .undef, .undef, .undef, .undef, .undef, .undef, .undef, .undef, .undef, .undef, .undef, .undef, .undef, .undef, .undef, .undef, .undef, .undef, .undef, .undef, .undef, .undef, .undef, .undef, .undef, .undef, .undef, .undef, .undef, .undef, .undef, .undef, .undef, .undef, .undef, .undef, .undef, .undef, .undef, .undef, .undef, .undef], seg := [(2, .cells [strsV ts, fmsV fs, sgsV ss])], up := [] } : St S))) (fun i : Nat => (i ≤ fs.length)) (fun i : Nat => (fs.length - i)) () ?_ 0 (Nat.zero_le _)
                    intro i hi Z2 hZ2
                    conv => whnf
                    refine bcase_iff.2 ⟨fun h25 => ?_, fun h25 => ?_⟩
                    · skip
                      have hlt : i < fs.length := by have := of_decide_eq_true h25; rw [hyn] at this; omega
                      have hw : IntKind.i64.wrap ((i : Int) + 1) = ((i + 1 : Nat) : Int) := wrap_nat (by omega)
                      conv => whnf
                      refine loop_q fun Q3 hQ3 => ?_
                      refine ⟨⟨1606404, [], []⟩, ?_⟩
                      refine LoopW_ind _ (fun k : Nat => (({ tmps := [.undef, .undef, .own 2 [], .undef, .undef, .undef, .undef, .undef, vL (natsV y), vI w, .undef, .undef, .undef, .undef, .undef, vI (maxU (prC fs) 61), .undef, .undef, .undef, vI i, vI k, .undef, .undef, .undef, .undef, .undef, .undef, .undef, .undef, .undef, .undef, .undef, .undef, .undef, .undef, .undef, .undef, .undef, .undef, .undef, .undef, .undef, .undef, .undef, .undef, .undef, .undef, .undef, .undef, .undef, .undef, .undef, .undef, .undef, .undef, .undef, .undef, .undef, .undef, .undef, .undef, .undef, .undef, .undef, .undef, .undef, .undef, .undef, .undef, .undef, .undef, .undef, .undef, .undef, .undef, .undef, .undef, .undef, .undef, .undef, .undef, .undef, .undef, .undef, .undef, .undef, .undef, .undef, .undef, .undef, .undef, .undef, .undef, .undef, .undef, .undef, .undef, .undef, .undef, .undef, .undef, .undef, .undef, .undef, .undef, .undef, .undef, .undef, .undef, .undef, .undef, .undef, .undef, .undef, .undef, .undef, .undef, .undef, .undef, .undef, .undef, .undef, .undef, .undef, .undef, .undef, .undef, .undef, .undef, .undef, .undef, .undef, .undef, .undef, .undef, .undef, .undef, .undef, .undef, .undef, .undef, .undef, .undef, .undef, .undef, .undef, .undef, .undef, .undef, .undef, .undef, .undef, .undef, .undef, .undef, .undef, .undef, .undef, .undef, .undef, .undef, .undef, .undef, .undef, .undef, .undef, .undef, .undef, .undef, .undef, .undef, .undef, .undef, .undef, .undef, .undef, .undef, .undef, .undef, .undef, .undef, .undef, .undef, .undef, .undef, .undef, .undef, .undef, .undef, .undef, .undef, .undef, .undef, .undef, .undef, .undef, .undef, .undef, .undef, .undef, .undef, .undef, .undef, .undef, .undef, .undef, .undef, .undef, .undef, .undef, .undef, .undef, .undef], seg := [(2, .cells [strsV ts, fmsV fs, sgsV ss])], up := [] } : St S))) (fun k : Nat => (k ≤ i)) (fun k : Nat => (i - k)) () ?_ 0 (Nat.zero_le _)
                      intro k hki Z3 hZ3
                      conv => whnf
                      refine bcase_iff.2 ⟨fun h28x => ?_, fun h28x => ?_⟩
                      · skip
                        have hltk : k < i := by have := of_decide_eq_true h28x; omega
                        have hwk : IntKind.i64.wrap ((k : Int) + 1) = ((k + 1 : Nat) : Int) := wrap_nat (by omega)
                        have hkf : k < fs.length := by omega
                        conv => whnf
                        refine ⟨[0, 1, 2, 3, 4, 5, 6, 7, 8, 9, 10, 11, 12, 13, 14, 15, 16, 17, 18, 19, 20, 21], [], [], [], ⟨13164036458569648337239753460458804039861886925068638906788872191, [], []⟩, by decide +kernel, ?_⟩
                        conv => whnf
                        refine ⟨_, getI_natsD (by omega), ?_⟩
                        conv => whnf
                        refine ⟨_, getI_natsD (by omega), ?_⟩
                        conv => whnf
                        refine bcase_iff.2 ⟨fun g30_9 => ?_, fun g30_9 => ?_⟩
                        · skip
                          have q1 : (y.getD i 0 == y.getD k 0) = true := eN g30_9
                          conv => whnf
                          refine ⟨_, getI_nat hlt, ?_⟩
                          conv => whnf
                          refine ⟨_, getI_nat hkf, ?_⟩
                          conv => whnf
                          refine byC (c53 glT fs[i] fs[k]) op53 ?_
                          conv => whnf
                          refine bcase_iff.2 ⟨fun h30 => ?_, fun h30 => ?_⟩
                          · skip
                            exfalso
                            have g : prB fs[i] fs[k] = true := h30
                            exact press_diff hF hlt hkf (by unfold prN; rw [getD_at hlt, getD_at hkf, g, Bool.and_true]; simpa using (show i ≠ k by omega)) (by simpa using q1) --done
                          · skip
                            -- Z28:TTF
                            conv => whnf
                            refine ⟨⟨1606404, [], []⟩, ?_⟩
                            conv => whnf
                            rw [hwk]
                            exact hZ3 (k + 1) hltk (by omega)
                        · skip
                          -- Z28:TF
                          conv => whnf
                          refine ⟨⟨1606404, [], []⟩, ?_⟩
                          conv => whnf
                          rw [hwk]
                          exact hZ3 (k + 1) hltk (by omega)
                      · skip
                        conv => whnf
                        refine (hQ3 _ _ _).mpr ?_
                        -- Z25:TF
                        conv => whnf
                        refine ⟨⟨557828, [], []⟩, ?_⟩
                        conv => whnf
                        rw [hw]
                        exact hZ2 (i + 1) hlt (by omega)
                    · skip
                      conv => whnf
                      refine (hQ2 _ _ _).mpr ?_
                      conv => whnf
                      refine bcase_iff.2 ⟨fun g32_3 => ?_, fun g32_3 => ?_⟩
                      · skip
                        conv => whnf
                        refine byC ((c27)) op27 ?_
                        -- R:cFFFFFFFFFT
                        conv => whnf
                        rfl
                      · skip
                        exfalso
                        have g := eN g32_3
                        rw [← hmx] at g; simp at g --done

end Go.Ab.SkF
