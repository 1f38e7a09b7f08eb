/-
  THE SKELETON FAMILY, PART PS: what the outright laws need: plain.
  THE SKELETON FAMILY, PART LE: the law SkelEnough.
-/
import Derived.Test.YtfhippofplmpdaaDoorRefE
namespace Go.Ab.SkF
open Go Go.Ab Go.Ab.Pln

/-- A job is not valid, or two of its formes clash, or it has skeletons. -/
theorem job3 (ts : List ByteArray) (fs : Fms) (ss : Sgs) : (∃ e, e ≠ 0 ∧ chE ts fs ss = e ∧ fewR ts fs ss = ([], 0, e)) ∨ (chE ts fs ss = 0 ∧ ∃ a b, clashJ fs ss = some (a, b) ∧ fewR ts fs ss = ([], 0, 9)) ∨
    (chE ts fs ss = 0 ∧ clashJ fs ss = none ∧ ∃ x u, Skel fs ss x u ∧ fewR ts fs ss = (natsV x, (u : Int), 0)) := by
  by_cases hk : chE ts fs ss = 0
  · right
    rcases hJ : clashJ fs ss with _ | ⟨a, b⟩
    · right
      have hv := (chk_valid.1 hk).job
      obtain ⟨x, u, hsk⟩ := skel_of hv.n0 hv.n8 hv.s6 hJ
      exact ⟨hk, rfl, x, u, hsk, by unfold fewR; rw [if_neg (fun h => h (ask_ok hk hJ)), hsk.eq]⟩
    · left
      exact ⟨hk, a, b, rfl, by unfold fewR; rw [ask_cl hk hJ, if_pos (by decide)]⟩
  · exact .inl ⟨_, hk, rfl, by unfold fewR; rw [ask_no hk, if_pos hk]⟩
theorem clash_lt {fs : Fms} {ss : Sgs} (h8 : fs.length ≤ 8) (hs : SsOk fs.length 6 ss) {a b : Nat} (h : clashJ fs ss = some (a, b)) : a < b ∧ b < fs.length ∧ stB (fs.getD a f0) (fs.getD b f0) = true := by
  unfold clashJ at h
  obtain ⟨h1, h2, h3, h4, h5, _⟩ := clash_some h
  have hne := stN_self h4
  have hst : stB (fs.getD a f0) (fs.getD b f0) = true := by unfold stN at h4; rw [Bool.and_eq_true] at h4; exact h4.2
  refine ⟨?_, h2, hst⟩
  rcases Nat.lt_or_ge a b with h | h
  · exact h
  · exact (h5 b a (by omega) h1 (by rw [grp_symm h8 hs h2 h1]; exact h3) (by rw [stN_symm]; exact h4)).elim
theorem clashR_some {ts : List ByteArray} {fs : Fms} {ss : Sgs} (h : chE ts fs ss = 0) {a b : Nat} (hJ : clashJ fs ss = some (a, b)) : clashR ts fs ss = ((a : Int), (b : Int), 0) := by unfold clashR; rw [if_neg (fun g => g h), hJ]
theorem clashR_none {ts : List ByteArray} {fs : Fms} {ss : Sgs} (h : chE ts fs ss = 0) (hJ : clashJ fs ss = none) : clashR ts fs ss = (0, 0, 4) := by unfold clashR; rw [if_neg (fun g => g h), hJ]
theorem rg_many {l : List Nat} (h : Rg l) {i : Nat} (hi : i < l.length) : l.getD i 0 ≤ manyL (l.take i) := by
  rw [many_top (l.take i).length rfl fun j hj => ?_]
  · exact h i hi
  · rw [List.length_take] at hj
    rw [getD_take (by omega), List.take_take, Nat.min_eq_left (by omega)]
    exact h j (by omega)
theorem skel_rg {fs : Fms} {ss : Sgs} {x : List Nat} {u : Nat} (h : Skel fs ss x u) : Rg x := fun i hi => h.few.way.rg i (by rw [← h.few.way.len]; exact hi)
theorem seen_com {ss : Sgs} {i k : Nat} (hi : i < ss.length) (hk : k < ss.length) (ht : ss[i].2.1 = ss[k].2.1) {a b t : Nat} (ha : ss[i].1 = (a : Int)) (hb : ss[k].1 = (b : Int)) (hty : ss[i].2.1 = (t : Int)) : comP ss a b :=
  ⟨t, ⟨ss[i], List.getElem_mem hi, ha, hty⟩, ⟨ss[k], List.getElem_mem hk, hb, by rw [← ht]; exact hty⟩⟩
end Go.Ab.SkF

namespace Go.Ab.SkF
open Go Go.Ab Go.Ab.Pln Go.Proofs
set_option maxHeartbeats 1000000
set_option maxRecDepth 100000

theorem c41 (gl : Gl) (ts : List ByteArray) (fs : Fms) (ss : Sgs) (hL : LensJ ts fs ss) : PCalls PR gl 41 [.agg [strsV ts, fmsV fs, sgsV ss]] fun r => r = vB (chE ts fs ss == 0) := by
  refine fnW_sound (par_ok gl) Tryd.func41 ?_
  conv => whnf
  refine byC (c17 gl ts fs ss hL) op17 ?_
  -- R:
  conv => whnf

theorem op41 : Opens PR 41 := ⟨_, Tryd.func41, rfl, rfl⟩

theorem c41t (gl : Gl) (ts : List ByteArray) (fs : Fms) (ss : Sgs) (hL : LensJ ts fs ss) (h : chE ts fs ss = 0) : PCalls PR gl 41 [jobV ts fs ss] fun r => r = vB true := by
  have hc := c41 gl ts fs ss hL
  rw [show (chE ts fs ss == 0) = true by rw [h]; rfl] at hc
  exact hc
theorem c41f (gl : Gl) (ts : List ByteArray) (fs : Fms) (ss : Sgs) (hL : LensJ ts fs ss) (h : chE ts fs ss ≠ 0) : PCalls PR gl 41 [jobV ts fs ss] fun r => r = vB false := by
  have hc := c41 gl ts fs ss hL
  rw [show (chE ts fs ss == 0) = false by simpa using h] at hc
  exact hc
theorem eN {a b : Nat} {c : Bool} (h : (((a : Nat) : Int) == ((b : Nat) : Int)) = c) : (a == b) = c := by rw [eqN] at h; exact h
theorem nN {a b : Nat} {c : Bool} (h : (((a : Nat) : Int) != ((b : Nat) : Int)) = c) : (a != b) = c := by rw [neN] at h; exact h

theorem c8 (ts : List ByteArray) (fs : List Fm) (ss : List Sg) (hL : LensJ ts fs ss) : PCalls PR glT 8 [.agg [strsV ts, fmsV fs, sgsV ss]] fun r => r = vB true := by
  refine fnW_sound (par_ok glT) Tryd.func8 ?_
  conv => whnf
  have h28 := c28 ts fs ss hL
  rcases job3 ts fs ss with ⟨e, he0, hk, hR⟩ | ⟨hk, a, b, hJ, hR⟩ | ⟨hk, hJ, x, u, hsk, hR⟩
  all_goals rw [hR] at h28
  all_goals refine byC h28 op28 ?_
  · skip
    have h41 := c41f glT ts fs ss hL (by rw [hk]; exact he0)
    conv => whnf
    refine byC h41 op41 ?_
    conv => whnf
    refine bcase_iff.2 ⟨fun g3_2 => ?_, fun g3_2 => ?_⟩
    · skip
      conv => whnf
      refine byC ((c27)) op27 ?_
      -- R:aT
      conv => whnf
      rfl
    · skip
      exfalso
      have g : (e != 0) = false := g3_2
      exact he0 (by simpa using g) --done
  · skip
    have hV := chk_valid.1 hk
    have hv := hV.job
    have h8 := hv.n8
    have hs6 := hv.s6
    have hf7 := hV.n7
    have h12 := hV.s12
    have h41 := c41t glT ts fs ss hL hk
    obtain ⟨hab, hbl, hst⟩ := clash_lt h8 hs6 hJ
    have h21 := c21 ts fs ss hL
    rw [clashR_some hk hJ] at h21
    have hst2 : stB fs[a] fs[b] = true := by rw [getD_at (by omega), getD_at hbl] at hst; exact hst
    conv => whnf
    refine byC h41 op41 ?_
    conv => whnf
    refine byC h21 op21 ?_
    conv => whnf
    refine ⟨[0, 1, 2, 3, 4, 5, 6, 7, 8, 9, 10, 11, 12, 13, 14, 15, 16, 17, 18, 19, 20, 21, 22, 23, 24, 25, 26, 27, 28, 29, 30, 31, 32, 33, 34, 35, 36, 37, 38], [], [], [], ⟨25108406941546723055343157692830665664409421777856138051583, [], []⟩, by decide +kernel, ?_⟩
    conv => whnf
    refine bcase_iff.2 ⟨fun g6_15 => ?_, fun g6_15 => ?_⟩
    · skip
      conv => whnf
      refine bcase_iff.2 ⟨fun g6_22 => ?_, fun g6_22 => ?_⟩
      · skip
        conv => whnf
        refine ⟨_, getI_nat (show a < fs.length by omega), ?_⟩
        conv => whnf
        refine ⟨_, getI_nat hbl, ?_⟩
        conv => whnf
        have h47 := c47 glT fs[a] fs[b]
        conv => whnf
        rw [hst2] at h47
        conv => whnf
        refine byC h47 op47 ?_
        conv => whnf
        refine byC ((c27)) op27 ?_
        -- R:bTT
        conv => whnf
        rfl
      · skip
        exfalso
        have g : decide ((b : Int) < (fs.length : Int)) = false := g6_22
        have g := of_decide_eq_false g
        omega --done
    · skip
      exfalso
      have g : decide ((a : Int) < (b : Int)) = false := g6_15
      have g := of_decide_eq_false g
      omega --done
  · skip
    have hV := chk_valid.1 hk
    have hv := hV.job
    have h8 := hv.n8
    have hs6 := hv.s6
    have hf7 := hV.n7
    have h12 := hV.s12
    have h41 := c41t glT ts fs ss hL hk
    have hxl := hsk.few.way.len
    have hxm := skel_many hsk
    have hule := hsk.few.le
    have hxn := natsV_length x
    have h21 := c21 ts fs ss hL
    rw [clashR_none hk hJ] at h21
    have hrg := skel_rg hsk
    conv => whnf
    refine byC h41 op41 ?_
    conv => whnf
    refine byC h21 op21 ?_
    conv => whnf
    refine bcase_iff.2 ⟨fun g7_10 => ?_, fun g7_10 => ?_⟩
    · skip
      exfalso
      have g : (((natsV x).length : Int) != (fs.length : Int)) = true := g7_10
      rw [hxn, hxl] at g; simp at g --done
    · skip
      conv => whnf
      refine byC (c44 glT x (by omega)) op44 ?_
      conv => whnf
      rw [hxm]
      conv => whnf
      refine bcase_iff.2 ⟨fun h7 => ?_, fun h7 => ?_⟩
      · skip
        exfalso
        have g : ((u : Int) != (u : Int)) = true := h7
        simp at g --done
      · skip
        conv => whnf
        refine loop_q fun Q1 hQ1 => ?_
        refine ⟨⟨522, [], []⟩, ?_⟩
        refine LoopW_ind _ (fun i : Nat => (({ tmps := [.undef, .own 1 [], .undef, vL (natsV x), .undef, .undef, .undef, .undef, .undef, vI i, .undef, .undef, .undef, .undef, .undef, .undef, .undef, .undef, .undef, .undef, .undef, .undef, .undef, .undef, .undef, .undef, .undef, .undef, .undef, .undef, .undef, .undef, .undef, .undef, .undef, .undef, .undef, .undef, .undef, .undef, .undef, .undef, .undef, .undef, .undef, .undef, .undef, .undef, .undef, .undef, .undef, .undef, .undef, .undef, .undef, .undef, .undef, .undef, .undef, .undef, .undef, .undef, .undef, .undef, .undef, .undef, .undef, .undef, .undef, .undef, .undef, .undef, .undef, .undef, .undef, .undef, .undef, .undef, .undef, .undef, .undef, .undef, .undef, .undef, .undef, .undef, .undef, .undef, .undef, .undef, .undef, .undef, .undef, .undef, .undef, .undef, .undef, .undef, .undef, .undef, .undef, .undef, .undef, .undef, .undef, .undef, .undef, .undef, .undef, .undef, .undef, .undef, .undef, .undef, .undef, .undef, .undef, .undef, .undef, .undef, .undef, .undef, .undef, .undef, .undef, .undef, .undef, .undef, .undef, .undef, .undef, .undef, .undef, .undef, .undef, .undef, .undef, .undef, .undef, .undef, .undef, .undef, .undef, .undef, .undef, .undef, .undef, .undef, .undef, .undef, .undef, .undef, .undef, .undef, .undef, .undef, .undef, .undef, .undef, .undef, .undef, .undef, .undef, .undef, .undef, .undef, .undef, .undef, .undef, .undef, .undef, .undef, .undef, .undef, .undef, .undef, .undef, .undef, .undef, .undef, .undef, .undef, .undef, .undef, .undef, .undef, .undef, .undef, .undef, .undef, .undef, .undef, .undef, .undef], seg := [(1, .cells [strsV ts, fmsV fs, sgsV ss])], up := [] } : St S))) (fun i : Nat => (i ≤ fs.length)) (fun i : Nat => (fs.length - i)) () ?_ 0 (Nat.zero_le _)
        intro i hi Z1 hZ1
        conv => whnf
        refine bcase_iff.2 ⟨fun h10 => ?_, fun h10 => ?_⟩
        · skip
          have hlt : i < fs.length := by have := of_decide_eq_true h10; rw [hxn] at this; omega
          have hw : IntKind.i64.wrap ((i : Int) + 1) = ((i + 1 : Nat) : Int) := wrap_nat (by omega)
          conv => whnf
          refine ⟨[0, 1, 2, 3, 4, 5, 6, 7, 8, 9, 10, 11, 12, 13, 14, 15], [], [], [], ⟨25108406941546723055343157692830665664409421777856138051583, [], []⟩, by decide +kernel, ?_⟩
          conv => whnf
          refine ⟨_, getI_natsD (by omega), ?_⟩
          conv => whnf
          refine ⟨_, getI_natsD (by omega), ?_⟩
          conv => whnf
          refine ⟨by omega, ?_⟩
          conv => whnf
          refine ⟨by omega, by simp <;> omega, ?_⟩
          conv => whnf
          have h44 := c44 glT (x.take i) (by rw [List.length_take]; omega)
          conv => whnf
          rw [← natsV_take] at h44
          conv => whnf
          refine byC h44 op44 ?_
          conv => whnf
          refine bcase_iff.2 ⟨fun h12x => ?_, fun h12x => ?_⟩
          · skip
            exfalso
            have g := of_decide_eq_true h12x
            have := rg_many hrg (i := i) (by omega)
            omega --done
          · skip
            conv => whnf
            refine loop_q fun Q2 hQ2 => ?_
            refine ⟨⟨1546, [], []⟩, ?_⟩
            refine LoopW_ind _ (fun k : Nat => (({ tmps := [.undef, .own 1 [], .undef, vL (natsV x), .undef, .undef, .undef, .undef, .undef, vI i, vI k, .undef, .undef, .undef, .undef, .undef, .undef, .undef, .undef, .undef, .undef, .undef, .undef, .undef, .undef, .undef, .undef, .undef, .undef, .undef, .undef, .undef, .undef, .undef, .undef, .undef, .undef, .undef, .undef, .undef, .undef, .undef, .undef, .undef, .undef, .undef, .undef, .undef, .undef, .undef, .undef, .undef, .undef, .undef, .undef, .undef, .undef, .undef, .undef, .undef, .undef, .undef, .undef, .undef, .undef, .undef, .undef, .undef, .undef, .undef, .undef, .undef, .undef, .undef, .undef, .undef, .undef, .undef, .undef, .undef, .undef, .undef, .undef, .undef, .undef, .undef, .undef, .undef, .undef, .undef, .undef, .undef, .undef, .undef, .undef, .undef, .undef, .undef, .undef, .undef, .undef, .undef, .undef, .undef, .undef, .undef, .undef, .undef, .undef, .undef, .undef, .undef, .undef, .undef, .undef, .undef, .undef, .undef, .undef, .undef, .undef, .undef, .undef, .undef, .undef, .undef, .undef, .undef, .undef, .undef, .undef, .undef, .undef, .undef, .undef, .undef, .undef, .undef, .undef, .undef, .undef, .undef, .undef, .undef, .undef, .undef, .undef, .undef, .undef, .undef, .undef, .undef, .undef, .undef, .undef, .undef, .undef, .undef, .undef, .undef, .undef, .undef, .undef, .undef, .undef, .undef, .undef, .undef, .undef, .undef, .undef, .undef, .undef, .undef, .undef, .undef, .undef, .undef, .undef, .undef, .undef, .undef, .undef, .undef, .undef, .undef, .undef, .undef, .undef, .undef, .undef, .undef, .undef, .undef], seg := [(1, .cells [strsV ts, fmsV fs, sgsV ss])], up := [] } : St S))) (fun k : Nat => (k ≤ i)) (fun k : Nat => (i - k)) () ?_ 0 (Nat.zero_le _)
            intro k hki Z2 hZ2
            conv => whnf
            refine bcase_iff.2 ⟨fun h15 => ?_, fun h15 => ?_⟩
            · skip
              have hltk : k < i := by have := of_decide_eq_true h15; omega
              have hwk : IntKind.i64.wrap ((k : Int) + 1) = ((k + 1 : Nat) : Int) := wrap_nat (by omega)
              have hkf : k < fs.length := by omega
              conv => whnf
              refine ⟨[0, 1, 2, 3, 4, 5, 6, 7, 8, 9, 10, 11, 12, 13, 14, 15, 16, 17, 18, 19, 20, 21], [], [], [], ⟨25108406941546723055343157692830665664409421777856138051583, [], []⟩, by decide +kernel, ?_⟩
              conv => whnf
              refine ⟨_, getI_natsD (by omega), ?_⟩
              conv => whnf
              refine ⟨_, getI_natsD (by omega), ?_⟩
              conv => whnf
              refine bcase_iff.2 ⟨fun g17_9 => ?_, fun g17_9 => ?_⟩
              · skip
                have q1 : (x.getD i 0 == x.getD k 0) = true := eN g17_9
                conv => whnf
                refine ⟨_, getI_nat hlt, ?_⟩
                conv => whnf
                refine ⟨_, getI_nat hkf, ?_⟩
                conv => whnf
                refine byC (c47 glT fs[i] fs[k]) op47 ?_
                conv => whnf
                refine bcase_iff.2 ⟨fun h17 => ?_, fun h17 => ?_⟩
                · skip
                  exfalso
                  have g : stB fs[i] fs[k] = true := h17
                  exact hsk.fits.diff i k hlt hkf (by unfold stN; rw [getD_at hlt, getD_at hkf, g, Bool.and_true]; simpa using (show i ≠ k by omega)) (by simpa using q1) --done
                · skip
                  -- Z15:TTF
                  conv => whnf
                  refine ⟨⟨1546, [], []⟩, ?_⟩
                  conv => whnf
                  rw [hwk]
                  exact hZ2 (k + 1) hltk (by omega)
              · skip
                -- Z15:TF
                conv => whnf
                refine ⟨⟨1546, [], []⟩, ?_⟩
                conv => whnf
                rw [hwk]
                exact hZ2 (k + 1) hltk (by omega)
            · skip
              have hgek : k = i := by have := of_decide_eq_false h15; omega
              conv => whnf
              refine (hQ2 _ _ _).mpr ?_
              -- Z10:TFF
              conv => whnf
              refine ⟨⟨522, [], []⟩, ?_⟩
              conv => whnf
              rw [hw]
              exact hZ1 (i + 1) hlt (by omega)
        · skip
          have hge : i = fs.length := by have := of_decide_eq_false h10; rw [hxn] at this; omega
          conv => whnf
          refine (hQ1 _ _ _).mpr ?_
          conv => whnf
          refine loop_q fun Q2 hQ2 => ?_
          refine ⟨⟨2058, [], []⟩, ?_⟩
          refine LoopW_ind _ (fun i : Nat => (({ tmps := [.undef, .own 1 [], .undef, vL (natsV x), .undef, .undef, .undef, .undef, .undef, .undef, .undef, vI i, .undef, .undef, .undef, .undef, .undef, .undef, .undef, .undef, .undef, .undef, .undef, .undef, .undef, .undef, .undef, .undef, .undef, .undef, .undef, .undef, .undef, .undef, .undef, .undef, .undef, .undef, .undef, .undef, .undef, .undef, .undef, .undef, .undef, .undef, .undef, .undef, .undef, .undef, .undef, .undef, .undef, .undef, .undef, .undef, .undef, .undef, .undef, .undef, .undef, .undef, .undef, .undef, .undef, .undef, .undef, .undef, .undef, .undef, .undef, .undef, .undef, .undef, .undef, .undef, .undef, .undef, .undef, .undef, .undef, .undef, .undef, .undef, .undef, .undef, .undef, .undef, .undef, .undef, .undef, .undef, .undef, .undef, .undef, .undef, .undef, .undef, .undef, .undef, .undef, .undef, .undef, .undef, .undef, .undef, .undef, .undef, .undef, .undef, .undef, .undef, .undef, .undef, .undef, .undef, .undef, .undef, .undef, .undef, .undef, .undef, .undef, .undef, .undef, .undef, .undef, .undef, .undef, .undef, .undef, .undef, .undef, .undef, .undef, .undef, .undef, .undef, .undef, .undef, .undef, .undef, .undef, .undef, .undef, .undef, .undef, .undef, .undef, .undef, .undef, .undef, .undef, .undef, .undef, .undef, .undef, .undef, .undef, .undef, .undef, .undef, .undef, .undef, .undef, .undef, .undef, .undef, .undef, .undef, .undef, .undef, .undef, .undef, .undef, .undef, .undef, .undef, .undef, .undef, .undef, .undef, .undef, .undef, .undef, .undef, .undef, .undef, .undef, .undef, .undef, .undef, .undef, .undef], seg := [(1, .cells [strsV ts, fmsV fs, sgsV ss])], up := [] } : St S))) (fun i : Nat => (i ≤ ss.length)) (fun i : Nat => (ss.length - i)) () ?_ 0 (Nat.zero_le _)
          intro i hi Z2 hZ2
          conv => whnf
          refine bcase_iff.2 ⟨fun h20 => ?_, fun h20 => ?_⟩
          · skip
            have hlt : i < ss.length := by have := of_decide_eq_true h20; omega
            have hw : IntKind.i64.wrap ((i : Int) + 1) = ((i + 1 : Nat) : Int) := wrap_nat (by omega)
            obtain ⟨hi0, hi1⟩ := hv.s.f _ (List.getElem_mem hlt)
            obtain ⟨ti0, ti1⟩ := hv.s.t _ (List.getElem_mem hlt)
            obtain ⟨fi, hfi⟩ : ∃ n : Nat, ss[i].1 = (n : Int) := ⟨ss[i].1.toNat, by omega⟩
            obtain ⟨ty, hty⟩ : ∃ n : Nat, ss[i].2.1 = (n : Int) := ⟨ss[i].2.1.toNat, by omega⟩
            conv => whnf
            refine loop_q fun Q3 hQ3 => ?_
            refine ⟨⟨6154, [], []⟩, ?_⟩
            refine LoopW_ind _ (fun k : Nat => (({ tmps := [.undef, .own 1 [], .undef, vL (natsV x), .undef, .undef, .undef, .undef, .undef, .undef, .undef, vI i, vI k, .undef, .undef, .undef, .undef, .undef, .undef, .undef, .undef, .undef, .undef, .undef, .undef, .undef, .undef, .undef, .undef, .undef, .undef, .undef, .undef, .undef, .undef, .undef, .undef, .undef, .undef, .undef, .undef, .undef, .undef, .undef, .undef, .undef, .undef, .undef, .undef, .undef, .undef, .undef, .undef, .undef, .undef, .undef, .undef, .undef, .undef, .undef, .undef, .undef, .undef, .undef, .undef, .undef, .undef, .undef, .undef, .undef, .undef, .undef, .undef, .undef, .undef, .undef, .undef, .undef, .undef, .undef, .undef, .undef, .undef, .undef, .undef, .undef, .undef, .undef, .undef, .undef, .undef, .undef, .undef, .undef, .undef, .undef, .undef, .undef, .undef, .undef, .undef, .undef, .undef, .undef, .undef, .undef, .undef, .undef, .undef, .undef, .undef, .undef, .undef, .undef, .undef, .undef, .undef, .undef, .undef, .undef, .undef, .undef, .undef, .undef, .undef, .undef, .undef, .undef, .undef, .undef, .undef, .undef, .undef, .undef, .undef, .undef, .undef, .undef, .undef, .undef, .undef, .undef, .undef, .undef, .undef, .undef, .undef, .undef, .undef, .undef, .undef, .undef, .undef, .undef, .undef, .undef, .undef, .undef, .undef, .undef, .undef, .undef, .undef, .undef, .undef, .undef, .undef, .undef, .undef, .undef, .undef, .undef, .undef, .undef, .undef, .undef, .undef, .undef, .undef, .undef, .undef, .undef, .undef, .undef, .undef, .undef, .undef, .undef, .undef, .undef, .undef, .undef, .undef, .undef], seg := [(1, .cells [strsV ts, fmsV fs, sgsV ss])], up := [] } : St S))) (fun k : Nat => (k ≤ i)) (fun k : Nat => (i - k)) () ?_ 0 (Nat.zero_le _)
            intro k hki Z3 hZ3
            conv => whnf
            refine bcase_iff.2 ⟨fun h23 => ?_, fun h23 => ?_⟩
            · skip
              have hltk : k < i := by have := of_decide_eq_true h23; omega
              have hwk : IntKind.i64.wrap ((k : Int) + 1) = ((k + 1 : Nat) : Int) := wrap_nat (by omega)
              have hks : k < ss.length := by omega
              obtain ⟨hk0, hk1⟩ := hv.s.f _ (List.getElem_mem hks)
              obtain ⟨fk, hfk⟩ : ∃ n : Nat, ss[k].1 = (n : Int) := ⟨ss[k].1.toNat, by omega⟩
              conv => whnf
              refine ⟨[0, 1, 2, 3, 4, 5, 6, 7, 8, 9, 10, 11, 12, 13, 14, 15, 16, 17, 18, 19, 20, 21, 22, 23, 24, 25, 26, 27, 28, 29, 30, 31, 32, 33], [], [], [], ⟨25108406941546723055343157692830665664409421777856138051583, [], []⟩, by decide +kernel, ?_⟩
              conv => whnf
              refine ⟨_, getI_nat hlt, ?_⟩
              conv => whnf
              refine ⟨_, getI_nat hks, ?_⟩
              conv => whnf
              refine bcase_iff.2 ⟨fun g25_13 => ?_, fun g25_13 => ?_⟩
              · skip
                have q1 : ss[i].2.1 = ss[k].2.1 := by have g : (ss[i].2.1 == ss[k].2.1) = true := g25_13; simpa using g
                conv => whnf
                refine ⟨_, getI_nat hlt, ?_⟩
                conv => whnf
                refine ⟨_, (by rw [hfi]; exact getI_natsD (by omega)), ?_⟩
                conv => whnf
                refine ⟨_, getI_nat hks, ?_⟩
                conv => whnf
                refine ⟨_, (by rw [hfk]; exact getI_natsD (by omega)), ?_⟩
                conv => whnf
                refine bcase_iff.2 ⟨fun h25 => ?_, fun h25 => ?_⟩
                · skip
                  exfalso
                  have g : (x.getD fi 0 != x.getD fk 0) = true := nN h25
                  have e := hsk.fits.same fi fk (by omega) (by omega) (seen_com hlt hks q1 hfi hfk hty)
                  simp at e; simp [e] at g --done
                · skip
                  -- Z23:TTF
                  conv => whnf
                  refine ⟨⟨6154, [], []⟩, ?_⟩
                  conv => whnf
                  rw [hwk]
                  exact hZ3 (k + 1) hltk (by omega)
              · skip
                -- Z23:TF
                conv => whnf
                refine ⟨⟨6154, [], []⟩, ?_⟩
                conv => whnf
                rw [hwk]
                exact hZ3 (k + 1) hltk (by omega)
            · skip
              conv => whnf
              refine (hQ3 _ _ _).mpr ?_
              -- Z20:TF
              conv => whnf
              refine ⟨⟨2058, [], []⟩, ?_⟩
              conv => whnf
              rw [hw]
              exact hZ2 (i + 1) hlt (by omega)
          · skip
            have hge : i = ss.length := by have := of_decide_eq_false h20; omega
            conv => whnf
            refine (hQ2 _ _ _).mpr ?_
            conv => whnf
            refine byC ((c27)) op27 ?_
            -- R:cFFFF
            conv => whnf

end Go.Ab.SkF
