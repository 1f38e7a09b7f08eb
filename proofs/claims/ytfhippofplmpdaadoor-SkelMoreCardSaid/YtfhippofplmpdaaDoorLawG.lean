/-
  THE SKELETON FAMILY, PART PX: a job with one more sighting: plain.
  THE SKELETON FAMILY, PART LJ: the law SkelMore.
-/
import Derived.Test.YtfhippofplmpdaaDoorLawF
namespace Go.Ab.SkF
open Go Go.Ab Go.Ab.Pln

theorem seen_more {ss ss' : Sgs} (h : ∀ s ∈ ss, s ∈ ss') {f t : Nat} (hs : seenP ss f t) : seenP ss' f t := by
  obtain ⟨s, h1, h2⟩ := hs
  exact ⟨s, h s h1, h2⟩
theorem com_more {ss ss' : Sgs} (h : ∀ s ∈ ss, s ∈ ss') {a b : Nat} (hc : comP ss a b) : comP ss' a b := by
  obtain ⟨t, h1, h2⟩ := hc
  exact ⟨t, seen_more h h1, seen_more h h2⟩
theorem conn_more {ss ss' : Sgs} (h : ∀ s ∈ ss, s ∈ ss') {a b : Nat} (hc : conn ss a b) : conn ss' a b := by
  induction hc with
  | refl => exact .refl _
  | tail _ h2 ih => exact .tail ih (com_more h h2)
theorem fits_more {fs : Fms} {ss ss' : Sgs} (h : ∀ s ∈ ss, s ∈ ss') {c : Nat → Nat} (hf : Fits fs ss' c) : Fits fs ss c :=
  ⟨fun i k hi hk hc => hf.same i k hi hk (com_more h hc), hf.diff⟩

theorem crack_snoc (fs : Fms) (ss : Sgs) (s : Sg) (t : Int) : crackS fs (ss ++ [s]) t = crackStep fs t (crackS fs ss t) s := by
  unfold crackS; rw [List.foldl_append]; rfl
theorem crack_more (fs : Fms) (ss : Sgs) (s : Sg) (t : Int) : (crackS fs ss t).1 ≤ (crackS fs (ss ++ [s]) t).1 ∧ (crackS fs (ss ++ [s]) t).2 ≤ (crackS fs ss t).2 := by
  rw [crack_snoc]
  unfold crackStep
  split
  · exact ⟨Int.le_refl _, Int.le_refl _⟩
  · split
    · exact ⟨by dsimp only; omega, Int.le_refl _⟩
    · split
      · exact ⟨Int.le_refl _, by dsimp only; omega⟩
      · exact ⟨Int.le_refl _, Int.le_refl _⟩
/-- What holds of a job of which one with one more sighting is valid. -/
structure MoreF (ts : List ByteArray) (fs : Fms) (ss : Sgs) (s : Sg) : Prop where
  valid : Valid ts fs ss
  types : 0 < ts.length
  same : ∀ a b, a < fs.length → b < fs.length → lab fs.length ss a = lab fs.length ss b → lab fs.length (ss ++ [s]) a = lab fs.length (ss ++ [s]) b
  free : clashJ fs (ss ++ [s]) = none → clashJ fs ss = none
  few : ∀ {x u y w}, Skel fs ss x u → Skel fs (ss ++ [s]) y w → u ≤ w
theorem more_facts {ts : List ByteArray} {fs : Fms} {ss : Sgs} {s : Sg} (v : Valid ts fs (ss ++ [s])) : MoreF ts fs ss s := by
  have hm : ∀ x ∈ ss, x ∈ ss ++ [s] := fun x hx => List.mem_append_left _ hx
  have hl := v.s12
  rw [List.length_append, List.length_singleton] at hl
  have v0 : Valid ts fs ss := v.with (v.ok.sub (List.sublist_append_left ss [s])) (by omega)
  have hv := v.job
  have hv0 := v0.job
  refine ⟨v0, ?_, fun a b ha hb h => ?_, fun h => ?_, fun hx hy => ?_⟩
  · have := v.ok.each s (by simp); omega
  · exact (lab_iff hv.n8 hv.s6 ha hb).2 (conn_more hm ((lab_iff hv0.n8 hv0.s6 ha hb).1 h))
  · obtain ⟨c, hc⟩ := (fits_free hv.n8 hv.s6).1 h
    exact (fits_free hv0.n8 hv0.s6).2 ⟨c, fits_more hm hc⟩
  · exact hx.least _ (fits_more hm hy.fits) _ hy.lt
end Go.Ab.SkF

namespace Go.Ab.SkF
open Go Go.Ab Go.Ab.Pln Go.Proofs
set_option maxHeartbeats 1000000
set_option maxRecDepth 100000

theorem lens_more {ts : List ByteArray} {fs : Fms} {ss : Sgs} (h : LensJ ts fs ss) (hl : ss.length ≤ 5864062014634) (s : Sg) : LensJ ts fs (ss ++ [s]) := ⟨h.t, h.f, by rw [List.length_append, List.length_singleton]; omega, h.tn, h.fn⟩
theorem to_k {gl : Gl} {J : AV S} {k k' : Int} {Q : AV S → Prop} (e : k = k') (h : PCalls PR gl 23 [J, vI k'] Q) : PCalls PR gl 23 [J, vI k] Q := by rw [e]; exact h

theorem c13 (ts : List ByteArray) (fs : List Fm) (ss : List Sg) (hL : LensJ ts fs ss) (hs5 : ss.length ≤ 5864062014634) (s : Sg) (t : Int) (ht : 0 ≤ t ∧ t ≤ 255) : PCalls PR glT 13 [.agg [strsV ts, fmsV fs, sgsV ss], .agg [vI s.1, vI s.2.1, vI s.2.2], .int .u8 t] fun r => r = vB true := by
  have hM := lens_more hL hs5 s
  refine fnW_sound (par_ok glT) Tryd.func13 ?_
  conv => whnf
  refine ⟨[0, 1, 2, 4, 3, 5, 6, 7, 8], [3, 5], [], [], ⟨95780971304118053647396689196894323976171195136475135, [], []⟩, by decide +kernel, ?_⟩
  conv => whnf
  refine ⟨(show ss.length ≤ 5900000000000 by omega), ?_⟩
  conv => whnf
  refine ⟨_, rfl, ?_⟩
  conv => whnf
  refine ⟨(by show ss.length + 1 ≤ 5900000000000; omega), ?_⟩
  conv => whnf
  have h3 : chE ts fs (ss ++ [s]) ≠ 0 ∨ (chE ts fs (ss ++ [s]) = 0 ∧ clashJ fs (ss ++ [s]) = none ∧ clashJ fs ss = none) ∨ (chE ts fs (ss ++ [s]) = 0 ∧ clashJ fs (ss ++ [s]) ≠ none ∧ clashJ fs ss = none) ∨ (chE ts fs (ss ++ [s]) = 0 ∧ clashJ fs (ss ++ [s]) ≠ none ∧ clashJ fs ss ≠ none) := by
    rcases Classical.em (chE ts fs (ss ++ [s]) = 0) with h | h
    · have hf := (more_facts (chk_valid.1 h)).free
      rcases Classical.em (clashJ fs (ss ++ [s]) = none) with h1 | h1
      · exact .inr (.inl ⟨h, h1, hf h1⟩)
      · rcases Classical.em (clashJ fs ss = none) with h2 | h2
        · exact .inr (.inr (.inl ⟨h, h1, h2⟩))
        · exact .inr (.inr (.inr ⟨h, h1, h2⟩))
    · exact .inl h
  rcases h3 with hk2 | ⟨hk2, hJ2, hJ⟩ | ⟨hk2, hJ2, hJ⟩ | ⟨hk2, hJ2, hJ⟩
  · skip
    refine byC (c41f glT ts fs (ss ++ [s]) hM hk2) op41 ?_
    conv => whnf
    refine byC ((c27)) op27 ?_
    -- R:a
    conv => whnf
  · skip
    have hW := chk_valid.1 hk2
    have hF := more_facts hW
    have hV := hF.valid
    have hk := chk_valid.2 hV
    have hv := hV.job
    have hv2 := hW.job
    have h7 := hV.n7
    have ht0 := hF.types
    have hz : (ts.length : Int) ≠ 0 := by omega
    have hmt := mod_byte ht ts.length
    have htn : t.toNat % ts.length < ts.length := Nat.mod_lt _ ht0
    generalize t.toNat % ts.length = tn at hmt htn
    have h18 := c18 ts fs ss hL
    rw [groupsS_ok hk] at h18
    have h18m := c18 ts fs (ss ++ [s]) hM
    rw [groupsS_ok hk2] at h18m
    have hll := labL_len fs.length ss
    have hlv := natsV_length (labL fs.length ss)
    have hll2 := labL_len fs.length (ss ++ [s])
    have hlv2 := natsV_length (labL fs.length (ss ++ [s]))
    have h23 := c23 glT ts fs ss hL tn
    rw [crackR_ok hk htn] at h23
    have h23m := c23 glT ts fs (ss ++ [s]) hM tn
    rw [crackR_ok hk2 htn] at h23m
    have hcm := crack_more fs ss s tn
    have h28 := c28 ts fs ss hL
    have h28m := c28 ts fs (ss ++ [s]) hM
    have h21 := c21 ts fs ss hL
    have h21m := c21 ts fs (ss ++ [s]) hM
    obtain ⟨x, u, hx⟩ := skel_of hv.n0 hv.n8 hv.s6 hJ
    obtain ⟨y, w, hy⟩ := skel_of hv2.n0 hv2.n8 hv2.s6 hJ2
    have huw := hF.few hx hy
    rw [fewR_sk hV hx] at h28
    rw [fewR_sk hW hy] at h28m
    rw [clashR_none hk hJ] at h21
    rw [clashR_none hk2 hJ2] at h21m
    refine byC (c41t glT ts fs (ss ++ [s]) hM hk2) op41 ?_
    conv => whnf
    refine byC h18 op18 ?_
    conv => whnf
    refine byC h18m op18 ?_
    conv => whnf
    refine bcase_iff.2 ⟨fun h7x => ?_, fun h7x => ?_⟩
    · skip
      exfalso
      have g : (((natsV (labL fs.length ss)).length : Int) != ((natsV (labL fs.length (ss ++ [s]))).length : Int)) = true := h7x
      rw [hlv, hll, hlv2, hll2] at g; simp at g --done
    · skip
      conv => whnf
      refine loop_q fun Q1 hQ1 => ?_
      refine ⟨⟨5516, [4, 33, 1007, 2007, 3007], [1007, 2007, 3007]⟩, ?_⟩
      refine LoopW_ind _ (fun i : Nat => (({ tmps := [.undef, .undef, .int .u8 t, .own 3 [], .undef, .undef, .undef, .own 7 [], vL (natsV (labL fs.length ss)), .undef, vL (natsV (labL fs.length (ss ++ [s]))), .undef, vI i, .undef, .undef, .undef, .undef, .undef, .undef, .undef, .undef, .undef, .undef, .undef, .undef, .undef, .undef, .undef, .undef, .undef, .undef, .undef, .undef, .undef, .undef, .undef, .undef, .undef, .undef, .undef, .undef, .undef, .undef, .undef, .undef, .undef, .undef, .undef, .undef, .undef, .undef, .undef, .undef, .undef, .undef, .undef, .undef, .undef, .undef, .undef, .undef, .undef, .undef, .undef, .undef, .undef, .undef, .undef, .undef, .undef, .undef, .undef, .undef, .undef, .undef, .undef, .undef, .undef, .undef, .undef, .undef, .undef, .undef, .undef, .undef, .undef, .undef, .undef, .undef, .undef, .undef, .undef, .undef, .undef, .undef, .undef, .undef, .undef, .undef, .undef, .undef, .undef, .undef, .undef, .undef, .undef, .undef, .undef, .undef, .undef, .undef, .undef, .undef, .undef, .undef, .undef, .undef, .undef, .undef, .undef, .undef, .undef, .undef, .undef, .undef, .undef, .undef, .undef, .undef, .undef, .undef, .undef, .undef, .undef, .undef, .undef, .undef, .undef, .undef, .undef, .undef, .undef, .undef, .undef, .undef, .undef, .undef, .undef, .undef, .undef, .undef, .undef, .undef, .undef, .undef, .undef, .undef, .undef, .undef, .undef, .undef, .undef, .undef, .undef, .undef, .undef, .undef, .undef, .undef, .undef, .undef, .undef, .undef, .undef, .undef, .undef], seg := [(3, .cells [strsV ts, fmsV fs, sgsV ss]), (7, .cells [strsV ts, fmsV fs, .sl (S := S) U.sight (ss ++ [s]) (some 31)]), (31, .row U.sight false)], up := [] } : St S))) (fun i : Nat => (i ≤ fs.length)) (fun i : Nat => (fs.length - i)) () ?_ 0 (Nat.zero_le _)
      intro i hi Z1 hZ1
      conv => whnf
      refine bcase_iff.2 ⟨fun h10 => ?_, fun h10 => ?_⟩
      · skip
        have hlt : i < fs.length := by have := of_decide_eq_true h10; rw [hlv, hll] at this; omega
        have hw : IntKind.i64.wrap ((i : Int) + 1) = ((i + 1 : Nat) : Int) := wrap_nat (by omega)
        conv => whnf
        refine loop_q fun Q2 hQ2 => ?_
        refine ⟨⟨13708, [], []⟩, ?_⟩
        refine LoopW_ind _ (fun k : Nat => (({ tmps := [.undef, .undef, .int .u8 t, .own 3 [], .undef, .undef, .undef, .own 7 [], vL (natsV (labL fs.length ss)), .undef, vL (natsV (labL fs.length (ss ++ [s]))), .undef, vI i, vI k, .undef, .undef, .undef, .undef, .undef, .undef, .undef, .undef, .undef, .undef, .undef, .undef, .undef, .undef, .undef, .undef, .undef, .undef, .undef, .undef, .undef, .undef, .undef, .undef, .undef, .undef, .undef, .undef, .undef, .undef, .undef, .undef, .undef, .undef, .undef, .undef, .undef, .undef, .undef, .undef, .undef, .undef, .undef, .undef, .undef, .undef, .undef, .undef, .undef, .undef, .undef, .undef, .undef, .undef, .undef, .undef, .undef, .undef, .undef, .undef, .undef, .undef, .undef, .undef, .undef, .undef, .undef, .undef, .undef, .undef, .undef, .undef, .undef, .undef, .undef, .undef, .undef, .undef, .undef, .undef, .undef, .undef, .undef, .undef, .undef, .undef, .undef, .undef, .undef, .undef, .undef, .undef, .undef, .undef, .undef, .undef, .undef, .undef, .undef, .undef, .undef, .undef, .undef, .undef, .undef, .undef, .undef, .undef, .undef, .undef, .undef, .undef, .undef, .undef, .undef, .undef, .undef, .undef, .undef, .undef, .undef, .undef, .undef, .undef, .undef, .undef, .undef, .undef, .undef, .undef, .undef, .undef, .undef, .undef, .undef, .undef, .undef, .undef, .undef, .undef, .undef, .undef, .undef, .undef, .undef, .undef, .undef, .undef, .undef, .undef, .undef, .undef, .undef, .undef, .undef, .undef, .undef, .undef, .undef, .undef, .undef, .undef], seg := [(3, .cells [strsV ts, fmsV fs, sgsV ss]), (7, .cells [strsV ts, fmsV fs, .sl (S := S) U.sight (ss ++ [s]) (some 31)]), (31, .row U.sight false)], up := [] } : St S))) (fun k : Nat => (k ≤ i)) (fun k : Nat => (i - k)) () ?_ 0 (Nat.zero_le _)
        intro k hki Z2 hZ2
        conv => whnf
        refine bcase_iff.2 ⟨fun h13 => ?_, fun h13 => ?_⟩
        · skip
          have hltk : k < i := by have := of_decide_eq_true h13; omega
          have hwk : IntKind.i64.wrap ((k : Int) + 1) = ((k + 1 : Nat) : Int) := wrap_nat (by omega)
          have hkf : k < fs.length := by omega
          conv => whnf
          refine ⟨[0, 1, 2, 3, 4, 5, 6, 7, 8, 9, 10, 11, 12, 13, 14, 15, 16, 17, 18, 19], [], [], [], ⟨95780971304118053647396689196894323976171195136475135, [], []⟩, by decide +kernel, ?_⟩
          conv => whnf
          refine ⟨_, getI_natsD (by omega), ?_⟩
          conv => whnf
          refine ⟨_, getI_natsD (by omega), ?_⟩
          conv => whnf
          refine bcase_iff.2 ⟨fun g15_9 => ?_, fun g15_9 => ?_⟩
          · skip
            have q1 : lab fs.length ss i = lab fs.length ss k := by have g := eN g15_9; rw [labL_get hlt, labL_get hkf] at g; simpa using g
            have q2 := hF.same i k hlt hkf q1
            conv => whnf
            refine ⟨_, getI_natsD (by omega), ?_⟩
            conv => whnf
            refine ⟨_, getI_natsD (by omega), ?_⟩
            conv => whnf
            refine bcase_iff.2 ⟨fun h15 => ?_, fun h15 => ?_⟩
            · skip
              exfalso
              have g := nN h15
              rw [labL_get hlt, labL_get hkf, q2] at g; simp at g --done
            · skip
              -- Z13:TTF
              conv => whnf
              refine ⟨⟨13708, [], []⟩, ?_⟩
              conv => whnf
              rw [hwk]
              exact hZ2 (k + 1) hltk (by omega)
          · skip
            -- Z13:TF
            conv => whnf
            refine ⟨⟨13708, [], []⟩, ?_⟩
            conv => whnf
            rw [hwk]
            exact hZ2 (k + 1) hltk (by omega)
        · skip
          conv => whnf
          refine (hQ2 _ _ _).mpr ?_
          -- Z10:TF
          conv => whnf
          refine ⟨⟨5516, [], []⟩, ?_⟩
          conv => whnf
          rw [hw]
          exact hZ1 (i + 1) hlt (by omega)
      · skip
        conv => whnf
        refine (hQ1 _ _ _).mpr ?_
        conv => whnf
        refine byC h28 op28 ?_
        conv => whnf
        refine byC h28m op28 ?_
        conv => whnf
        refine bcase_iff.2 ⟨fun h19 => ?_, fun h19 => ?_⟩
        · skip
          exfalso
          have g : decide ((w : Int) < (u : Int)) = true := h19
          have g := of_decide_eq_true g; omega --done
        · skip
          conv => whnf
          refine byC h21 op21 ?_
          conv => whnf
          refine byC h21m op21 ?_
          conv => whnf
          refine ⟨hz, ?_⟩
          conv => whnf
          rcases Classical.em ((crackS fs (ss ++ [s]) tn).1 > (crackS fs (ss ++ [s]) tn).2) with hc | hc
          · skip
            rw [if_pos hc] at h23m
            refine byC (to_k hmt h23) op23 ?_
            conv => whnf
            refine byC (to_k hmt h23m) op23 ?_
            conv => whnf
            refine byC ((c27)) op27 ?_
            -- R:bFFFa
            conv => whnf
            rfl
          · skip
            rw [if_neg hc] at h23m
            rw [if_neg (by omega)] at h23
            refine byC (to_k hmt h23) op23 ?_
            conv => whnf
            refine byC (to_k hmt h23m) op23 ?_
            conv => whnf
            refine bcase_iff.2 ⟨fun g28_12 => ?_, fun g28_12 => ?_⟩
            · skip
              conv => whnf
              refine bcase_iff.2 ⟨fun g28_20 => ?_, fun g28_20 => ?_⟩
              · skip
                conv => whnf
                refine byC ((c27)) op27 ?_
                -- R:bFFFbTT
                conv => whnf
                rfl
              · skip
                exfalso
                have g : decide ((crackS fs (ss ++ [s]) tn).2 ≤ (crackS fs ss tn).2) = false := g28_20
                have g := of_decide_eq_false g; omega --done
            · skip
              exfalso
              have g : decide ((crackS fs (ss ++ [s]) tn).1 ≥ (crackS fs ss tn).1) = false := g28_12
              have g := of_decide_eq_false g; omega --done
  · skip
    have hW := chk_valid.1 hk2
    have hF := more_facts hW
    have hV := hF.valid
    have hk := chk_valid.2 hV
    have hv := hV.job
    have hv2 := hW.job
    have h7 := hV.n7
    have ht0 := hF.types
    have hz : (ts.length : Int) ≠ 0 := by omega
    have hmt := mod_byte ht ts.length
    have htn : t.toNat % ts.length < ts.length := Nat.mod_lt _ ht0
    generalize t.toNat % ts.length = tn at hmt htn
    have h18 := c18 ts fs ss hL
    rw [groupsS_ok hk] at h18
    have h18m := c18 ts fs (ss ++ [s]) hM
    rw [groupsS_ok hk2] at h18m
    have hll := labL_len fs.length ss
    have hlv := natsV_length (labL fs.length ss)
    have hll2 := labL_len fs.length (ss ++ [s])
    have hlv2 := natsV_length (labL fs.length (ss ++ [s]))
    have h23 := c23 glT ts fs ss hL tn
    rw [crackR_ok hk htn] at h23
    have h23m := c23 glT ts fs (ss ++ [s]) hM tn
    rw [crackR_ok hk2 htn] at h23m
    have hcm := crack_more fs ss s tn
    have h28 := c28 ts fs ss hL
    have h28m := c28 ts fs (ss ++ [s]) hM
    have h21 := c21 ts fs ss hL
    have h21m := c21 ts fs (ss ++ [s]) hM
    obtain ⟨x, u, hx⟩ := skel_of hv.n0 hv.n8 hv.s6 hJ
    obtain ⟨p2, hp2⟩ := Option.ne_none_iff_exists'.1 hJ2
    rw [fewR_sk hV hx] at h28
    rw [show fewR ts fs (ss ++ [s]) = ([], 0, 9) by unfold fewR; rw [ask_cl hk2 hp2, if_pos (by decide)]] at h28m
    rw [clashR_none hk hJ] at h21
    refine byC (c41t glT ts fs (ss ++ [s]) hM hk2) op41 ?_
    conv => whnf
    refine byC h18 op18 ?_
    conv => whnf
    refine byC h18m op18 ?_
    conv => whnf
    refine bcase_iff.2 ⟨fun h7x => ?_, fun h7x => ?_⟩
    · skip
      exfalso
      have g : (((natsV (labL fs.length ss)).length : Int) != ((natsV (labL fs.length (ss ++ [s]))).length : Int)) = true := h7x
      rw [hlv, hll, hlv2, hll2] at g; simp at g --done
    · skip
      conv => whnf
      refine loop_q fun Q1 hQ1 => ?_
      refine ⟨⟨5516, [4, 33, 1007, 2007, 3007], [1007, 2007, 3007]⟩, ?_⟩
      refine LoopW_ind _ (fun i : Nat => (({ tmps := [.undef, .undef, .int .u8 t, .own 3 [], .undef, .undef, .undef, .own 7 [], vL (natsV (labL fs.length ss)), .undef, vL (natsV (labL fs.length (ss ++ [s]))), .undef, vI i, .undef, .undef, .undef, .undef, .undef, .undef, .undef, .undef, .undef, .undef, .undef, .undef, .undef, .undef, .undef, .undef, .undef, .undef, .undef, .undef, .undef, .undef, .undef, .undef, .undef, .undef, .undef, .undef, .undef, .undef, .undef, .undef, .undef, .undef, .undef, .undef, .undef, .undef, .undef, .undef, .undef, .undef, .undef, .undef, .undef, .undef, .undef, .undef, .undef, .undef, .undef, .undef, .undef, .undef, .undef, .undef, .undef, .undef, .undef, .undef, .undef, .undef, .undef, .undef, .undef, .undef, .undef, .undef, .undef, .undef, .undef, .undef, .undef, .undef, .undef, .undef, .undef, .undef, .undef, .undef, .undef, .undef, .undef, .undef, .undef, .undef, .undef, .undef, .undef, .undef, .undef, .undef, .undef, .undef, .undef, .undef, .undef, .undef, .undef, .undef, .undef, .undef, .undef, .undef, .undef, .undef, .undef, .undef, .undef, .undef, .undef, .undef, .undef, .undef, .undef, .undef, .undef, .undef, .undef, .undef, .undef, .undef, .undef, .undef, .undef, .undef, .undef, .undef, .undef, .undef, .undef, .undef, .undef, .undef, .undef, .undef, .undef, .undef, .undef, .undef, .undef, .undef, .undef, .undef, .undef, .undef, .undef, .undef, .undef, .undef, .undef, .undef, .undef, .undef, .undef, .undef, .undef, .undef, .undef, .undef, .undef, .undef, .undef], seg := [(3, .cells [strsV ts, fmsV fs, sgsV ss]), (7, .cells [strsV ts, fmsV fs, .sl (S := S) U.sight (ss ++ [s]) (some 31)]), (31, .row U.sight false)], up := [] } : St S))) (fun i : Nat => (i ≤ fs.length)) (fun i : Nat => (fs.length - i)) () ?_ 0 (Nat.zero_le _)
      intro i hi Z1 hZ1
      conv => whnf
      refine bcase_iff.2 ⟨fun h10 => ?_, fun h10 => ?_⟩
      · skip
        have hlt : i < fs.length := by have := of_decide_eq_true h10; rw [hlv, hll] at this; omega
        have hw : IntKind.i64.wrap ((i : Int) + 1) = ((i + 1 : Nat) : Int) := wrap_nat (by omega)
        conv => whnf
        refine loop_q fun Q2 hQ2 => ?_
        refine ⟨⟨13708, [], []⟩, ?_⟩
        refine LoopW_ind _ (fun k : Nat => (({ tmps := [.undef, .undef, .int .u8 t, .own 3 [], .undef, .undef, .undef, .own 7 [], vL (natsV (labL fs.length ss)), .undef, vL (natsV (labL fs.length (ss ++ [s]))), .undef, vI i, vI k, .undef, .undef, .undef, .undef, .undef, .undef, .undef, .undef, .undef, .undef, .undef, .undef, .undef, .undef, .undef, .undef, .undef, .undef, .undef, .undef, .undef, .undef, .undef, .undef, .undef, .undef, .undef, .undef, .undef, .undef, .undef, .undef, .undef, .undef, .undef, .undef, .undef, .undef, .undef, .undef, .undef, .undef, .undef, .undef, .undef, .undef, .undef, .undef, .undef, .undef, .undef, .undef, .undef, .undef, .undef, .undef, .undef, .undef, .undef, .undef, .undef, .undef, .undef, .undef, .undef, .undef, .undef, .undef, .undef, .undef, .undef, .undef, .undef, .undef, .undef, .undef, .undef, .undef, .undef, .undef, .undef, .undef, .undef, .undef, .undef, .undef, .undef, .undef, .undef, .undef, .undef, .undef, .undef, .undef, .undef, .undef, .undef, .undef, .undef, .undef, .undef, .undef, .undef, .undef, .undef, .undef, .undef, .undef, .undef, .undef, .undef, .undef, .undef, .undef, .undef, .undef, .undef, .undef, .undef, .undef, .undef, .undef, .undef, .undef, .undef, .undef, .undef, .undef, .undef, .undef, .undef, .undef, .undef, .undef, .undef, .undef, .undef, .undef, .undef, .undef, .undef, .undef, .undef, .undef, .undef, .undef, .undef, .undef, .undef, .undef, .undef, .undef, .undef, .undef, .undef, .undef, .undef, .undef, .undef, .undef, .undef, .undef], seg := [(3, .cells [strsV ts, fmsV fs, sgsV ss]), (7, .cells [strsV ts, fmsV fs, .sl (S := S) U.sight (ss ++ [s]) (some 31)]), (31, .row U.sight false)], up := [] } : St S))) (fun k : Nat => (k ≤ i)) (fun k : Nat => (i - k)) () ?_ 0 (Nat.zero_le _)
        intro k hki Z2 hZ2
        conv => whnf
        refine bcase_iff.2 ⟨fun h13 => ?_, fun h13 => ?_⟩
        · skip
          have hltk : k < i := by have := of_decide_eq_true h13; omega
          have hwk : IntKind.i64.wrap ((k : Int) + 1) = ((k + 1 : Nat) : Int) := wrap_nat (by omega)
          have hkf : k < fs.length := by omega
          conv => whnf
          refine ⟨[0, 1, 2, 3, 4, 5, 6, 7, 8, 9, 10, 11, 12, 13, 14, 15, 16, 17, 18, 19], [], [], [], ⟨95780971304118053647396689196894323976171195136475135, [], []⟩, by decide +kernel, ?_⟩
          conv => whnf
          refine ⟨_, getI_natsD (by omega), ?_⟩
          conv => whnf
          refine ⟨_, getI_natsD (by omega), ?_⟩
          conv => whnf
          refine bcase_iff.2 ⟨fun g15_9 => ?_, fun g15_9 => ?_⟩
          · skip
            have q1 : lab fs.length ss i = lab fs.length ss k := by have g := eN g15_9; rw [labL_get hlt, labL_get hkf] at g; simpa using g
            have q2 := hF.same i k hlt hkf q1
            conv => whnf
            refine ⟨_, getI_natsD (by omega), ?_⟩
            conv => whnf
            refine ⟨_, getI_natsD (by omega), ?_⟩
            conv => whnf
            refine bcase_iff.2 ⟨fun h15 => ?_, fun h15 => ?_⟩
            · skip
              exfalso
              have g := nN h15
              rw [labL_get hlt, labL_get hkf, q2] at g; simp at g --done
            · skip
              -- Z13:TTF
              conv => whnf
              refine ⟨⟨13708, [], []⟩, ?_⟩
              conv => whnf
              rw [hwk]
              exact hZ2 (k + 1) hltk (by omega)
          · skip
            -- Z13:TF
            conv => whnf
            refine ⟨⟨13708, [], []⟩, ?_⟩
            conv => whnf
            rw [hwk]
            exact hZ2 (k + 1) hltk (by omega)
        · skip
          conv => whnf
          refine (hQ2 _ _ _).mpr ?_
          -- Z10:TF
          conv => whnf
          refine ⟨⟨5516, [], []⟩, ?_⟩
          conv => whnf
          rw [hw]
          exact hZ1 (i + 1) hlt (by omega)
      · skip
        conv => whnf
        refine (hQ1 _ _ _).mpr ?_
        conv => whnf
        refine byC h28 op28 ?_
        conv => whnf
        refine byC h28m op28 ?_
        conv => whnf
        refine byC h21 op21 ?_
        conv => whnf
        refine byC h21m op21 ?_
        conv => whnf
        refine ⟨hz, ?_⟩
        conv => whnf
        rcases Classical.em ((crackS fs (ss ++ [s]) tn).1 > (crackS fs (ss ++ [s]) tn).2) with hc | hc
        · skip
          rw [if_pos hc] at h23m
          refine byC (to_k hmt h23) op23 ?_
          conv => whnf
          refine byC (to_k hmt h23m) op23 ?_
          conv => whnf
          refine byC ((c27)) op27 ?_
          -- R:cFFa
          conv => whnf
          rfl
        · skip
          rw [if_neg hc] at h23m
          rw [if_neg (by omega)] at h23
          refine byC (to_k hmt h23) op23 ?_
          conv => whnf
          refine byC (to_k hmt h23m) op23 ?_
          conv => whnf
          refine bcase_iff.2 ⟨fun g28_12 => ?_, fun g28_12 => ?_⟩
          · skip
            conv => whnf
            refine bcase_iff.2 ⟨fun g28_20 => ?_, fun g28_20 => ?_⟩
            · skip
              conv => whnf
              refine byC ((c27)) op27 ?_
              -- R:cFFbTT
              conv => whnf
              rfl
            · skip
              exfalso
              have g : decide ((crackS fs (ss ++ [s]) tn).2 ≤ (crackS fs ss tn).2) = false := g28_20
              have g := of_decide_eq_false g; omega --done
          · skip
            exfalso
            have g : decide ((crackS fs (ss ++ [s]) tn).1 ≥ (crackS fs ss tn).1) = false := g28_12
            have g := of_decide_eq_false g; omega --done
  · skip
    have hW := chk_valid.1 hk2
    have hF := more_facts hW
    have hV := hF.valid
    have hk := chk_valid.2 hV
    have hv := hV.job
    have hv2 := hW.job
    have h7 := hV.n7
    have ht0 := hF.types
    have hz : (ts.length : Int) ≠ 0 := by omega
    have hmt := mod_byte ht ts.length
    have htn : t.toNat % ts.length < ts.length := Nat.mod_lt _ ht0
    generalize t.toNat % ts.length = tn at hmt htn
    have h18 := c18 ts fs ss hL
    rw [groupsS_ok hk] at h18
    have h18m := c18 ts fs (ss ++ [s]) hM
    rw [groupsS_ok hk2] at h18m
    have hll := labL_len fs.length ss
    have hlv := natsV_length (labL fs.length ss)
    have hll2 := labL_len fs.length (ss ++ [s])
    have hlv2 := natsV_length (labL fs.length (ss ++ [s]))
    have h23 := c23 glT ts fs ss hL tn
    rw [crackR_ok hk htn] at h23
    have h23m := c23 glT ts fs (ss ++ [s]) hM tn
    rw [crackR_ok hk2 htn] at h23m
    have hcm := crack_more fs ss s tn
    have h28 := c28 ts fs ss hL
    have h28m := c28 ts fs (ss ++ [s]) hM
    have h21 := c21 ts fs ss hL
    have h21m := c21 ts fs (ss ++ [s]) hM
    obtain ⟨p1, hp1⟩ := Option.ne_none_iff_exists'.1 hJ
    obtain ⟨p2, hp2⟩ := Option.ne_none_iff_exists'.1 hJ2
    rw [show fewR ts fs ss = ([], 0, 9) by unfold fewR; rw [ask_cl hk hp1, if_pos (by decide)]] at h28
    rw [show fewR ts fs (ss ++ [s]) = ([], 0, 9) by unfold fewR; rw [ask_cl hk2 hp2, if_pos (by decide)]] at h28m
    obtain ⟨a1, b1⟩ := p1
    obtain ⟨a2, b2⟩ := p2
    rw [clashR_some hk hp1] at h21
    rw [clashR_some hk2 hp2] at h21m
    refine byC (c41t glT ts fs (ss ++ [s]) hM hk2) op41 ?_
    conv => whnf
    refine byC h18 op18 ?_
    conv => whnf
    refine byC h18m op18 ?_
    conv => whnf
    refine bcase_iff.2 ⟨fun h7x => ?_, fun h7x => ?_⟩
    · skip
      exfalso
      have g : (((natsV (labL fs.length ss)).length : Int) != ((natsV (labL fs.length (ss ++ [s]))).length : Int)) = true := h7x
      rw [hlv, hll, hlv2, hll2] at g; simp at g --done
    · skip
      conv => whnf
      refine loop_q fun Q1 hQ1 => ?_
      refine ⟨⟨5516, [4, 33, 1007, 2007, 3007], [1007, 2007, 3007]⟩, ?_⟩
      refine LoopW_ind _ (fun i : Nat => (({ tmps := [.undef, .undef, .int .u8 t, .own 3 [], .undef, .undef, .undef, .own 7 [], vL (natsV (labL fs.length ss)), .undef, vL (natsV (labL fs.length (ss ++ [s]))), .undef, vI i, .undef, .undef, .undef, .undef, .undef, .undef, .undef, .undef, .undef, .undef, .undef, .undef, .undef, .undef, .undef, .undef, .undef, .undef, .undef, .undef, .undef, .undef, .undef, .undef, .undef, .undef, .undef, .undef, .undef, .undef, .undef, .undef, .undef, .undef, .undef, .undef, .undef, .undef, .undef, .undef, .undef, .undef, .undef, .undef, .undef, .undef, .undef, .undef, .undef, .undef, .undef, .undef, .undef, .undef, .undef, .undef, .undef, .undef, .undef, .undef, .undef, .undef, .undef, .undef, .undef, .undef, .undef, .undef, .undef, .undef, .undef, .undef, .undef, .undef, .undef, .undef, .undef, .undef, .undef, .undef, .undef, .undef, .undef, .undef, .undef, .undef, .undef, .undef, .undef, .undef, .undef, .undef, .undef, .undef, .undef, .undef, .undef, .undef, .undef, .undef, .undef, .undef, .undef, .undef, .undef, .undef, .undef, .undef, .undef, .undef, .undef, .undef, .undef, .undef, .undef, .undef, .undef, .undef, .undef, .undef, .undef, .undef, .undef, .undef, .undef, .undef, .undef, .undef, .undef, .undef, .undef, .undef, .undef, .undef, .undef, .undef, .undef, .undef, .undef, .undef, .undef, .undef, .undef, .undef, .undef, .undef, .undef, .undef, .undef, .undef, .undef, .undef, .undef, .undef, .undef, .undef, .undef, .undef, .undef, .undef, .undef, .undef, .undef], seg := [(3, .cells [strsV ts, fmsV fs, sgsV ss]), (7, .cells [strsV ts, fmsV fs, .sl (S := S) U.sight (ss ++ [s]) (some 31)]), (31, .row U.sight false)], up := [] } : St S))) (fun i : Nat => (i ≤ fs.length)) (fun i : Nat => (fs.length - i)) () ?_ 0 (Nat.zero_le _)
      intro i hi Z1 hZ1
      conv => whnf
      refine bcase_iff.2 ⟨fun h10 => ?_, fun h10 => ?_⟩
      · skip
        have hlt : i < fs.length := by have := of_decide_eq_true h10; rw [hlv, hll] at this; omega
        have hw : IntKind.i64.wrap ((i : Int) + 1) = ((i + 1 : Nat) : Int) := wrap_nat (by omega)
        conv => whnf
        refine loop_q fun Q2 hQ2 => ?_
        refine ⟨⟨13708, [], []⟩, ?_⟩
        refine LoopW_ind _ (fun k : Nat => (({ tmps := [.undef, .undef, .int .u8 t, .own 3 [], .undef, .undef, .undef, .own 7 [], vL (natsV (labL fs.length ss)), .undef, vL (natsV (labL fs.length (ss ++ [s]))), .undef, vI i, vI k, .undef, .undef, .undef, .undef, .undef, .undef, .undef, .undef, .undef, .undef, .undef, .undef, .undef, .undef, .undef, .undef, .undef, .undef, .undef, .undef, .undef, .undef, .undef, .undef, .undef, .undef, .undef, .undef, .undef, .undef, .undef, .undef, .undef, .undef, .undef, .undef, .undef, .undef, .undef, .undef, .undef, .undef, .undef, .undef, .undef, .undef, .undef, .undef, .undef, .undef, .undef, .undef, .undef, .undef, .undef, .undef, .undef, .undef, .undef, .undef, .undef, .undef, .undef, .undef, .undef, .undef, .undef, .undef, .undef, .undef, .undef, .undef, .undef, .undef, .undef, .undef, .undef, .undef, .undef, .undef, .undef, .undef, .undef, .undef, .undef, .undef, .undef, .undef, .undef, .undef, .undef, .undef, .undef, .undef, .undef, .undef, .undef, .undef, .undef, .undef, .undef, .undef, .undef, .undef, .undef, .undef, .undef, .undef, .undef, .undef, .undef, .undef, .undef, .undef, .undef, .undef, .undef, .undef, .undef, .undef, .undef, .undef, .undef, .undef, .undef, .undef, .undef, .undef, .undef, .undef, .undef, .undef, .undef, .undef, .undef, .undef, .undef, .undef, .undef, .undef, .undef, .undef, .undef, .undef, .undef, .undef, .undef, .undef, .undef, .undef, .undef, .undef, .undef, .undef, .undef, .undef, .undef, .undef, .undef, .undef, .undef, .undef], seg := [(3, .cells [strsV ts, fmsV fs, sgsV ss]), (7, .cells [strsV ts, fmsV fs, .sl (S := S) U.sight (ss ++ [s]) (some 31)]), (31, .row U.sight false)], up := [] } : St S))) (fun k : Nat => (k ≤ i)) (fun k : Nat => (i - k)) () ?_ 0 (Nat.zero_le _)
        intro k hki Z2 hZ2
        conv => whnf
        refine bcase_iff.2 ⟨fun h13 => ?_, fun h13 => ?_⟩
        · skip
          have hltk : k < i := by have := of_decide_eq_true h13; omega
          have hwk : IntKind.i64.wrap ((k : Int) + 1) = ((k + 1 : Nat) : Int) := wrap_nat (by omega)
          have hkf : k < fs.length := by omega
          conv => whnf
          refine ⟨[0, 1, 2, 3, 4, 5, 6, 7, 8, 9, 10, 11, 12, 13, 14, 15, 16, 17, 18, 19], [], [], [], ⟨95780971304118053647396689196894323976171195136475135, [], []⟩, by decide +kernel, ?_⟩
          conv => whnf
          refine ⟨_, getI_natsD (by omega), ?_⟩
          conv => whnf
          refine ⟨_, getI_natsD (by omega), ?_⟩
          conv => whnf
          refine bcase_iff.2 ⟨fun g15_9 => ?_, fun g15_9 => ?_⟩
          · skip
            have q1 : lab fs.length ss i = lab fs.length ss k := by have g := eN g15_9; rw [labL_get hlt, labL_get hkf] at g; simpa using g
            have q2 := hF.same i k hlt hkf q1
            conv => whnf
            refine ⟨_, getI_natsD (by omega), ?_⟩
            conv => whnf
            refine ⟨_, getI_natsD (by omega), ?_⟩
            conv => whnf
            refine bcase_iff.2 ⟨fun h15 => ?_, fun h15 => ?_⟩
            · skip
              exfalso
              have g := nN h15
              rw [labL_get hlt, labL_get hkf, q2] at g; simp at g --done
            · skip
              -- Z13:TTF
              conv => whnf
              refine ⟨⟨13708, [], []⟩, ?_⟩
              conv => whnf
              rw [hwk]
              exact hZ2 (k + 1) hltk (by omega)
          · skip
            -- Z13:TF
            conv => whnf
            refine ⟨⟨13708, [], []⟩, ?_⟩
            conv => whnf
            rw [hwk]
            exact hZ2 (k + 1) hltk (by omega)
        · skip
          conv => whnf
          refine (hQ2 _ _ _).mpr ?_
          -- Z10:TF
          conv => whnf
          refine ⟨⟨5516, [], []⟩, ?_⟩
          conv => whnf
          rw [hw]
          exact hZ1 (i + 1) hlt (by omega)
      · skip
        conv => whnf
        refine (hQ1 _ _ _).mpr ?_
        conv => whnf
        refine byC h28 op28 ?_
        conv => whnf
        refine byC h28m op28 ?_
        conv => whnf
        refine byC h21 op21 ?_
        conv => whnf
        refine byC h21m op21 ?_
        conv => whnf
        refine ⟨hz, ?_⟩
        conv => whnf
        rcases Classical.em ((crackS fs (ss ++ [s]) tn).1 > (crackS fs (ss ++ [s]) tn).2) with hc | hc
        · skip
          rw [if_pos hc] at h23m
          refine byC (to_k hmt h23) op23 ?_
          conv => whnf
          refine byC (to_k hmt h23m) op23 ?_
          conv => whnf
          refine byC ((c27)) op27 ?_
          -- R:dFFa
          conv => whnf
          rfl
        · skip
          rw [if_neg hc] at h23m
          rw [if_neg (by omega)] at h23
          refine byC (to_k hmt h23) op23 ?_
          conv => whnf
          refine byC (to_k hmt h23m) op23 ?_
          conv => whnf
          refine bcase_iff.2 ⟨fun g28_12 => ?_, fun g28_12 => ?_⟩
          · skip
            conv => whnf
            refine bcase_iff.2 ⟨fun g28_20 => ?_, fun g28_20 => ?_⟩
            · skip
              conv => whnf
              refine byC ((c27)) op27 ?_
              -- R:dFFbTT
              conv => whnf
              rfl
            · skip
              exfalso
              have g : decide ((crackS fs (ss ++ [s]) tn).2 ≤ (crackS fs ss tn).2) = false := g28_20
              have g := of_decide_eq_false g; omega --done
          · skip
            exfalso
            have g : decide ((crackS fs (ss ++ [s]) tn).1 ≥ (crackS fs ss tn).1) = false := g28_12
            have g := of_decide_eq_false g; omega --done

end Go.Ab.SkF
