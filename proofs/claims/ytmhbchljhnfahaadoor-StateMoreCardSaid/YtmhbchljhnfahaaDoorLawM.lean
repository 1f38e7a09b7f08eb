/-
  THE STATE FAMILY, PART OI: StateMore.
-/
import Derived.Test.YtmhbchljhnfahaaDoorLawG
namespace Go.Ab.StF
open Go Go.Ab Go.Proofs
set_option maxHeartbeats 1000000
set_option maxRecDepth 100000

theorem more_lens' {xs : List (ByteArray × Int)} {cs : List (ByteArray × List Int)} (hN : LensN xs cs) (h8 : cs.length ≤ 8) {c : ByteArray × List Int} (h1 : c.1.size ≤ 9223372036854775807) (h2 : c.2.length ≤ 9223372036854775807) : LensN xs (cs ++ [c]) := by
  have hm : ∀ d ∈ cs ++ [c], d ∈ cs ∨ d = c := fun d hd => by simpa using hd
  refine ⟨⟨hN.x, by simp; omega, fun d hd => ?_⟩, hN.nx, fun d hd => ?_⟩
  · rcases hm d hd with h | h
    · exact hN.s d h
    · rw [h]; exact h2
  · rcases hm d hd with h | h
    · exact hN.nc d h
    · rw [h]; exact h1
theorem agr_more {xs : List (ByteArray × Int)} {cs : List (ByteArray × List Int)} (c : ByteArray × List Int) : ∀ o ∈ agrL xs (cs ++ [c]), o ∈ agrL xs cs := fun _ ho =>
  mem_agr.2 ⟨(mem_agr.1 ho).1, fun d hd => (mem_agr.1 ho).2 d (List.mem_append_left _ hd)⟩
theorem agr_blank {xs : List (ByteArray × Int)} {cs : List (ByteArray × List Int)} (l : List (Int × Int)) : ∀ o ∈ agrL xs cs, o ∈ agrL xs (blankL cs l) := fun o ho =>
  blank_mem.2 ⟨(mem_agr.1 ho).1, fun i hi => (blankC_less l i _).fits (by rw [showsOf_eq hi]; exact (mem_agr.1 ho).2 _ (List.getElem_mem hi))⟩
theorem agr_few {xs : List (ByteArray × Int)} {cs ds : List (ByteArray × List Int)} (h : ∀ o ∈ agrL xs ds, o ∈ agrL xs cs) : (agrL xs ds).length ≤ (agrL xs cs).length := (agr_nodup xs ds).length_le_of_subset h
theorem less_more {cs : List (ByteArray × List Int)} (c : ByteArray × List Int) : ∀ i, i < cs.length → LessS (showsOf cs i) (showsOf (cs ++ [c]) i) := fun i hi => by
  have : showsOf (cs ++ [c]) i = showsOf cs i := by
    unfold showsOf
    rw [List.getD_eq_getElem?_getD, List.getElem?_append_left hi, ← List.getD_eq_getElem?_getD]
  rw [this]; exact .refl _
theorem less_blank {cs : List (ByteArray × List Int)} (l : List (Int × Int)) : ∀ i, i < (blankL cs l).length → LessS (showsOf (blankL cs l) i) (showsOf cs i) := fun i hi => by
  rw [blank_shows (by rwa [blank_len] at hi)]; exact blankC_less l i _
theorem first_cnt {xs : List (ByteArray × Int)} {cs : List (ByteArray × List Int)} (hc : (chk xs cs).2.2 = 0) : (firstS xs cs).2.1 = ((agrL xs cs).length : Int) := by
  by_cases ha : agrL xs cs = []
  · rw [first_no hc ha, ha]; rfl
  · rw [first_ok hc ha]
theorem first_err' {xs : List (ByteArray × Int)} {cs : List (ByteArray × List Int)} (hc : (chk xs cs).2.2 = 0) : (firstS xs cs).2.2 = 0 ↔ agrL xs cs ≠ [] := by
  by_cases ha : agrL xs cs = []
  · rw [first_no hc ha, ha]; simp
  · rw [first_ok hc ha]; simp [ha]
theorem sure_ne {x y : Int} (h : x = 0 ∨ x = y) (h1 : (x != 0) = true) (h2 : (x != y) = true) : False := by
  rcases h with h | h <;> rw [h] at h1 h2 <;> simp at h1 h2
theorem sure_eq {x y : Int} (h : x = 0 ∨ x = y) (h1 : (x == 0) = false) (h2 : (x == y) = false) : False := by
  rcases h with h | h <;> rw [h] at h1 h2 <;> simp at h1 h2

theorem c60 (gl : Gl) {xs : List (ByteArray × Int)} {cs ds : List (ByteArray × List Int)} (hN : LensN xs cs) (hM : LensN xs ds) (hc : (chk xs cs).2.2 = 0) (hd : (chk xs ds).2.2 = 0) (hsub : ∀ o ∈ agrL xs ds, o ∈ agrL xs cs) (hle : cs.length ≤ ds.length) (hls : ∀ i, i < cs.length → LessS (showsOf cs i) (showsOf ds i)) (p q r s : Int) (hp : 0 ≤ p ∧ p ≤ 255) (hq : 0 ≤ q ∧ q ≤ 255) (hr : 0 ≤ r ∧ r ≤ 255) (hs : 0 ≤ s ∧ s ≤ 255) : PCalls PR gl 60 [.agg [lociV xs, copsV cs], .agg [lociV xs, copsV ds], .agg [.arr (S := S) U.u8 4 [p, q, r, s]]] fun r => r = vB true := by
  have hv := chk_valid hc
  have h1x := hv.l1
  have h5 := hv.l5
  have hc1 := hv.c1
  have hc8 := hv.c8
  obtain ⟨a, hA, ha⟩ := idx_of hq h1x
  obtain ⟨b, hB, hb⟩ := idx_of hr h1x
  obtain ⟨c, hC, hcc⟩ := idx_of hp hc1
  obtain ⟨d, hD, hdd⟩ := idx_of hs hc1
  refine fnW_sound (par_ok gl) Tryd.func60 ?_
  conv => whnf
  rcases Classical.em (agrL xs ds = []) with hz | hz
  · skip
    refine byC (to (c21 gl xs ds hM.toLens) (firstVn hd hz)) op21 ?_
    -- R:a
    conv => whnf
    first | done | rfl | exact congrArg vB (decide_eq_true has.2)
  · skip
    refine byC (to (c21 gl xs ds hM.toLens) (firstVy hd hz)) op21 ?_
    have hy : agrL xs cs ≠ [] := by obtain ⟨o, ho⟩ := List.exists_mem_of_ne_nil _ hz; exact fun h => by have := hsub o ho; rw [h] at this; cases this
    have hrs := (read_sure hc hd hsub hz ha).2.2
    have hes := (ear_sure hc hd hsub hz hcc hdd hle (hls _ hcc) (hls _ hdd)).2.2
    have has := (aft_sure hc hd hsub hz hcc hle (hls _ hcc)).2.2
    conv => whnf
    refine ⟨[0, 1, 2, 3, 4, 5, 6, 7, 8, 9, 10, 11, 12, 13, 14, 15], [], [], [], ⟨766247770432944429179173513575154591809369561091801087, [], []⟩, by decide +kernel, ?_⟩
    conv => whnf
    refine ⟨by omega, by omega, ?_⟩
    conv => whnf
    refine ⟨_, rfl, ?_⟩
    conv => whnf
    refine ⟨by omega, ?_⟩
    conv => whnf
    refine ⟨by omega, by omega, ?_⟩
    conv => whnf
    refine ⟨_, rfl, ?_⟩
    conv => whnf
    refine ⟨by omega, ?_⟩
    conv => whnf
    refine ⟨[0, 1, 2, 3, 4, 5, 6, 7, 8, 9, 10, 11, 12, 13, 14, 15], [], [], [], ⟨766247770432944429179173513575154591809369561091801087, [], []⟩, by decide +kernel, ?_⟩
    conv => whnf
    refine ⟨by omega, by omega, ?_⟩
    conv => whnf
    refine ⟨_, rfl, ?_⟩
    conv => whnf
    refine ⟨by omega, ?_⟩
    conv => whnf
    refine ⟨by omega, by omega, ?_⟩
    conv => whnf
    refine ⟨_, rfl, ?_⟩
    conv => whnf
    refine ⟨by omega, ?_⟩
    conv => whnf
    refine byC (to (c27 gl xs cs hN.toLens _) (rdVv hc hy hA ha)) op27 ?_
    conv => whnf
    refine byC (to (c27 gl xs ds hM.toLens _) (rdVv hd hz hA ha)) op27 ?_
    conv => whnf
    refine bcase_iff.2 ⟨fun g8_9 => ?_, fun g8_9 => ?_⟩
    · skip
      conv => whnf
      refine bcase_iff.2 ⟨fun h8 => ?_, fun h8 => ?_⟩
      · skip
        exfalso
        exact sure_ne hrs g8_9 h8 --done
      · skip
        conv => whnf
        refine bcase_iff.2 ⟨fun h10 => ?_, fun h10 => ?_⟩
        · skip
          have hne := ne_of hA hB h10
          have hbs := (bef_sure hc hd hsub hz ha hb hne).2.2
          conv => whnf
          refine byC (to (c29 gl xs cs hN.toLens _ _) (bfV hc hy hA hB ha hb hne)) op29 ?_
          conv => whnf
          refine byC (to (c29 gl xs ds hM.toLens _ _) (bfV hd hz hA hB ha hb hne)) op29 ?_
          conv => whnf
          refine bcase_iff.2 ⟨fun g13_9 => ?_, fun g13_9 => ?_⟩
          · skip
            conv => whnf
            refine bcase_iff.2 ⟨fun h13 => ?_, fun h13 => ?_⟩
            · skip
              exfalso
              exact sure_ne hbs g13_9 h13 --done
            · skip
              conv => whnf
              refine byC (to (c33 gl xs cs hN.toLens _ _) (erV hc hy hC hD hcc hdd)) op33 ?_
              conv => whnf
              refine byC (to (c33 gl xs ds hM.toLens _ _) (erV hd hz hC hD (Nat.lt_of_lt_of_le hcc hle) (Nat.lt_of_lt_of_le hdd hle))) op33 ?_
              conv => whnf
              refine byC (to (c31 gl xs cs hN.toLens _) (afV hc hy hC hcc)) op31 ?_
              conv => whnf
              refine byC (to (c31 gl xs ds hM.toLens _) (afV hd hz hC (Nat.lt_of_lt_of_le hcc hle))) op31 ?_
              conv => whnf
              refine bcase_iff.2 ⟨fun g19_17 => ?_, fun g19_17 => ?_⟩
              · skip
                conv => whnf
                refine bcase_iff.2 ⟨fun g19_30 => ?_, fun g19_30 => ?_⟩
                · skip
                  -- R:bTFTTFTT
                  conv => whnf
                  exact congrArg vB (decide_eq_true has.2)
                · skip
                  exfalso
                  have h := of_decide_eq_false g19_30; exact h has.1 --done
              · skip
                conv => whnf
                refine bcase_iff.2 ⟨fun g19_23 => ?_, fun g19_23 => ?_⟩
                · skip
                  conv => whnf
                  refine bcase_iff.2 ⟨fun g19_30 => ?_, fun g19_30 => ?_⟩
                  · skip
                    -- R:bTFTTFFTT
                    conv => whnf
                    exact congrArg vB (decide_eq_true has.2)
                  · skip
                    exfalso
                    have h := of_decide_eq_false g19_30; exact h has.1 --done
                · skip
                  exfalso
                  exact sure_eq hes g19_17 g19_23 --done
          · skip
            conv => whnf
            refine byC (to (c33 gl xs cs hN.toLens _ _) (erV hc hy hC hD hcc hdd)) op33 ?_
            conv => whnf
            refine byC (to (c33 gl xs ds hM.toLens _ _) (erV hd hz hC hD (Nat.lt_of_lt_of_le hcc hle) (Nat.lt_of_lt_of_le hdd hle))) op33 ?_
            conv => whnf
            refine byC (to (c31 gl xs cs hN.toLens _) (afV hc hy hC hcc)) op31 ?_
            conv => whnf
            refine byC (to (c31 gl xs ds hM.toLens _) (afV hd hz hC (Nat.lt_of_lt_of_le hcc hle))) op31 ?_
            conv => whnf
            refine bcase_iff.2 ⟨fun g19_17 => ?_, fun g19_17 => ?_⟩
            · skip
              conv => whnf
              refine bcase_iff.2 ⟨fun g19_30 => ?_, fun g19_30 => ?_⟩
              · skip
                -- R:bTFTFTT
                conv => whnf
                exact congrArg vB (decide_eq_true has.2)
              · skip
                exfalso
                have h := of_decide_eq_false g19_30; exact h has.1 --done
            · skip
              conv => whnf
              refine bcase_iff.2 ⟨fun g19_23 => ?_, fun g19_23 => ?_⟩
              · skip
                conv => whnf
                refine bcase_iff.2 ⟨fun g19_30 => ?_, fun g19_30 => ?_⟩
                · skip
                  -- R:bTFTFFTT
                  conv => whnf
                  exact congrArg vB (decide_eq_true has.2)
                · skip
                  exfalso
                  have h := of_decide_eq_false g19_30; exact h has.1 --done
              · skip
                exfalso
                exact sure_eq hes g19_17 g19_23 --done
        · skip
          conv => whnf
          refine byC (to (c33 gl xs cs hN.toLens _ _) (erV hc hy hC hD hcc hdd)) op33 ?_
          conv => whnf
          refine byC (to (c33 gl xs ds hM.toLens _ _) (erV hd hz hC hD (Nat.lt_of_lt_of_le hcc hle) (Nat.lt_of_lt_of_le hdd hle))) op33 ?_
          conv => whnf
          refine byC (to (c31 gl xs cs hN.toLens _) (afV hc hy hC hcc)) op31 ?_
          conv => whnf
          refine byC (to (c31 gl xs ds hM.toLens _) (afV hd hz hC (Nat.lt_of_lt_of_le hcc hle))) op31 ?_
          conv => whnf
          refine bcase_iff.2 ⟨fun g19_17 => ?_, fun g19_17 => ?_⟩
          · skip
            conv => whnf
            refine bcase_iff.2 ⟨fun g19_30 => ?_, fun g19_30 => ?_⟩
            · skip
              -- R:bTFFTT
              conv => whnf
              exact congrArg vB (decide_eq_true has.2)
            · skip
              exfalso
              have h := of_decide_eq_false g19_30; exact h has.1 --done
          · skip
            conv => whnf
            refine bcase_iff.2 ⟨fun g19_23 => ?_, fun g19_23 => ?_⟩
            · skip
              conv => whnf
              refine bcase_iff.2 ⟨fun g19_30 => ?_, fun g19_30 => ?_⟩
              · skip
                -- R:bTFFFTT
                conv => whnf
                exact congrArg vB (decide_eq_true has.2)
              · skip
                exfalso
                have h := of_decide_eq_false g19_30; exact h has.1 --done
            · skip
              exfalso
              exact sure_eq hes g19_17 g19_23 --done
    · skip
      conv => whnf
      refine bcase_iff.2 ⟨fun h10 => ?_, fun h10 => ?_⟩
      · skip
        have hne := ne_of hA hB h10
        have hbs := (bef_sure hc hd hsub hz ha hb hne).2.2
        conv => whnf
        refine byC (to (c29 gl xs cs hN.toLens _ _) (bfV hc hy hA hB ha hb hne)) op29 ?_
        conv => whnf
        refine byC (to (c29 gl xs ds hM.toLens _ _) (bfV hd hz hA hB ha hb hne)) op29 ?_
        conv => whnf
        refine bcase_iff.2 ⟨fun g13_9 => ?_, fun g13_9 => ?_⟩
        · skip
          conv => whnf
          refine bcase_iff.2 ⟨fun h13 => ?_, fun h13 => ?_⟩
          · skip
            exfalso
            exact sure_ne hbs g13_9 h13 --done
          · skip
            conv => whnf
            refine byC (to (c33 gl xs cs hN.toLens _ _) (erV hc hy hC hD hcc hdd)) op33 ?_
            conv => whnf
            refine byC (to (c33 gl xs ds hM.toLens _ _) (erV hd hz hC hD (Nat.lt_of_lt_of_le hcc hle) (Nat.lt_of_lt_of_le hdd hle))) op33 ?_
            conv => whnf
            refine byC (to (c31 gl xs cs hN.toLens _) (afV hc hy hC hcc)) op31 ?_
            conv => whnf
            refine byC (to (c31 gl xs ds hM.toLens _) (afV hd hz hC (Nat.lt_of_lt_of_le hcc hle))) op31 ?_
            conv => whnf
            refine bcase_iff.2 ⟨fun g19_17 => ?_, fun g19_17 => ?_⟩
            · skip
              conv => whnf
              refine bcase_iff.2 ⟨fun g19_30 => ?_, fun g19_30 => ?_⟩
              · skip
                -- R:bFTTFTT
                conv => whnf
                exact congrArg vB (decide_eq_true has.2)
              · skip
                exfalso
                have h := of_decide_eq_false g19_30; exact h has.1 --done
            · skip
              conv => whnf
              refine bcase_iff.2 ⟨fun g19_23 => ?_, fun g19_23 => ?_⟩
              · skip
                conv => whnf
                refine bcase_iff.2 ⟨fun g19_30 => ?_, fun g19_30 => ?_⟩
                · skip
                  -- R:bFTTFFTT
                  conv => whnf
                  exact congrArg vB (decide_eq_true has.2)
                · skip
                  exfalso
                  have h := of_decide_eq_false g19_30; exact h has.1 --done
              · skip
                exfalso
                exact sure_eq hes g19_17 g19_23 --done
        · skip
          conv => whnf
          refine byC (to (c33 gl xs cs hN.toLens _ _) (erV hc hy hC hD hcc hdd)) op33 ?_
          conv => whnf
          refine byC (to (c33 gl xs ds hM.toLens _ _) (erV hd hz hC hD (Nat.lt_of_lt_of_le hcc hle) (Nat.lt_of_lt_of_le hdd hle))) op33 ?_
          conv => whnf
          refine byC (to (c31 gl xs cs hN.toLens _) (afV hc hy hC hcc)) op31 ?_
          conv => whnf
          refine byC (to (c31 gl xs ds hM.toLens _) (afV hd hz hC (Nat.lt_of_lt_of_le hcc hle))) op31 ?_
          conv => whnf
          refine bcase_iff.2 ⟨fun g19_17 => ?_, fun g19_17 => ?_⟩
          · skip
            conv => whnf
            refine bcase_iff.2 ⟨fun g19_30 => ?_, fun g19_30 => ?_⟩
            · skip
              -- R:bFTFTT
              conv => whnf
              exact congrArg vB (decide_eq_true has.2)
            · skip
              exfalso
              have h := of_decide_eq_false g19_30; exact h has.1 --done
          · skip
            conv => whnf
            refine bcase_iff.2 ⟨fun g19_23 => ?_, fun g19_23 => ?_⟩
            · skip
              conv => whnf
              refine bcase_iff.2 ⟨fun g19_30 => ?_, fun g19_30 => ?_⟩
              · skip
                -- R:bFTFFTT
                conv => whnf
                exact congrArg vB (decide_eq_true has.2)
              · skip
                exfalso
                have h := of_decide_eq_false g19_30; exact h has.1 --done
            · skip
              exfalso
              exact sure_eq hes g19_17 g19_23 --done
      · skip
        conv => whnf
        refine byC (to (c33 gl xs cs hN.toLens _ _) (erV hc hy hC hD hcc hdd)) op33 ?_
        conv => whnf
        refine byC (to (c33 gl xs ds hM.toLens _ _) (erV hd hz hC hD (Nat.lt_of_lt_of_le hcc hle) (Nat.lt_of_lt_of_le hdd hle))) op33 ?_
        conv => whnf
        refine byC (to (c31 gl xs cs hN.toLens _) (afV hc hy hC hcc)) op31 ?_
        conv => whnf
        refine byC (to (c31 gl xs ds hM.toLens _) (afV hd hz hC (Nat.lt_of_lt_of_le hcc hle))) op31 ?_
        conv => whnf
        refine bcase_iff.2 ⟨fun g19_17 => ?_, fun g19_17 => ?_⟩
        · skip
          conv => whnf
          refine bcase_iff.2 ⟨fun g19_30 => ?_, fun g19_30 => ?_⟩
          · skip
            -- R:bFFTT
            conv => whnf
            exact congrArg vB (decide_eq_true has.2)
          · skip
            exfalso
            have h := of_decide_eq_false g19_30; exact h has.1 --done
        · skip
          conv => whnf
          refine bcase_iff.2 ⟨fun g19_23 => ?_, fun g19_23 => ?_⟩
          · skip
            conv => whnf
            refine bcase_iff.2 ⟨fun g19_30 => ?_, fun g19_30 => ?_⟩
            · skip
              -- R:bFFFTT
              conv => whnf
              exact congrArg vB (decide_eq_true has.2)
            · skip
              exfalso
              have h := of_decide_eq_false g19_30; exact h has.1 --done
          · skip
            exfalso
            exact sure_eq hes g19_17 g19_23 --done

theorem op60 : Opens PR 60 := ⟨_, Tryd.func60, rfl, rfl⟩

theorem c12 (xs : List (ByteArray × Int)) (cs : List (ByteArray × List Int)) (hN : LensN xs cs) (nm : ByteArray) (ss : List Int) (hnm : nm.size ≤ 9223372036854775807) (hss : ss.length ≤ 9223372036854775807) (p q r s : Int) (hp : 0 ≤ p ∧ p ≤ 255) (hq : 0 ≤ q ∧ q ≤ 255) (hr : 0 ≤ r ∧ r ≤ 255) (hs : 0 ≤ s ∧ s ≤ 255) : PCalls PR glT 12 [.agg [lociV xs, copsV cs], .agg [.str nm, vL ss], .agg [.arr (S := S) U.u8 4 [p, q, r, s]]] fun r => r = vB true := by
  refine fnW_sound (par_ok glT) Tryd.func12 ?_
  conv => whnf
  refine byC (c44 glT xs cs hN) op44 ?_
  conv => whnf
  refine bcase_iff.2 ⟨fun h1 => ?_, fun h1 => ?_⟩
  · skip
    conv => whnf
    refine byC ((c26)) op26 ?_
    -- R:T
    conv => whnf
    first | done | rfl
  · skip
    have hc := is_chk h1
    have hv := chk_valid hc
    have h1x := hv.l1
    have h5 := hv.l5
    have hc1 := hv.c1
    have hc8 := hv.c8
    obtain ⟨a, hA, ha⟩ := idx_of hp hc1
    obtain ⟨b, hB, hb⟩ := idx_of hq h1x
    obtain ⟨bl, hbl⟩ : ∃ l : List (Int × Int), l = [((a : Int), (b : Int))] := ⟨_, rfl⟩
    have hcb := blank_chk hc bl
    have hNb := blank_lens hN bl
    have hNm := more_lens' (c := (nm, ss)) hN hc8 hnm hss
    obtain ⟨F, hF⟩ : ∃ F, F = firstS xs cs := ⟨_, rfl⟩
    obtain ⟨G, hG⟩ : ∃ G, G = firstS xs (blankL cs bl) := ⟨_, rfl⟩
    have hFc := first_cnt hc
    have hGc := first_cnt hcb
    have hFe := first_err' hc
    have hGe := first_err' hcb
    rw [← hF] at hFc hFe
    rw [← hG] at hGc hGe
    have hfw := agr_few (agr_blank (xs := xs) (cs := cs) bl)
    conv => whnf
    refine ⟨[0, 1, 2, 4, 3, 5, 6, 7, 8], [3, 5], [], [], ⟨633825300114114700748351602687, [], []⟩, by decide +kernel, ?_⟩
    conv => whnf
    refine ⟨lim (by simp; omega), ?_⟩
    conv => whnf
    refine ⟨_, rfl, ?_⟩
    conv => whnf
    refine ⟨lim (by simp; omega), ?_⟩
    conv => whnf
    refine ⟨[0, 1, 2, 3, 4, 5, 6, 7, 8, 9, 10, 11, 12, 13, 14, 15, 16, 17, 18, 19], [16, 18], [], [], ⟨633825300114114700748351602687, [], []⟩, by decide +kernel, ?_⟩
    conv => whnf
    refine ⟨by omega, by omega, ?_⟩
    conv => whnf
    refine ⟨_, rfl, ?_⟩
    conv => whnf
    refine ⟨by omega, ?_⟩
    conv => whnf
    refine ⟨by omega, by omega, ?_⟩
    conv => whnf
    refine ⟨_, rfl, ?_⟩
    conv => whnf
    refine ⟨by omega, ?_⟩
    conv => whnf
    refine ⟨_, rfl, ?_⟩
    conv => whnf
    refine byC (to (c59 glT xs cs xs.length h5 hc8 (fun c hc => hv.len c hc) [(_, _)] (by simp) (fun p hp => by rw [List.mem_singleton.1 hp, hB]; exact ⟨Int.natCast_nonneg _, Int.ofNat_lt.2 hb⟩)) (show _ = .agg [lociV xs, copsV (blankL cs bl)] by rw [hbl, ← hA, ← hB])) op59 ?_
    conv => whnf
    refine byC (to (c21 glT xs cs hN.toLens) (by rw [first_eq, ← hF])) op21 ?_
    conv => whnf
    refine byC (to (c21 glT xs (blankL cs bl) hNb.toLens) (by rw [first_eq, ← hG])) op21 ?_
    conv => whnf
    refine bcase_iff.2 ⟨fun g8_3 => ?_, fun g8_3 => ?_⟩
    · skip
      exfalso
      have h := of_decide_eq_true g8_3; omega --done
    · skip
      conv => whnf
      refine bcase_iff.2 ⟨fun g8_6 => ?_, fun g8_6 => ?_⟩
      · skip
        conv => whnf
        refine bcase_iff.2 ⟨fun h8 => ?_, fun h8 => ?_⟩
        · skip
          exfalso
          have h8 : (G.2.2 != 0) = true := h8; have h := hGe.2 (by obtain ⟨o, ho⟩ := List.exists_mem_of_ne_nil _ (hFe.1 (beq_iff_eq.1 g8_6)); exact fun h => by have := agr_blank bl o ho; rw [h] at this; cases this); rw [h] at h8; cases h8 --done
        · skip
          conv => whnf
          refine byC (c60 glT hNb hN hcb hc (agr_blank bl) (by rw [blank_len]; exact Nat.le_refl _) (less_blank bl) p q r s hp hq hr hs) op60 ?_
          conv => whnf
          refine byC (c44 glT xs (cs ++ [(nm, ss)]) hNm) op44 ?_
          conv => whnf
          refine bcase_iff.2 ⟨fun h12 => ?_, fun h12 => ?_⟩
          · skip
            conv => whnf
            refine byC ((c26)) op26 ?_
            -- R:FFTFT
            conv => whnf
            first | done | rfl
          · skip
            have hd := is_chk h12
            obtain ⟨H, hH⟩ : ∃ H, H = firstS xs (cs ++ [(nm, ss)]) := ⟨_, rfl⟩
            have hHc := first_cnt hd
            rw [← hH] at hHc
            have hfm := agr_few (agr_more (xs := xs) (cs := cs) (nm, ss))
            conv => whnf
            refine byC (to (c21 glT xs (cs ++ [(nm, ss)]) hNm.toLens) (by rw [first_eq, ← hH])) op21 ?_
            conv => whnf
            refine bcase_iff.2 ⟨fun g15_3 => ?_, fun g15_3 => ?_⟩
            · skip
              conv => whnf
              refine byC (c60 glT hN hNm hc hd (agr_more (nm, ss)) (by simp) (less_more (nm, ss)) p q r s hp hq hr hs) op60 ?_
              conv => whnf
              refine byC ((c26)) op26 ?_
              -- R:FFTFFT
              conv => whnf
              first | done | rfl
            · skip
              exfalso
              have h := of_decide_eq_false g15_3; omega --done
      · skip
        conv => whnf
        refine byC (c60 glT hNb hN hcb hc (agr_blank bl) (by rw [blank_len]; exact Nat.le_refl _) (less_blank bl) p q r s hp hq hr hs) op60 ?_
        conv => whnf
        refine byC (c44 glT xs (cs ++ [(nm, ss)]) hNm) op44 ?_
        conv => whnf
        refine bcase_iff.2 ⟨fun h12 => ?_, fun h12 => ?_⟩
        · skip
          conv => whnf
          refine byC ((c26)) op26 ?_
          -- R:FFFT
          conv => whnf
          first | done | rfl
        · skip
          have hd := is_chk h12
          obtain ⟨H, hH⟩ : ∃ H, H = firstS xs (cs ++ [(nm, ss)]) := ⟨_, rfl⟩
          have hHc := first_cnt hd
          rw [← hH] at hHc
          have hfm := agr_few (agr_more (xs := xs) (cs := cs) (nm, ss))
          conv => whnf
          refine byC (to (c21 glT xs (cs ++ [(nm, ss)]) hNm.toLens) (by rw [first_eq, ← hH])) op21 ?_
          conv => whnf
          refine bcase_iff.2 ⟨fun g15_3 => ?_, fun g15_3 => ?_⟩
          · skip
            conv => whnf
            refine byC (c60 glT hN hNm hc hd (agr_more (nm, ss)) (by simp) (less_more (nm, ss)) p q r s hp hq hr hs) op60 ?_
            conv => whnf
            refine byC ((c26)) op26 ?_
            -- R:FFFFT
            conv => whnf
            first | done | rfl
          · skip
            exfalso
            have h := of_decide_eq_false g15_3; omega --done

end Go.Ab.StF
