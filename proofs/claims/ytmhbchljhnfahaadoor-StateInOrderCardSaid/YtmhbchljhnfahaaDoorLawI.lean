/-
  THE STATE FAMILY, PART OB: StateInOrder.
-/
import Derived.Test.YtmhbchljhnfahaaDoorLawB
namespace Go.Ab.StF
open Go Go.Ab Go.Proofs
set_option maxHeartbeats 1000000
set_option maxRecDepth 100000

theorem c14 (xs : List (ByteArray × Int)) (cs : List (ByteArray × List Int)) (hN : LensN xs cs) (p q r : Int) (hp : 0 ≤ p ∧ p ≤ 255) (hq : 0 ≤ q ∧ q ≤ 255) (hr : 0 ≤ r ∧ r ≤ 255) : PCalls PR glT 14 [.agg [lociV xs, copsV cs], .agg [.arr (S := S) U.u8 3 [p, q, r]]] fun r => r = vB true := by
  refine fnW_sound (par_ok glT) Tryd.func14 ?_
  conv => whnf
  refine byC (c44 glT xs cs hN) op44 ?_
  conv => whnf
  refine bcase_iff.2 ⟨fun h1 => ?_, fun h1 => ?_⟩
  · skip
    conv => whnf
    refine byC ((c26)) op26 ?_
    -- R:T
    conv => whnf
    first | done | rfl
  · skip
    have hc := is_chk h1
    have hv := chk_valid hc
    have h1x := hv.l1
    have h5 := hv.l5
    have hc1 := hv.c1
    have hc8 := hv.c8
    conv => whnf
    rcases Classical.em (agrL xs cs = []) with ha | ha
    · skip
      refine byC (to (c21 glT xs cs hN.toLens) (firstVn hc ha)) op21 ?_
      conv => whnf
      refine byC ((c26)) op26 ?_
      -- R:Fa
      conv => whnf
      first | done | rfl
    · skip
      refine byC (to (c21 glT xs cs hN.toLens) (firstVy hc ha)) op21 ?_
      conv => whnf
      refine ⟨[0, 1, 2, 3, 4, 5, 6, 7, 8, 9, 10, 11, 12, 13, 14, 15, 16, 17, 18, 19, 20, 21, 22, 23], [], [], [], ⟨15541351137805832567355695254588151253139254712417116170014499277911234281641667985407, [], []⟩, by decide +kernel, ?_⟩
      conv => whnf
      refine ⟨by omega, by omega, ?_⟩
      conv => whnf
      refine ⟨_, rfl, ?_⟩
      conv => whnf
      obtain ⟨a, hA, ha1⟩ := idx_of hp h1x
      obtain ⟨b, hB, hb1⟩ := idx_of hq h1x
      obtain ⟨c, hC, hc2⟩ := idx_of hr h1x
      refine ⟨by omega, ?_⟩
      conv => whnf
      refine ⟨by omega, by omega, ?_⟩
      conv => whnf
      refine ⟨_, rfl, ?_⟩
      conv => whnf
      refine ⟨by omega, ?_⟩
      conv => whnf
      refine ⟨by omega, by omega, ?_⟩
      conv => whnf
      refine ⟨_, rfl, ?_⟩
      conv => whnf
      refine ⟨by omega, ?_⟩
      conv => whnf
      apply join
      · intro hJ14
        conv => whnf
        refine bcase_iff.2 ⟨fun g7_3 => ?_, fun g7_3 => ?_⟩
        · skip
          have n1 := ne_of hA hB g7_3
          conv => whnf
          refine bcase_iff.2 ⟨fun g7_8 => ?_, fun g7_8 => ?_⟩
          · skip
            have n2 := ne_of hB hC g7_8
            conv => whnf
            refine bcase_iff.2 ⟨fun h7 => ?_, fun h7 => ?_⟩
            · skip
              have n3 := ne_of hA hC h7
              conv => whnf
              refine byC (to (c29 glT xs cs hN.toLens _ _) (bfV hc ha hA hB ha1 hb1 n1)) op29 ?_
              conv => whnf
              refine byC (to (c29 glT xs cs hN.toLens _ _) (bfV hc ha hB hC hb1 hc2 n2)) op29 ?_
              conv => whnf
              refine byC (to (c29 glT xs cs hN.toLens _ _) (bfV hc ha hA hC ha1 hc2 n3)) op29 ?_
              conv => whnf
              refine byC (to (c29 glT xs cs hN.toLens _ _) (bfV hc ha hB hA hb1 ha1 (Ne.symm n1))) op29 ?_
              conv => whnf
              refine bcase_iff.2 ⟨fun g12_17 => ?_, fun g12_17 => ?_⟩
              · skip
                conv => whnf
                refine bcase_iff.2 ⟨fun g12_21 => ?_, fun g12_21 => ?_⟩
                · skip
                  conv => whnf
                  refine bcase_iff.2 ⟨fun g12_26 => ?_, fun g12_26 => ?_⟩
                  · skip
                    exfalso
                    have e := bef_chain hc ha ha1 hb1 hc2 n1 n2 n3 (beq_iff_eq.1 g12_17) (beq_iff_eq.1 g12_21); rw [e] at g12_26; cases g12_26 --done
                  · skip
                    conv => whnf
                    refine bcase_iff.2 ⟨fun h12 => ?_, fun h12 => ?_⟩
                    · skip
                      exfalso
                      exact bne_no (bef_backB hc ha ha1 hb1 n1) h12 --done
                    · skip
                      conv => whnf
                      refine ⟨[0, 1, 2, 3, 4, 5, 6, 7, 8, 9, 10, 11, 12, 13, 14, 15, 16, 17, 18, 19, 20, 21, 22, 23], [], [], [], ⟨28, [], []⟩, by decide +kernel, ?_⟩
                      exact hJ14
                · skip
                  conv => whnf
                  refine bcase_iff.2 ⟨fun h12 => ?_, fun h12 => ?_⟩
                  · skip
                    exfalso
                    exact bne_no (bef_backB hc ha ha1 hb1 n1) h12 --done
                  · skip
                    conv => whnf
                    refine ⟨[0, 1, 2, 3, 4, 5, 6, 7, 8, 9, 10, 11, 12, 13, 14, 15, 16, 17, 18, 19, 20, 21, 22, 23], [], [], [], ⟨28, [], []⟩, by decide +kernel, ?_⟩
                    exact hJ14
              · skip
                conv => whnf
                refine bcase_iff.2 ⟨fun h12 => ?_, fun h12 => ?_⟩
                · skip
                  exfalso
                  exact bne_no (bef_backB hc ha ha1 hb1 n1) h12 --done
                · skip
                  conv => whnf
                  refine ⟨[0, 1, 2, 3, 4, 5, 6, 7, 8, 9, 10, 11, 12, 13, 14, 15, 16, 17, 18, 19, 20, 21, 22, 23], [], [], [], ⟨28, [], []⟩, by decide +kernel, ?_⟩
                  exact hJ14
            · skip
              conv => whnf
              refine ⟨[0, 1, 2, 3, 4, 5, 6, 7, 8, 9, 10, 11, 12, 13, 14, 15, 16, 17, 18, 19, 20, 21, 22, 23], [], [], [], ⟨28, [], []⟩, by decide +kernel, ?_⟩
              exact hJ14
          · skip
            conv => whnf
            refine ⟨[0, 1, 2, 3, 4, 5, 6, 7, 8, 9, 10, 11, 12, 13, 14, 15, 16, 17, 18, 19, 20, 21, 22, 23], [], [], [], ⟨28, [], []⟩, by decide +kernel, ?_⟩
            exact hJ14
        · skip
          conv => whnf
          refine ⟨[0, 1, 2, 3, 4, 5, 6, 7, 8, 9, 10, 11, 12, 13, 14, 15, 16, 17, 18, 19, 20, 21, 22, 23], [], [], [], ⟨28, [], []⟩, by decide +kernel, ?_⟩
          exact hJ14
      · skip
        conv => whnf
        refine ⟨by omega, by omega, ?_⟩
        conv => whnf
        refine ⟨_, rfl, ?_⟩
        conv => whnf
        obtain ⟨a2, hA2, ha2⟩ := idx_of hp hc1
        obtain ⟨b2, hB2, hb2⟩ := idx_of hq hc1
        obtain ⟨c2, hC2, hc3⟩ := idx_of hr hc1
        refine ⟨by omega, ?_⟩
        conv => whnf
        refine ⟨by omega, by omega, ?_⟩
        conv => whnf
        refine ⟨_, rfl, ?_⟩
        conv => whnf
        refine ⟨by omega, ?_⟩
        conv => whnf
        refine ⟨by omega, by omega, ?_⟩
        conv => whnf
        refine ⟨_, rfl, ?_⟩
        conv => whnf
        refine ⟨by omega, ?_⟩
        conv => whnf
        refine byC (to (c33 glT xs cs hN.toLens _ _) (erV hc ha hA2 hB2 ha2 hb2)) op33 ?_
        conv => whnf
        refine byC (to (c33 glT xs cs hN.toLens _ _) (erV hc ha hB2 hC2 hb2 hc3)) op33 ?_
        conv => whnf
        refine byC (to (c33 glT xs cs hN.toLens _ _) (erV hc ha hA2 hC2 ha2 hc3)) op33 ?_
        conv => whnf
        refine byC (to (c33 glT xs cs hN.toLens _ _) (erV hc ha hB2 hA2 hb2 ha2)) op33 ?_
        conv => whnf
        refine bcase_iff.2 ⟨fun g19_17 => ?_, fun g19_17 => ?_⟩
        · skip
          conv => whnf
          refine bcase_iff.2 ⟨fun g19_21 => ?_, fun g19_21 => ?_⟩
          · skip
            conv => whnf
            refine bcase_iff.2 ⟨fun g19_26 => ?_, fun g19_26 => ?_⟩
            · skip
              exfalso
              have e := ear_chain hc ha ha2 hb2 hc3 (beq_iff_eq.1 g19_17) (beq_iff_eq.1 g19_21); rw [e] at g19_26; cases g19_26 --done
            · skip
              conv => whnf
              refine bcase_iff.2 ⟨fun h19 => ?_, fun h19 => ?_⟩
              · skip
                exfalso
                exact bne_no (ear_backB hc ha ha2 hb2) h19 --done
              · skip
                conv => whnf
                refine byC (to (c31 glT xs cs hN.toLens _) (afV hc ha hA2 ha2)) op31 ?_
                conv => whnf
                refine byC (to (c31 glT xs cs hN.toLens _) (afV hc ha hB2 hb2)) op31 ?_
                conv => whnf
                refine bcase_iff.2 ⟨fun g23_13 => ?_, fun g23_13 => ?_⟩
                · skip
                  have f1 := aft_fact hc ha ha2
                  conv => whnf
                  refine bcase_iff.2 ⟨fun g23_18 => ?_, fun g23_18 => ?_⟩
                  · skip
                    conv => whnf
                    refine bcase_iff.2 ⟨fun g23_26 => ?_, fun g23_26 => ?_⟩
                    · skip
                      conv => whnf
                      refine bcase_iff.2 ⟨fun g23_29 => ?_, fun g23_29 => ?_⟩
                      · skip
                        conv => whnf
                        refine byC ((c26)) op26 ?_
                        -- R:JTTFFTTTT
                        conv => whnf
                        first | done | rfl
                      · skip
                        have f2 := aft_lt hc ha ha2 hb2 (by have h : ((earS xs cs a2 b2).1 != 1) = false := g23_29; simpa using h)
                        conv => whnf
                        refine bcase_iff.2 ⟨fun g23_35 => ?_, fun g23_35 => ?_⟩
                        · skip
                          conv => whnf
                          refine bcase_iff.2 ⟨fun g23_44 => ?_, fun g23_44 => ?_⟩
                          · skip
                            conv => whnf
                            refine byC ((c26)) op26 ?_
                            -- R:JTTFFTTTFTT
                            conv => whnf
                            first | done | rfl
                          · skip
                            exfalso
                            have := of_decide_eq_false g23_44; omega --done
                        · skip
                          exfalso
                          have := of_decide_eq_false g23_35; omega --done
                    · skip
                      exfalso
                      have := of_decide_eq_false g23_26; omega --done
                  · skip
                    exfalso
                    have := of_decide_eq_false g23_18; omega --done
                · skip
                  exfalso
                  have f1 := aft_fact hc ha ha2; have := of_decide_eq_false g23_13; omega --done
          · skip
            conv => whnf
            refine bcase_iff.2 ⟨fun h19 => ?_, fun h19 => ?_⟩
            · skip
              exfalso
              exact bne_no (ear_backB hc ha ha2 hb2) h19 --done
            · skip
              conv => whnf
              refine byC (to (c31 glT xs cs hN.toLens _) (afV hc ha hA2 ha2)) op31 ?_
              conv => whnf
              refine byC (to (c31 glT xs cs hN.toLens _) (afV hc ha hB2 hb2)) op31 ?_
              conv => whnf
              refine bcase_iff.2 ⟨fun g23_13 => ?_, fun g23_13 => ?_⟩
              · skip
                have f1 := aft_fact hc ha ha2
                conv => whnf
                refine bcase_iff.2 ⟨fun g23_18 => ?_, fun g23_18 => ?_⟩
                · skip
                  conv => whnf
                  refine bcase_iff.2 ⟨fun g23_26 => ?_, fun g23_26 => ?_⟩
                  · skip
                    conv => whnf
                    refine bcase_iff.2 ⟨fun g23_29 => ?_, fun g23_29 => ?_⟩
                    · skip
                      conv => whnf
                      refine byC ((c26)) op26 ?_
                      -- R:JTFFTTTT
                      conv => whnf
                      first | done | rfl
                    · skip
                      have f2 := aft_lt hc ha ha2 hb2 (by have h : ((earS xs cs a2 b2).1 != 1) = false := g23_29; simpa using h)
                      conv => whnf
                      refine bcase_iff.2 ⟨fun g23_35 => ?_, fun g23_35 => ?_⟩
                      · skip
                        conv => whnf
                        refine bcase_iff.2 ⟨fun g23_44 => ?_, fun g23_44 => ?_⟩
                        · skip
                          conv => whnf
                          refine byC ((c26)) op26 ?_
                          -- R:JTFFTTTFTT
                          conv => whnf
                          first | done | rfl
                        · skip
                          exfalso
                          have := of_decide_eq_false g23_44; omega --done
                      · skip
                        exfalso
                        have := of_decide_eq_false g23_35; omega --done
                  · skip
                    exfalso
                    have := of_decide_eq_false g23_26; omega --done
                · skip
                  exfalso
                  have := of_decide_eq_false g23_18; omega --done
              · skip
                exfalso
                have f1 := aft_fact hc ha ha2; have := of_decide_eq_false g23_13; omega --done
        · skip
          conv => whnf
          refine bcase_iff.2 ⟨fun h19 => ?_, fun h19 => ?_⟩
          · skip
            exfalso
            exact bne_no (ear_backB hc ha ha2 hb2) h19 --done
          · skip
            conv => whnf
            refine byC (to (c31 glT xs cs hN.toLens _) (afV hc ha hA2 ha2)) op31 ?_
            conv => whnf
            refine byC (to (c31 glT xs cs hN.toLens _) (afV hc ha hB2 hb2)) op31 ?_
            conv => whnf
            refine bcase_iff.2 ⟨fun g23_13 => ?_, fun g23_13 => ?_⟩
            · skip
              have f1 := aft_fact hc ha ha2
              conv => whnf
              refine bcase_iff.2 ⟨fun g23_18 => ?_, fun g23_18 => ?_⟩
              · skip
                conv => whnf
                refine bcase_iff.2 ⟨fun g23_26 => ?_, fun g23_26 => ?_⟩
                · skip
                  conv => whnf
                  refine bcase_iff.2 ⟨fun g23_29 => ?_, fun g23_29 => ?_⟩
                  · skip
                    conv => whnf
                    refine byC ((c26)) op26 ?_
                    -- R:JFFTTTT
                    conv => whnf
                    first | done | rfl
                  · skip
                    have f2 := aft_lt hc ha ha2 hb2 (by have h : ((earS xs cs a2 b2).1 != 1) = false := g23_29; simpa using h)
                    conv => whnf
                    refine bcase_iff.2 ⟨fun g23_35 => ?_, fun g23_35 => ?_⟩
                    · skip
                      conv => whnf
                      refine bcase_iff.2 ⟨fun g23_44 => ?_, fun g23_44 => ?_⟩
                      · skip
                        conv => whnf
                        refine byC ((c26)) op26 ?_
                        -- R:JFFTTTFTT
                        conv => whnf
                        first | done | rfl
                      · skip
                        exfalso
                        have := of_decide_eq_false g23_44; omega --done
                    · skip
                      exfalso
                      have := of_decide_eq_false g23_35; omega --done
                · skip
                  exfalso
                  have := of_decide_eq_false g23_26; omega --done
              · skip
                exfalso
                have := of_decide_eq_false g23_18; omega --done
            · skip
              exfalso
              have f1 := aft_fact hc ha ha2; have := of_decide_eq_false g23_13; omega --done

theorem op14 : Opens PR 14 := ⟨_, Tryd.func14, rfl, rfl⟩

end Go.Ab.StF
