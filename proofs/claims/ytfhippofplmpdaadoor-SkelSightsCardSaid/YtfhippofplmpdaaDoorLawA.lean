/-
  THE SKELETON FAMILY, PART LA: the law SkelSights.
-/
import Derived.Test.YtfhippofplmpdaaDoorRefB
namespace Go.Ab.SkF
open Go Go.Ab Go.Ab.Pln Go.Proofs
set_option maxHeartbeats 1000000
set_option maxRecDepth 100000

theorem neqX {a : Int} {P : Prop} (h : (a != a) = true) : P := by simp at h
theorem eqX {a : Int} {P : Prop} (h : (a == a) = false) : P := by simp at h
theorem decX {α : Type} [DecidableEq α] {a : α} {P : Prop} (h : (!decide (a = a)) = true) : P := by simp at h
theorem decY {α : Type} [DecidableEq α] {a : α} {P : Prop} (h : decide (a = a) = false) : P := by simp at h
theorem twoX {a b : Int} {P : Prop} (h : (!(a == a && b == b)) = true) : P := by simp at h
theorem groups_len9 {ts : List ByteArray} {fs : Fms} {ss : Sgs} (hL : LensJ ts fs ss) : (groupsS ts fs ss).1.length ≤ 9223372036854775807 := by
  unfold groupsS
  split
  · simp
  · simp only [natsV_length, List.length_map, List.length_range]; exact hL.f
theorem doubt_len9 (ts : List ByteArray) (fs : Fms) (ss : Sgs) : (doubtR ts fs ss).1.length ≤ 9223372036854775807 := by
  unfold doubtR
  by_cases hk : chE ts fs ss = 0
  · rw [if_neg (fun h => h hk)]
    have hV := chk_valid.1 hk
    have h12 := hV.s12
    have := asc_le (doubt_find hV.job (by omega)).2.2.asc
    rw [natsV_length]; omega
  · rw [if_pos hk]; simp

theorem c3 (ts : List ByteArray) (fs : List Fm) (ss : List Sg) (hL : LensJ ts fs ss) (t : Int) : PCalls PR glT 3 [.agg [strsV ts, fmsV fs, sgsV ss], vI t] fun r => r = vB true := by
  have hg9 := groups_len9 hL
  have hd9 := doubt_len9 ts fs ss
  refine fnW_sound (par_ok glT) Tryd.func3 ?_
  conv => whnf
  refine byC (c16 glT ts fs ss hL.l) op16 ?_
  conv => whnf
  refine byC (c17 glT ts fs ss hL) op17 ?_
  conv => whnf
  refine bcase_iff.2 ⟨fun g3_3 => ?_, fun g3_3 => ?_⟩
  · skip
    exact neqX g3_3 --done
  · skip
    conv => whnf
    refine bcase_iff.2 ⟨fun g3_8 => ?_, fun g3_8 => ?_⟩
    · skip
      exact neqX g3_8 --done
    · skip
      conv => whnf
      refine bcase_iff.2 ⟨fun h3 => ?_, fun h3 => ?_⟩
      · skip
        exact neqX h3 --done
      · skip
        conv => whnf
        refine byC ((c18 ts fs ss hL)) op18 ?_
        conv => whnf
        refine byC (c19 glT ts fs ss hL) op19 ?_
        conv => whnf
        refine byC (c20 glT _ _ hg9) op20 ?_
        conv => whnf
        refine bcase_iff.2 ⟨fun g7_4 => ?_, fun g7_4 => ?_⟩
        · skip
          exact decX g7_4 --done
        · skip
          conv => whnf
          refine bcase_iff.2 ⟨fun h7 => ?_, fun h7 => ?_⟩
          · skip
            exact neqX h7 --done
          · skip
            conv => whnf
            refine byC ((c21 ts fs ss hL)) op21 ?_
            conv => whnf
            refine byC (c22 glT ts fs ss hL) op22 ?_
            conv => whnf
            refine bcase_iff.2 ⟨fun g11_3 => ?_, fun g11_3 => ?_⟩
            · skip
              exact neqX g11_3 --done
            · skip
              conv => whnf
              refine bcase_iff.2 ⟨fun g11_8 => ?_, fun g11_8 => ?_⟩
              · skip
                exact neqX g11_8 --done
              · skip
                conv => whnf
                refine bcase_iff.2 ⟨fun h11 => ?_, fun h11 => ?_⟩
                · skip
                  exact neqX h11 --done
                · skip
                  conv => whnf
                  refine byC (c23 glT ts fs ss hL t) op23 ?_
                  conv => whnf
                  refine byC (c24 glT ts fs ss hL t) op24 ?_
                  conv => whnf
                  refine ⟨_, rfl, ?_⟩
                  conv => whnf
                  refine bcase_iff.2 ⟨fun g15_3 => ?_, fun g15_3 => ?_⟩
                  · skip
                    exact twoX g15_3 --done
                  · skip
                    conv => whnf
                    refine bcase_iff.2 ⟨fun h15 => ?_, fun h15 => ?_⟩
                    · skip
                      exact neqX h15 --done
                    · skip
                      conv => whnf
                      refine byC ((c25 ts fs ss hL)) op25 ?_
                      conv => whnf
                      refine byC (c26 glT ts fs ss hL) op26 ?_
                      conv => whnf
                      refine byC (c20 glT _ _ hd9) op20 ?_
                      conv => whnf
                      refine bcase_iff.2 ⟨fun g19_3 => ?_, fun g19_3 => ?_⟩
                      · skip
                        conv => whnf
                        refine bcase_iff.2 ⟨fun g19_8 => ?_, fun g19_8 => ?_⟩
                        · skip
                          conv => whnf
                          refine byC ((c27)) op27 ?_
                          -- R:FFFFFFFFFFTT
                          conv => whnf
                          rfl
                        · skip
                          exact eqX g19_8 --done
                      · skip
                        exact decY g19_3 --done

end Go.Ab.SkF
