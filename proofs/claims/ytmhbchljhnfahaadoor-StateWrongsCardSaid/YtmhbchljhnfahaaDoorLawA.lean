/-
  THE STATE FAMILY, PART LA: StateLoci and StateCopies.
-/
import Derived.Test.YtmhbchljhnfahaaDoorRefB
import Derived.Test.YtmhbchljhnfahaaDoorStateW
namespace Go.Ab.StF
open Go Go.Ab Go.Proofs
set_option maxHeartbeats 1000000
set_option maxRecDepth 100000

theorem ne_F {a b : Int} (h : a = b) : (a != b) = false := by subst h; simp
theorem eq_T {a b : Int} (h : a = b) : (a == b) = true := by subst h; simp

theorem c4 (xs : List (ByteArray × Int)) (cs : List (ByteArray × List Int)) (hN : LensN xs cs) (a b : Int) : PCalls PR glT 4 [.agg [lociV xs, copsV cs], .agg [.arr (S := S) U.int 2 [a, b]]] fun r => r = vB true := by
  have hr := read_eq xs cs a
  have hb := bef_eq xs cs a b
  refine fnW_sound (par_ok glT) Tryd.func4 ?_
  conv => whnf
  refine ⟨by omega, by omega, ?_⟩
  conv => whnf
  refine ⟨_, rfl, ?_⟩
  conv => whnf
  refine byC (c27 glT xs cs hN.toLens a) op27 ?_
  conv => whnf
  refine ⟨by omega, by omega, ?_⟩
  conv => whnf
  refine ⟨_, rfl, ?_⟩
  conv => whnf
  refine byC (c28 glT xs cs hN a) op28 ?_
  conv => whnf
  refine bcase_iff.2 ⟨fun g3_3 => ?_, fun g3_3 => ?_⟩
  · skip
    exfalso
    have hx : ((readR xs cs a).1 != (readS xs cs a).1) = true := g3_3
    rw [ne_F (by rw [hr])] at hx
    cases hx --done
  · skip
    conv => whnf
    refine bcase_iff.2 ⟨fun h3 => ?_, fun h3 => ?_⟩
    · skip
      exfalso
      have hx : ((readR xs cs a).2 != (readS xs cs a).2) = true := h3
      rw [ne_F (by rw [hr])] at hx
      cases hx --done
    · skip
      conv => whnf
      refine ⟨by omega, by omega, ?_⟩
      conv => whnf
      refine ⟨_, rfl, ?_⟩
      conv => whnf
      refine ⟨by omega, by omega, ?_⟩
      conv => whnf
      refine ⟨_, rfl, ?_⟩
      conv => whnf
      refine byC (c29 glT xs cs hN.toLens a b) op29 ?_
      conv => whnf
      refine ⟨by omega, by omega, ?_⟩
      conv => whnf
      refine ⟨_, rfl, ?_⟩
      conv => whnf
      refine ⟨by omega, by omega, ?_⟩
      conv => whnf
      refine ⟨_, rfl, ?_⟩
      conv => whnf
      refine byC (c30 glT xs cs hN a b) op30 ?_
      conv => whnf
      refine bcase_iff.2 ⟨fun g7_3 => ?_, fun g7_3 => ?_⟩
      · skip
        conv => whnf
        refine bcase_iff.2 ⟨fun g7_8 => ?_, fun g7_8 => ?_⟩
        · skip
          conv => whnf
          refine byC ((c26)) op26 ?_
          -- R:FFTT
          conv => whnf
          rfl
        · skip
          exfalso
          have hx : ((befR xs cs a b).2 == (befS xs cs a b).2) = false := g7_8
          rw [eq_T (by rw [hb])] at hx
          cases hx --done
      · skip
        exfalso
        have hx : ((befR xs cs a b).1 == (befS xs cs a b).1) = false := g7_3
        rw [eq_T (by rw [hb])] at hx
        cases hx --done

theorem op4 : Opens PR 4 := ⟨_, Tryd.func4, rfl, rfl⟩

theorem c5 (xs : List (ByteArray × Int)) (cs : List (ByteArray × List Int)) (hN : LensN xs cs) (a b : Int) : PCalls PR glT 5 [.agg [lociV xs, copsV cs], .agg [.arr (S := S) U.int 2 [a, b]]] fun r => r = vB true := by
  have hr := aft_eq xs cs a
  have hb := ear_eq xs cs a b
  refine fnW_sound (par_ok glT) Tryd.func5 ?_
  conv => whnf
  refine ⟨by omega, by omega, ?_⟩
  conv => whnf
  refine ⟨_, rfl, ?_⟩
  conv => whnf
  refine byC (c31 glT xs cs hN.toLens a) op31 ?_
  conv => whnf
  refine ⟨by omega, by omega, ?_⟩
  conv => whnf
  refine ⟨_, rfl, ?_⟩
  conv => whnf
  refine byC (c32 glT xs cs hN a) op32 ?_
  conv => whnf
  refine ⟨_, rfl, ?_⟩
  conv => whnf
  refine bcase_iff.2 ⟨fun g3_3 => ?_, fun g3_3 => ?_⟩
  · skip
    exfalso
    have hx : (!((aftR xs cs a).1.1 == (aftS xs cs a).1.1 && (aftR xs cs a).1.2 == (aftS xs cs a).1.2)) = true := g3_3
    rw [hr] at hx
    simp at hx --done
  · skip
    conv => whnf
    refine bcase_iff.2 ⟨fun h3 => ?_, fun h3 => ?_⟩
    · skip
      exfalso
      have hx : ((aftR xs cs a).2 != (aftS xs cs a).2) = true := h3
      rw [ne_F (by rw [hr])] at hx
      cases hx --done
    · skip
      conv => whnf
      refine ⟨by omega, by omega, ?_⟩
      conv => whnf
      refine ⟨_, rfl, ?_⟩
      conv => whnf
      refine ⟨by omega, by omega, ?_⟩
      conv => whnf
      refine ⟨_, rfl, ?_⟩
      conv => whnf
      refine byC (c33 glT xs cs hN.toLens a b) op33 ?_
      conv => whnf
      refine ⟨by omega, by omega, ?_⟩
      conv => whnf
      refine ⟨_, rfl, ?_⟩
      conv => whnf
      refine ⟨by omega, by omega, ?_⟩
      conv => whnf
      refine ⟨_, rfl, ?_⟩
      conv => whnf
      refine byC (c34 glT xs cs hN a b) op34 ?_
      conv => whnf
      refine bcase_iff.2 ⟨fun g7_3 => ?_, fun g7_3 => ?_⟩
      · skip
        conv => whnf
        refine bcase_iff.2 ⟨fun g7_8 => ?_, fun g7_8 => ?_⟩
        · skip
          conv => whnf
          refine byC ((c26)) op26 ?_
          -- R:FFTT
          conv => whnf
          rfl
        · skip
          exfalso
          have hx : ((earR xs cs a b).2 == (earS xs cs a b).2) = false := g7_8
          rw [eq_T (by rw [hb])] at hx
          cases hx --done
      · skip
        exfalso
        have hx : ((earR xs cs a b).1 == (earS xs cs a b).1) = false := g7_3
        rw [eq_T (by rw [hb])] at hx
        cases hx --done

theorem op5 : Opens PR 5 := ⟨_, Tryd.func5, rfl, rfl⟩

end Go.Ab.StF
