/-
  THE STATE FAMILY, PART OE: StateAgain.
-/
import Derived.Test.YtmhbchljhnfahaaDoorLawB
import Derived.Test.YtmhbchljhnfahaaDoorPlainD
namespace Go.Ab.StF
open Go Go.Ab Go.Proofs
set_option maxHeartbeats 1000000
set_option maxRecDepth 100000

theorem rev_lens {xs : List (ByteArray × Int)} {cs : List (ByteArray × List Int)} (hN : LensN xs cs) : LensN xs cs.reverse :=
  ⟨⟨hN.x, by simpa using hN.c, fun c hc => hN.s c (by simpa using hc)⟩, hN.nx, fun c hc => hN.nc c (by simpa using hc)⟩
theorem more_lens {xs : List (ByteArray × Int)} {cs : List (ByteArray × List Int)} (hN : LensN xs cs) (h8 : cs.length ≤ 8) {c : ByteArray × List Int} (h1 : c.1.size ≤ 9223372036854775807) (h2 : c.2.length ≤ 9223372036854775807) : LensN xs (cs ++ [c]) := by
  have hm : ∀ d ∈ cs ++ [c], d ∈ cs ∨ d = c := fun d hd => by simpa using hd
  refine ⟨⟨hN.x, by simp; omega, fun d hd => ?_⟩, hN.nx, fun d hd => ?_⟩
  · rcases hm d hd with h | h
    · exact hN.s d h
    · rw [h]; exact h2
  · rcases hm d hd with h | h
    · exact hN.nc d h
    · rw [h]; exact h1
theorem rev_take {α : Type} {cs : List α} {k : Nat} (h : k < cs.length) : cs.reverse.take (k + 1) = cs.reverse.take k ++ [cs[cs.length - 1 - k]'(by omega)] := by
  rw [take_succ' (by simpa using h), List.getElem_reverse]
theorem first_ex (xs : List (ByteArray × Int)) (cs : List (ByteArray × List Int)) : ∃ F, F = firstS xs cs := ⟨_, rfl⟩
theorem first_lens {xs : List (ByteArray × Int)} {cs : List (ByteArray × List Int)} (hc : (chk xs cs).2.2 = 0) : (firstS xs cs).1.1.length ≤ 9223372036854775807 ∧ (firstS xs cs).1.2.length ≤ 9223372036854775807 := by
  by_cases ha : agrL xs cs = []
  · rw [first_no hc ha]; exact ⟨by simp, by simp⟩
  · obtain ⟨o, ho⟩ := List.exists_mem_of_ne_nil _ ha
    have hv := chk_valid hc
    have h := (ord_okO hv.l5 (agr_ord (head_first ho).1))
    have h1 := h.l
    have h2 := h.m
    have h5 := hv.l5
    rw [first_ok hc ha]
    simp only
    omega
theorem bne_self' {a : Int} (h : (a != a) = true) : False := by simp at h

theorem c15 (xs : List (ByteArray × Int)) (cs : List (ByteArray × List Int)) (hN : LensN xs cs) (bt : Int) (hbt : 0 ≤ bt ∧ bt ≤ 255) (nm : ByteArray) (hnm : nm.size ≤ 9223372036854775807) : PCalls PR glT 15 [.agg [lociV xs, copsV cs], .int .u8 bt, .str nm] fun r => r = vB true := by
  refine fnW_sound (par_ok glT) Tryd.func15 ?_
  conv => whnf
  refine byC (c44 glT xs cs hN) op44 ?_
  conv => whnf
  refine bcase_iff.2 ⟨fun h1 => ?_, fun h1 => ?_⟩
  · skip
    conv => whnf
    refine byC ((c26)) op26 ?_
    -- R:T
    conv => whnf
    first | done | rfl
  · skip
    have hc := is_chk h1
    have hv := chk_valid hc
    have h1x := hv.l1
    have h5 := hv.l5
    have hc1 := hv.c1
    have hc8 := hv.c8
    conv => whnf
    refine ⟨⟨398, [1007, 2007], [1007, 2007, 902007]⟩, ?_⟩
    refine LoopW_ind _ (fun s : Nat × Int => match s with | (k, j) => (({ tmps := [.undef, .int .u8 bt, .str nm, .own 3 [], .undef, .undef, .undef, .own 7 [], vI j, .undef, .undef, .undef, .undef, .undef, .undef, .undef, .undef, .undef, .undef, .undef, .undef, .undef, .undef, .undef, .undef, .undef, .undef, .undef, .undef, .undef, .undef, .undef, .undef, .undef, .undef, .undef, .undef, .undef, .undef, .undef, .undef, .undef, .undef, .undef, .undef, .undef, .undef, .undef, .undef, .undef, .undef, .undef, .undef, .undef, .undef, .undef, .undef, .undef, .undef, .undef, .undef, .undef, .undef, .undef, .undef, .undef, .undef, .undef, .undef, .undef, .undef, .undef, .undef, .undef, .undef, .undef, .undef, .undef, .undef, .undef, .undef, .undef, .undef, .undef, .undef, .undef, .undef, .undef, .undef, .undef, .undef, .undef, .undef, .undef, .undef, .undef, .undef, .undef, .undef, .undef, .undef, .undef, .undef, .undef, .undef, .undef, .undef, .undef, .undef, .undef, .undef, .undef, .undef, .undef, .undef, .undef, .undef, .undef, .undef, .undef, .undef, .undef, .undef, .undef, .undef, .undef, .undef, .undef, .undef, .undef, .undef, .undef, .undef, .undef, .undef, .undef, .undef, .undef, .undef, .undef, .undef, .undef, .undef, .undef, .undef, .undef, .undef, .undef, .undef, .undef, .undef, .undef, .undef, .undef, .undef, .undef, .undef, .undef, .undef, .undef, .undef, .undef, .undef, .undef, .undef, .undef, .undef, .undef, .undef, .undef], seg := [(3, .cells [lociV xs, copsV cs]), (7, .cells [lociV xs, .sl (S := S) U.copy (cs.reverse.take k) (some 902007)]), (902007, .row U.copy false)], up := [] } : St S))) (fun s : Nat × Int => match s with | (k, j) => (k ≤ cs.length ∧ j = (cs.length : Int) - 1 - (k : Int))) (fun s : Nat × Int => match s with | (k, j) => (cs.length - k)) () ?_ (0, IntKind.i64.wrap ((cs.length : Int) - 1)) ⟨Nat.zero_le _, by rw [wrap_int (by omega) (by omega)]; omega⟩
    rintro ⟨k, j⟩ hinv Z1 hZ1
    dsimp only at hinv hZ1
    obtain ⟨hk, hj⟩ := hinv
    conv => whnf
    refine bcase_iff.2 ⟨fun h6 => ?_, fun h6 => ?_⟩
    · skip
      have hlt : k < cs.length := by have := of_decide_eq_true h6; omega
      have hjn : j = ((cs.length - 1 - k : Nat) : Int) := by omega
      have hwj : IntKind.i64.wrap (j - 1) = j - 1 := wrap_int (by omega) (by omega)
      have hlr : (cs.reverse.take k).length = k := by rw [List.length_take, List.length_reverse]; omega
      conv => whnf
      refine ⟨[0, 1, 2, 3, 4, 5, 6, 7, 8, 9, 10], [7], [], [], ⟨1496577676626844588240573268701473812127674924007423, [], []⟩, by decide +kernel, ?_⟩
      conv => whnf
      refine ⟨_, getI_at hjn (show cs.length - 1 - k < cs.length by omega), ?_⟩
      conv => whnf
      refine ⟨_, rfl, ?_⟩
      conv => whnf
      refine ⟨lim (by show (cs.reverse.take k).length + 1 ≤ _; omega), ?_⟩
      -- Z6:T
      conv => whnf
      refine ⟨⟨398, [47, 48], []⟩, ?_⟩
      conv => whnf
      rw [hwj]
      have := hZ1 (k + 1, j - 1) ⟨hlt, by omega⟩ (by dsimp only; omega)
      rw [rev_take hlt] at this
      exact this
    · skip
      have hge : k = cs.length := by have := of_decide_eq_false h6; omega
      have hcr : (chk xs cs.reverse).2.2 = 0 := chk_cops hc ((chk_iff.1 hc).2.rev)
      have htk : cs.reverse.take k = cs.reverse := by rw [hge]; exact List.take_of_length_le (by simp)
      rw [htk]
      obtain ⟨F, hF⟩ := first_ex xs cs
      have hFl := first_lens hc
      rw [← hF] at hFl
      conv => whnf
      refine byC (to (c21 glT xs cs hN.toLens) (by rw [first_eq, ← hF])) op21 ?_
      conv => whnf
      refine byC (to (c21 glT xs cs.reverse (rev_lens hN).toLens) (by rw [first_eq, first_agr hc hcr agr_rev, ← hF])) op21 ?_
      conv => whnf
      refine byC (to (c23 glT F.1 F.1 hFl.1 hFl.2) (congrArg _ (decide_eq_true rfl))) op23 ?_
      conv => whnf
      refine bcase_iff.2 ⟨fun g11_9 => ?_, fun g11_9 => ?_⟩
      · skip
        exfalso
        exact bne_self' g11_9 --done
      · skip
        conv => whnf
        refine bcase_iff.2 ⟨fun h11 => ?_, fun h11 => ?_⟩
        · skip
          exfalso
          exact bne_self' h11 --done
        · skip
          conv => whnf
          refine ⟨[0, 1, 2, 3, 4, 5, 6, 7, 8, 9, 10, 11], [10], [], [], ⟨1496577676626844588240573268701473812127674924007423, [], []⟩, by decide +kernel, ?_⟩
          conv => whnf
          obtain ⟨a, hA, ha1⟩ := idx_of hbt hc1
          refine ⟨by omega, ?_⟩
          conv => whnf
          refine ⟨_, getI_at hA ha1, ?_⟩
          conv => whnf
          refine ⟨[0, 1, 2, 4, 3, 5, 6, 7, 8], [3, 5], [], [], ⟨1496577676626844588240573268701473812127674924007423, [], []⟩, by decide +kernel, ?_⟩
          conv => whnf
          refine ⟨lim (by simp; omega), ?_⟩
          conv => whnf
          refine ⟨_, rfl, ?_⟩
          conv => whnf
          refine ⟨lim (by simp; omega), ?_⟩
          conv => whnf
          refine byC (c44 glT xs (cs ++ [(nm, cs[a].2)]) (more_lens hN hc8 hnm (hN.s cs[a] (List.getElem_mem ha1)))) op44 ?_
          conv => whnf
          refine bcase_iff.2 ⟨fun h17 => ?_, fun h17 => ?_⟩
          · skip
            conv => whnf
            refine byC ((c26)) op26 ?_
            -- R:FFFFT
            conv => whnf
            first | done | rfl
          · skip
            have hd := is_chk h17
            have hs : cs[a].2 = showsOf cs a := (showsOf_eq ha1).symm
            rw [hs] at hd
            have hNm := more_lens (c := (nm, showsOf cs a)) hN hc8 hnm (by rw [← hs]; exact hN.s cs[a] (List.getElem_mem ha1))
            rw [hs]
            conv => whnf
            refine byC (to (c21 glT xs (cs ++ [(nm, showsOf cs a)]) hNm.toLens) (by rw [first_eq, first_agr hc hd (agr_twice ha1), ← hF])) op21 ?_
            conv => whnf
            refine byC (to (c23 glT F.1 F.1 hFl.1 hFl.2) (congrArg _ (decide_eq_true rfl))) op23 ?_
            conv => whnf
            refine bcase_iff.2 ⟨fun g20_9 => ?_, fun g20_9 => ?_⟩
            · skip
              exfalso
              exact bne_self' g20_9 --done
            · skip
              conv => whnf
              refine bcase_iff.2 ⟨fun h20 => ?_, fun h20 => ?_⟩
              · skip
                exfalso
                exact bne_self' h20 --done
              · skip
                conv => whnf
                refine bcase_iff.2 ⟨fun h22 => ?_, fun h22 => ?_⟩
                · skip
                  conv => whnf
                  refine byC ((c26)) op26 ?_
                  -- R:FFFFFFFT
                  conv => whnf
                  first | done | rfl
                · skip
                  have h0 : F.2.2 = 0 := by have h22 : (F.2.2 != 0) = false := h22; simpa using h22
                  have ha : agrL xs cs ≠ [] := fun ha => by rw [hF, first_no hc ha] at h0; cases h0
                  obtain ⟨L, hL⟩ : ∃ L, lastS xs cs = (L, 0) := ⟨_, last_ok hc ha⟩
                  have hLl : L.length ≤ 9223372036854775807 := by have := last_ok hc ha; rw [hL] at this; rw [(Prod.mk.inj this).1]; simp; omega
                  conv => whnf
                  refine byC (to (c24 glT xs cs hN.toLens) (show _ = lstV (L, 0) by rw [last_eq, hL])) op24 ?_
                  conv => whnf
                  refine byC (to (c24 glT xs (cs ++ [(nm, showsOf cs a)]) hNm.toLens) (show _ = lstV (L, 0) by rw [last_eq, last_agr hc hd ha (agr_twice ha1), hL])) op24 ?_
                  conv => whnf
                  refine ⟨[0, 1, 2, 3, 4, 5, 6, 7, 8, 9, 10, 11, 12, 13, 14, 15], [], [], [], ⟨1496577676626844588240573268701473812127674924007423, [], []⟩, by decide +kernel, ?_⟩
                  conv => whnf
                  refine ⟨by omega, ?_⟩
                  conv => whnf
                  refine byC (to (c33 glT xs (cs ++ [(nm, showsOf cs a)]) hNm.toLens _ _) (show _ = intV (0, 0) by rw [hA, ear_eq, ear_twice ha1 hd ha])) op33 ?_
                  conv => whnf
                  refine byC (to (c20 glT L L hLl) (congrArg _ (decide_eq_true rfl))) op20 ?_
                  conv => whnf
                  refine byC ((c26)) op26 ?_
                  -- R:FFFFFFFF
                  conv => whnf
                  first | done | rfl

end Go.Ab.StF
