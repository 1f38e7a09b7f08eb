/-
  THE STATE FAMILY, PART OM: a forme in which both readings of a locus are exchanged.
  THE STATE FAMILY, PART ON: StateTurned.
-/
import Derived.Test.YtmhbchljhnfahaaDoorLawB
import Derived.Test.YtmhbchljhnfahaaDoorPlainD
import Derived.Test.YtmhbchljhnfahaaDoorPlainC
import Derived.Test.YtmhbchljhnfahaaDoorStateB
import Derived.Test.YtmhbchljhnfahaaDoorStateW
import Derived.Test.YtmhbchljhnfahaaDoorLawF
namespace Go.Ab.StF
open Go Go.Ab Go.Proofs
set_option maxHeartbeats 1000000
set_option maxRecDepth 100000

theorem flipC_succ {n : Nat} {cs : List (ByteArray × List Int)} {i : Nat} (h : i < cs.length) : flipC n (cs.take (i + 1)) = flipC n (cs.take i) ++ [(cs[i].1, flipS n cs[i].2)] := by
  rw [take_succ' h]; unfold flipC; rw [List.map_append]; rfl
theorem flipC_len (n : Nat) (cs : List (ByteArray × List Int)) : (flipC n cs).length = cs.length := by simp [flipC]
theorem flip_lens {xs : List (ByteArray × Int)} {cs : List (ByteArray × List Int)} (hN : LensN xs cs) (n : Nat) (hn : n < xs.length) : LensN (flipX n xs) (flipC n cs) := by
  have hm : ∀ c ∈ flipC n cs, ∃ d ∈ cs, c.1 = d.1 ∧ c.2.length = d.2.length := fun c hc => by
    obtain ⟨d, hd, rfl⟩ := List.mem_map.1 hc
    exact ⟨d, hd, rfl, by simp [flipS]⟩
  refine ⟨⟨by rw [flipX_len]; exact hN.x, by rw [flipC_len]; exact hN.c, fun c hc => ?_⟩, fun x hx => ?_, fun c hc => ?_⟩
  · obtain ⟨d, hd, _, h⟩ := hm c hc; rw [h]; exact hN.s d hd
  · have h : x.1 ∈ (flipX n xs).map Prod.fst := List.mem_map_of_mem hx
    rw [flipX_names hn] at h
    obtain ⟨d, hd, e⟩ := List.mem_map.1 h
    rw [← e]; exact hN.nx d hd
  · obtain ⟨d, hd, h, _⟩ := hm c hc; rw [h]; exact hN.nc d hd

theorem c62 (gl : Gl) (v : Int) (hv : 0 ≤ v ∧ v ≤ 2) : PCalls PR gl 62 [vI v] fun r => r = vI (oth v) := by
  refine fnW_sound (par_ok gl) Tryd.func62 ?_
  conv => whnf
  refine bcase_iff.2 ⟨fun h1 => ?_, fun h1 => ?_⟩
  · skip
    have h0 : v = 0 := beq_iff_eq.1 h1
    -- R:T
    conv => whnf
    rw [h0]
    rfl
  · skip
    have h0 : v ≠ 0 := beq_eq_false_iff_ne.1 h1
    -- R:F
    conv => whnf
    rw [wrap_int (by omega) (by omega)]
    unfold oth
    rw [if_neg h0]

theorem op62 : Opens PR 62 := ⟨_, Tryd.func62, rfl, rfl⟩

theorem c61 (gl : Gl) {xs : List (ByteArray × Int)} {cs : List (ByteArray × List Int)} (hv : Valid xs cs) (n : Nat) (hn : n < xs.length) : PCalls PR gl 61 [.agg [lociV xs, copsV cs], vI n] fun r => r = .agg [lociV (flipX n xs), copsV (flipC n cs)] := by
  have h5 := hv.l5
  have hc8 := hv.c8
  refine fnW_sound (par_ok gl) Tryd.func61 ?_
  conv => whnf
  refine ⟨lim (show xs.length ≤ _ by omega), true, ?_⟩
  conv => whnf
  refine ⟨[0, 1, 2, 3, 4, 5, 6, 7, 8, 9, 10, 11, 12], [6, 8, 10], [6, 8, 10], [], ⟨576460752303423487, [], []⟩, by decide +kernel, ?_⟩
  conv => whnf
  refine ⟨_, getI_nat hn, ?_⟩
  conv => whnf
  refine ⟨2, ?_⟩
  conv => whnf
  refine ⟨_, getI_nat hn, ?_⟩
  conv => whnf
  refine byC (c62 gl xs[n].2 (hv.fst _ (List.getElem_mem hn))) op62 ?_
  conv => whnf
  refine ⟨_, getI_nat hn, ?_⟩
  conv => whnf
  refine ⟨_, getI_nat hn, ?_⟩
  conv => whnf
  refine ⟨_, rfl, ?_⟩
  conv => whnf
  refine ⟨⟨118, [11], [5, 11]⟩, ?_⟩
  refine LoopW_ind _ (fun s : Nat × List (ByteArray × Int) => match s with | (i, ys) => (({ tmps := [.undef, vI n, .own 2 [], .undef, .own 4 [], .sl (S := S) U.copy (flipC n (cs.take i)) (some 5), vI i, .undef, .undef, .undef, .undef, .undef, .undef, .undef, .undef, .undef, .undef, .undef, .undef, .undef, .undef, .undef, .undef, .undef, .undef, .undef, .undef, .undef, .undef, .undef, .undef, .undef, .undef, .undef, .undef, .undef, .undef, .undef, .undef, .undef, .undef, .undef, .undef, .undef, .undef, .undef, .undef, .undef, .undef, .undef, .undef, .undef, .undef, .undef, .undef, .undef, .undef, .undef, .undef], seg := [(2, .cells [lociV ys, copsV cs]), (4, .cells [.sl (S := S) U.locus [] (some 1004), .sl (S := S) U.copy [] (some 2004)]), (5, .row U.copy false), (1004, .row U.locus true), (2004, .row U.copy true)], up := [] } : St S))) (fun s : Nat × List (ByteArray × Int) => match s with | (i, ys) => (i ≤ cs.length ∧ ys = flipX n xs)) (fun s : Nat × List (ByteArray × Int) => match s with | (i, ys) => (cs.length - i)) () ?_ (0, _) ⟨Nat.zero_le _, by unfold flipX; rw [getD_e hn]; rfl⟩
  rintro ⟨i, ys⟩ hinv Z1 hZ1
  dsimp only at hinv hZ1
  obtain ⟨hi, hys⟩ := hinv
  conv => whnf
  refine bcase_iff.2 ⟨fun h5 => ?_, fun h5 => ?_⟩
  · skip
    have hlt : i < cs.length := by have := of_decide_eq_true h5; omega
    have hw : IntKind.i64.wrap ((i : Int) + 1) = ((i + 1 : Nat) : Int) := wrap_nat (by omega)
    have hci := hv.len _ (List.getElem_mem hlt)
    have hnc : n < cs[i].2.length := by omega
    conv => whnf
    refine ⟨_, getI_nat hlt, ?_⟩
    conv => whnf
    refine ⟨lim (show cs[i].2.length ≤ _ by omega), true, ?_⟩
    conv => whnf
    refine ⟨[0, 1, 2, 3, 4, 5, 6, 7, 8, 9, 10], [6, 7, 9], [6, 7, 9], [], ⟨576460752303423487, [], []⟩, by decide +kernel, ?_⟩
    conv => whnf
    refine ⟨_, getI_nat hnc, ?_⟩
    conv => whnf
    refine ⟨7, ?_⟩
    conv => whnf
    refine ⟨_, getI_nat hnc, ?_⟩
    conv => whnf
    refine byC (c62 gl cs[i].2[n] (hv.shows _ (List.getElem_mem hlt) _ (List.getElem_mem hnc))) op62 ?_
    conv => whnf
    refine ⟨_, getI_nat hnc, ?_⟩
    conv => whnf
    refine ⟨_, rfl, ?_⟩
    conv => whnf
    refine ⟨_, rfl, ?_⟩
    conv => whnf
    refine ⟨lim (by show (flipC n (cs.take i)).length + 1 ≤ _; rw [flipC_len, List.length_take]; omega), ?_⟩
    -- Z5:T
    conv => whnf
    refine ⟨⟨118, [7, 40, 54, 55, 1007, 2007, 3007, 4007], [2007]⟩, ?_⟩
    conv => whnf
    rw [hw]
    have := hZ1 (i + 1, ys) ⟨hlt, hys⟩ (by dsimp only; omega)
    rw [flipC_succ hlt, flipS, getD_e hnc] at this
    exact this
  · skip
    have hge : i = cs.length := by have := of_decide_eq_false h5; omega
    -- R:F
    conv => whnf
    rw [hys, hge, List.take_length]

theorem op61 : Opens PR 61 := ⟨_, Tryd.func61, rfl, rfl⟩

end Go.Ab.StF

namespace Go.Ab.StF
open Go Go.Ab Go.Proofs
set_option maxHeartbeats 1000000
set_option maxRecDepth 100000

theorem oth_ord {xs : List (ByteArray × Int)} {o : List Int × List Int} (ho : Ord xs o) {i : Nat} (hi : i < xs.length) (h : i < o.1.length) : 0 ≤ o.1[i] ∧ o.1[i] ≤ 2 := by
  have := ho.v i hi
  rw [getD_e h] at this
  omega
theorem map_snoc {l : List Int} {i : Nat} (h : i < l.length) : (l.take (i + 1)).map oth = (l.take i).map oth ++ [oth l[i]] := by
  rw [take_succ' h, List.map_append]; rfl
theorem rev_snoc {l : List Int} {i : Nat} (h : i < l.length) : l.reverse.take (i + 1) = l.reverse.take i ++ [l[l.length - 1 - i]'(by omega)] := by
  rw [take_succ' (by simpa using h), List.getElem_reverse]
theorem wrong_list {xs : List (ByteArray × Int)} {cs : List (ByteArray × List Int)} (hc : (chk xs cs).2.2 = 0) : ∃ w, wrongS xs cs = (w, 0) ∧ w.length ≤ cs.length := by
  obtain ⟨o, ho, h, _⟩ := wrong_cases hc
  exact ⟨_, h, nf_len _ _⟩
theorem mist_list {xs : List (ByteArray × Int)} {cs : List (ByteArray × List Int)} (hc : (chk xs cs).2.2 = 0) : ∃ r, mistS xs cs = (r, 0) ∧ r.length ≤ 100 := by
  obtain ⟨p, hp, h, _⟩ := mist_cases hc
  have hv := chk_valid hc
  have hpl := (ord_okO hv.l5 hp).l
  obtain ⟨hb, _⟩ := offU_vals (cs := cs) hpl hv.l5 cs.length
  rw [← offS_U] at hb
  have := hv.c8
  exact ⟨_, h, by rw [List.length_map]; omega⟩
theorem read_range {xs : List (ByteArray × Int)} {cs : List (ByteArray × List Int)} (hc : (chk xs cs).2.2 = 0) (ha : agrL xs cs ≠ []) {a : Nat} (h : a < xs.length) : 0 ≤ (readS xs cs a).1 ∧ (readS xs cs a).1 ≤ 2 := by
  obtain ⟨o, ho⟩ := List.exists_mem_of_ne_nil _ ha
  have hv := (agr_ord ho).v a h
  rw [read_ok hc ha h]
  rcases sameL_val (z := 0) (g := fun o : List Int × List Int => o.1.getD a 0) ha with e | e
  · have := e o ho
    simp only at this ⊢
    rw [← this]; omega
  · rw [e.1]; simp
theorem flip_first {xs : List (ByteArray × Int)} {cs : List (ByteArray × List Int)} (hc : (chk xs cs).2.2 = 0) {n : Nat} (hn : n < xs.length) : ∃ G, firstS (flipX n xs) (flipC n cs) = (G, (firstS xs cs).2.1, (firstS xs cs).2.2) := by
  have hd := flip_chk hc hn
  by_cases ha : agrL xs cs = []
  · rw [first_no hc ha, first_no hd ((flip_ne hc hn).2 ha)]; exact ⟨_, rfl⟩
  · rw [first_ok hc ha, first_ok hd (fun h => ha ((flip_ne hc hn).1 h)), flip_len hc hn]; exact ⟨_, rfl⟩
theorem first_nine {xs : List (ByteArray × Int)} {cs : List (ByteArray × List Int)} (hc : (chk xs cs).2.2 = 0) (h : (firstS xs cs).2.2 ≠ 0) : (firstS xs cs).2.2 = 9 := by
  by_cases ha : agrL xs cs = []
  · rw [first_no hc ha]
  · rw [first_ok hc ha] at h; exact absurd rfl h

theorem c13 (xs : List (ByteArray × Int)) (cs : List (ByteArray × List Int)) (hN : LensN xs cs) (p q r : Int) (hp : 0 ≤ p ∧ p ≤ 255) (hq : 0 ≤ q ∧ q ≤ 255) (hr : 0 ≤ r ∧ r ≤ 255) : PCalls PR glT 13 [.agg [lociV xs, copsV cs], .agg [.arr (S := S) U.u8 3 [p, q, r]]] fun r => r = vB true := by
  refine fnW_sound (par_ok glT) Tryd.func13 ?_
  conv => whnf
  refine byC (c44 glT xs cs hN) op44 ?_
  conv => whnf
  refine bcase_iff.2 ⟨fun h1 => ?_, fun h1 => ?_⟩
  · skip
    conv => whnf
    refine byC ((c26)) op26 ?_
    -- R:T
    conv => whnf
    first | done | rfl
  · skip
    have hc := is_chk h1
    have hv := chk_valid hc
    have h1x := hv.l1
    have h5 := hv.l5
    have hc1 := hv.c1
    have hc8 := hv.c8
    obtain ⟨n, hI, hnx⟩ := idx_of hp h1x
    obtain ⟨a, hA, haa⟩ := idx_of hq h1x
    obtain ⟨b, hB, hbb⟩ := idx_of hr h1x
    obtain ⟨c, hC, hcc⟩ := idx_of hq hc1
    obtain ⟨d, hD, hdd⟩ := idx_of hr hc1
    obtain ⟨F, hF⟩ : ∃ F, F = firstS xs cs := ⟨_, rfl⟩
    obtain ⟨w, hW, hwl⟩ := wrong_list hc
    obtain ⟨R, hR, hRl⟩ := mist_list hc
    obtain ⟨G, hG⟩ := flip_first hc hnx
    have hXw := flip_wrong hc hnx
    have hXm := flip_mist hc hnx
    have hXc := flip_chk hc hnx
    have hXN := flip_lens hN n hnx
    have hXl := flipX_len n xs
    have hCl := flipC_len n cs
    have hXne := flip_ne hc hnx
    have hXr := fun ha : agrL xs cs ≠ [] => flip_read hc ha hnx
    have hXe := fun ha : agrL xs cs ≠ [] => flip_ear hc ha hnx hcc hdd
    obtain ⟨X, hX⟩ : ∃ X, X = flipX n xs := ⟨_, rfl⟩
    obtain ⟨C, hCC⟩ : ∃ C, C = flipC n cs := ⟨_, rfl⟩
    rw [← hX, ← hCC] at hG hXw hXm hXc hXN hXne hXr hXe
    rw [← hX] at hXl
    rw [← hCC] at hCl
    rw [← hF] at hG
    rw [hW] at hXw
    rw [hR] at hXm
    conv => whnf
    refine ⟨by omega, by omega, ?_⟩
    conv => whnf
    refine ⟨_, rfl, ?_⟩
    conv => whnf
    refine ⟨by omega, ?_⟩
    conv => whnf
    refine byC (by have := to (c61 glT hv n hnx) (show _ = .agg [lociV X, copsV C] by rw [hX, hCC]); rw [← hI] at this; exact this) op61 ?_
    conv => whnf
    refine byC (to (c21 glT xs cs hN.toLens) (by rw [first_eq, ← hF])) op21 ?_
    conv => whnf
    refine byC (to (c21 glT X C hXN.toLens) (show _ = fstV (G, F.2.1, F.2.2) by rw [first_eq, hG])) op21 ?_
    conv => whnf
    refine byC (to (c37 xs cs hN.toLens) (show _ = lstV (w, 0) by rw [wrong_eq, hW])) op37 ?_
    conv => whnf
    refine byC (to (c37 X C hXN.toLens) (show _ = lstV (w, 0) by rw [wrong_eq, hXw])) op37 ?_
    conv => whnf
    refine byC (to (c39 xs cs hN.toLens) (show _ = .tup [rdgsV R, vI 0] by rw [mist_eq, hR])) op39 ?_
    conv => whnf
    refine byC (to (c39 X C hXN.toLens) (show _ = .tup [rdgsV R, vI 0] by rw [mist_eq, hXm])) op39 ?_
    conv => whnf
    refine bcase_iff.2 ⟨fun g11_3 => ?_, fun g11_3 => ?_⟩
    · skip
      exfalso
      exact bne_sf g11_3 --done
    · skip
      conv => whnf
      refine bcase_iff.2 ⟨fun g11_8 => ?_, fun g11_8 => ?_⟩
      · skip
        exfalso
        exact bne_sf g11_8 --done
      · skip
        conv => whnf
        refine byC (to (c20 glT w w (by omega)) (congrArg _ (decide_eq_true rfl))) op20 ?_
        conv => whnf
        refine byC (to (c41 glT R R (by omega)) (congrArg _ (decide_eq_true rfl))) op41 ?_
        conv => whnf
        refine bcase_iff.2 ⟨fun h13 => ?_, fun h13 => ?_⟩
        · skip
          have h13 : F.2.2 ≠ 0 := by have h13 : (F.2.2 != 0) = true := h13; simpa using h13
          have h9 : F.2.2 = 9 := by rw [hF] at h13 ⊢; exact first_nine hc h13
          conv => whnf
          refine bcase_iff.2 ⟨fun g14_2 => ?_, fun g14_2 => ?_⟩
          · skip
            conv => whnf
            refine byC ((c26)) op26 ?_
            -- R:FFFTT
            conv => whnf
            first | done | rfl
          · skip
            exfalso
            have h : (F.2.2 == 9) = false := g14_2; rw [h9] at h; cases h --done
        · skip
          have h13 : F.2.2 = 0 := by have h13 : (F.2.2 != 0) = false := h13; simpa using h13
          have ha : agrL xs cs ≠ [] := fun ha => by rw [hF, first_no hc ha] at h13; cases h13
          have haX : agrL X C ≠ [] := fun h => ha (hXne.1 h)
          have hXr := hXr ha
          have hXe := hXe ha
          have hrr := read_range hc ha hnx
          have hm : F.1 ∈ agrL xs cs := by rw [hF, first_ok hc ha]; obtain ⟨o, ho⟩ := List.exists_mem_of_ne_nil _ ha; exact (head_first ho).1
          have hFo := agr_ord hm
          have hFk := ord_okO h5 hFo
          have hFl := hFk.l
          have hFm := hFk.m
          conv => whnf
          refine ⟨[0, 1, 2, 3, 4, 5, 6, 7, 8, 9, 10, 11, 12, 13, 14, 15], [], [], [], ⟨16296287810675888690147565507275025288411747149327490005089123594835050398106693649467179007, [], []⟩, by decide +kernel, ?_⟩
          conv => whnf
          refine ⟨by omega, by omega, ?_⟩
          conv => whnf
          refine ⟨_, rfl, ?_⟩
          conv => whnf
          refine ⟨by omega, ?_⟩
          conv => whnf
          refine ⟨by omega, by omega, ?_⟩
          conv => whnf
          refine ⟨_, rfl, ?_⟩
          conv => whnf
          refine ⟨by omega, ?_⟩
          conv => whnf
          refine byC (to (c27 glT xs cs hN.toLens _) (rdVv hc ha hI hnx)) op27 ?_
          conv => whnf
          refine byC (to (c27 glT X C hXN.toLens _) (show _ = .tup [vI (oth (readS xs cs n).1), vI 0] by rw [rdVv hXc haX hI (by omega), hXr.1])) op27 ?_
          conv => whnf
          refine byC (c62 glT (readS xs cs n).1 hrr) op62 ?_
          conv => whnf
          refine bcase_iff.2 ⟨fun h18 => ?_, fun h18 => ?_⟩
          · skip
            exfalso
            exact bne_sf h18 --done
          · skip
            conv => whnf
            refine ⟨[0, 1, 2, 3, 4, 5, 6, 7, 8, 9, 10, 11, 12, 13, 14, 15, 16, 17, 18, 19, 20], [], [], [], ⟨16296287810675888690147565507275025288411747149327490005089123594835050398106693649467179007, [], []⟩, by decide +kernel, ?_⟩
            conv => whnf
            refine ⟨by omega, by omega, ?_⟩
            conv => whnf
            refine ⟨_, rfl, ?_⟩
            conv => whnf
            refine ⟨by omega, ?_⟩
            conv => whnf
            refine ⟨by omega, by omega, ?_⟩
            conv => whnf
            refine ⟨_, rfl, ?_⟩
            conv => whnf
            refine ⟨by omega, ?_⟩
            conv => whnf
            refine byC (to (c33 glT xs cs hN.toLens _ _) (erV hc ha hC hD hcc hdd)) op33 ?_
            conv => whnf
            refine ⟨[0, 1, 2, 3, 4, 5, 6, 7, 8, 9, 10, 11, 12, 13, 14, 15, 16, 17, 18, 19, 20], [], [], [], ⟨16296287810675888690147565507275025288411747149327490005089123594835050398106693649467179007, [], []⟩, by decide +kernel, ?_⟩
            conv => whnf
            refine ⟨by omega, by omega, ?_⟩
            conv => whnf
            refine ⟨_, rfl, ?_⟩
            conv => whnf
            refine ⟨by omega, ?_⟩
            conv => whnf
            refine ⟨by omega, by omega, ?_⟩
            conv => whnf
            refine ⟨_, rfl, ?_⟩
            conv => whnf
            refine ⟨by omega, ?_⟩
            conv => whnf
            refine byC (to (c33 glT X C hXN.toLens _ _) (show _ = .tup [vI (earS xs cs c d).1, vI 0] by rw [erV hXc haX hC hD (by omega) (by omega), hXe])) op33 ?_
            conv => whnf
            refine bcase_iff.2 ⟨fun h22 => ?_, fun h22 => ?_⟩
            · skip
              exfalso
              exact bne_sf h22 --done
            · skip
              conv => whnf
              refine loop_q fun Q1 hQ1 => ?_
              refine ⟨⟨140509316, [3, 6, 10, 1006, 1007, 1010, 2006, 2007, 2010], [1006, 1007, 1010, 2006, 2007, 2010]⟩, ?_⟩
              refine LoopW_ind _ (fun i : Nat => (({ tmps := [.undef, .undef, .own 2 [], .undef, .undef, .undef, .undef, .own 7 [], .undef, .undef, .undef, .undef, .undef, .undef, .undef, .undef, .undef, .undef, .undef, .undef, .undef, vI ((IntKind.i64.wrap q).tmod (xs.length : Int)), vI ((IntKind.i64.wrap r).tmod (xs.length : Int)), .undef, .undef, .undef, .undef, vI i, .undef, .undef, .undef, .undef, .undef, .undef, .undef, .undef, .undef, .undef, .undef, .undef, .undef, .undef, .undef, .undef, .undef, .undef, .undef, .undef, .undef, .undef, .undef, .undef, .undef, .undef, .undef, .undef, .undef, .undef, .undef, .undef, .undef, .undef, .undef, .undef, .undef, .undef, .undef, .undef, .undef, .undef, .undef, .undef, .undef, .undef, .undef, .undef, .undef, .undef, .undef, .undef, .undef, .undef, .undef, .undef, .undef, .undef, .undef, .undef, .undef, .undef, .undef, .undef, .undef, .undef, .undef, .undef, .undef, .undef, .undef, .undef, .undef, .undef, .undef, .undef, .undef, .undef, .undef, .undef, .undef, .undef, .undef, .undef, .undef, .undef, .undef, .undef, .undef, .undef, .undef, .undef, .undef, .undef, .undef, .undef, .undef, .undef, .undef, .undef, .undef, .undef, .undef, .undef, .undef, .undef, .undef, .undef, .undef, .undef, .undef, .undef, .undef, .undef, .undef, .undef, .undef, .undef, .undef, .undef, .undef, .undef, .undef, .undef, .undef, .undef, .undef, .undef, .undef, .undef, .undef, .undef, .undef, .undef, .undef, .undef, .undef, .undef, .undef, .undef, .undef, .undef, .undef, .undef, .undef, .undef, .undef, .undef, .undef, .undef, .undef, .undef, .undef, .undef, .undef, .undef, .undef, .undef, .undef, .undef, .undef, .undef, .undef, .undef, .undef, .undef, .undef, .undef, .undef, .undef, .undef, .undef, .undef, .undef, .undef, .undef, .undef, .undef, .undef, .undef, .undef, .undef, .undef, .undef, .undef, .undef, .undef, .undef, .undef, .undef, .undef, .undef, .undef, .undef, .undef, .undef, .undef, .undef, .undef, .undef, .undef, .undef, .undef, .undef, .undef, .undef, .undef, .undef, .undef, .undef, .undef, .undef, .undef, .undef, .undef, .undef, .undef, .undef, .undef, .undef, .undef, .undef, .undef, .undef, .undef, .undef, .undef, .undef, .undef, .undef, .undef, .undef, .undef, .undef, .undef, .undef, .undef, .undef, .undef, .undef, .undef, .undef, .undef, .undef, .undef, .undef, .undef, .undef, .undef, .undef, .undef, .undef, .undef, .undef, .undef, .undef, .undef, .undef, .undef, .undef, .undef, .undef, .undef, .undef, .undef, .undef, .undef, .undef, .undef, .undef, .undef, .undef, .undef, .undef, .undef], seg := [(2, .cells [lociV xs, copsV cs]), (7, .cells [vL F.1.1, vL F.1.2])], up := [] } : St S))) (fun i : Nat => (i ≤ xs.length ∧ ∀ j, j < i → (xs.getD j (ByteArray.empty, 0)).2 = 0)) (fun i : Nat => (xs.length - i)) () ?_ 0 ⟨Nat.zero_le _, fun j h => absurd h (Nat.not_lt_zero j)⟩
              intro i hinv Z1 hZ1
              obtain ⟨hi, hz⟩ := hinv
              conv => whnf
              refine bcase_iff.2 ⟨fun h25 => ?_, fun h25 => ?_⟩
              · skip
                have hlt : i < xs.length := by have := of_decide_eq_true h25; omega
                have hw : IntKind.i64.wrap ((i : Int) + 1) = ((i + 1 : Nat) : Int) := wrap_nat (by omega)
                conv => whnf
                refine ⟨_, getI_nat hlt, ?_⟩
                conv => whnf
                refine bcase_iff.2 ⟨fun h27 => ?_, fun h27 => ?_⟩
                · skip
                  conv => whnf
                  refine byC ((c26)) op26 ?_
                  conv => whnf
                  refine (hQ1 _ _ _).mpr ?_
                  -- R:FFFFFFTT
                  conv => whnf
                  first | done | rfl
                · skip
                  have h27 : xs[i].2 = 0 := by have h27 : (xs[i].2 != 0) = false := h27; simpa using h27
                  -- Z25:TF
                  conv => whnf
                  refine ⟨⟨140509316, [], []⟩, ?_⟩
                  conv => whnf
                  rw [hw]
                  exact hZ1 (i + 1) ⟨hlt, fun j hj => by by_cases e : j = i; subst e; rw [getD_e hlt]; exact h27; exact hz j (by omega)⟩ (by omega)
              · skip
                have hge : i = xs.length := by have := of_decide_eq_false h25; omega
                have h0 : ∀ j, j < xs.length → (xs.getD j (ByteArray.empty, 0)).2 = 0 := fun j hj => hz j (by omega)
                have hbm := back_agr hc h0 hm
                have hbr := back_read hc ha h0 haa
                conv => whnf
                refine (hQ1 _ _ _).mpr ?_
                conv => whnf
                refine loop_q fun Q2 hQ2 => ?_
                refine ⟨⟨811597956, [], [1028, 2028]⟩, ?_⟩
                refine LoopW_ind _ (fun k : Nat => (({ tmps := [.undef, .undef, .own 2 [], .undef, .undef, .undef, .undef, .own 7 [], .undef, .undef, .undef, .undef, .undef, .undef, .undef, .undef, .undef, .undef, .undef, .undef, .undef, vI ((IntKind.i64.wrap q).tmod (xs.length : Int)), vI ((IntKind.i64.wrap r).tmod (xs.length : Int)), .undef, .undef, .undef, .undef, .undef, .own 28 [], vI k, .undef, .undef, .undef, .undef, .undef, .undef, .undef, .undef, .undef, .undef, .undef, .undef, .undef, .undef, .undef, .undef, .undef, .undef, .undef, .undef, .undef, .undef, .undef, .undef, .undef, .undef, .undef, .undef, .undef, .undef, .undef, .undef, .undef, .undef, .undef, .undef, .undef, .undef, .undef, .undef, .undef, .undef, .undef, .undef, .undef, .undef, .undef, .undef, .undef, .undef, .undef, .undef, .undef, .undef, .undef, .undef, .undef, .undef, .undef, .undef, .undef, .undef, .undef, .undef, .undef, .undef, .undef, .undef, .undef, .undef, .undef, .undef, .undef, .undef, .undef, .undef, .undef, .undef, .undef, .undef, .undef, .undef, .undef, .undef, .undef, .undef, .undef, .undef, .undef, .undef, .undef, .undef, .undef, .undef, .undef, .undef, .undef, .undef, .undef, .undef, .undef, .undef, .undef, .undef, .undef, .undef, .undef, .undef, .undef, .undef, .undef, .undef, .undef, .undef, .undef, .undef, .undef, .undef, .undef, .undef, .undef, .undef, .undef, .undef, .undef, .undef, .undef, .undef, .undef, .undef, .undef, .undef, .undef, .undef, .undef, .undef, .undef, .undef, .undef, .undef, .undef, .undef, .undef, .undef, .undef, .undef, .undef, .undef, .undef, .undef, .undef, .undef, .undef, .undef, .undef, .undef, .undef, .undef, .undef, .undef, .undef, .undef, .undef, .undef, .undef, .undef, .undef, .undef, .undef, .undef, .undef, .undef, .undef, .undef, .undef, .undef, .undef, .undef, .undef, .undef, .undef, .undef, .undef, .undef, .undef, .undef, .undef, .undef, .undef, .undef, .undef, .undef, .undef, .undef, .undef, .undef, .undef, .undef, .undef, .undef, .undef, .undef, .undef, .undef, .undef, .undef, .undef, .undef, .undef, .undef, .undef, .undef, .undef, .undef, .undef, .undef, .undef, .undef, .undef, .undef, .undef, .undef, .undef, .undef, .undef, .undef, .undef, .undef, .undef, .undef, .undef, .undef, .undef, .undef, .undef, .undef, .undef, .undef, .undef, .undef, .undef, .undef, .undef, .undef, .undef, .undef, .undef, .undef, .undef, .undef, .undef, .undef, .undef, .undef, .undef, .undef, .undef, .undef, .undef, .undef, .undef, .undef, .undef, .undef, .undef, .undef, .undef, .undef, .undef, .undef, .undef, .undef, .undef], seg := [(2, .cells [lociV xs, copsV cs]), (7, .cells [vL F.1.1, vL F.1.2]), (28, .cells [.sl (S := S) U.int ((F.1.1.take k).map oth) (some 1028), .sl (S := S) U.int (F.1.2.reverse.take k) (some 2028)]), (1028, .row U.int false), (2028, .row U.int false)], up := [] } : St S))) (fun k : Nat => (k ≤ xs.length)) (fun k : Nat => (xs.length - k)) () ?_ 0 (Nat.zero_le _)
                intro k hk Z2 hZ2
                conv => whnf
                refine bcase_iff.2 ⟨fun h31 => ?_, fun h31 => ?_⟩
                · skip
                  have hltk : k < xs.length := by have h31 : decide ((k : Int) < (F.1.2.length : Int)) = true := h31; have := of_decide_eq_true h31; omega
                  have hwk : IntKind.i64.wrap ((k : Int) + 1) = ((k + 1 : Nat) : Int) := wrap_nat (by omega)
                  have hk1 : k < F.1.1.length := by omega
                  have hk2 : k < F.1.2.length := by omega
                  have hwr : IntKind.i64.wrap (IntKind.i64.wrap ((F.1.2.length : Int) - 1) - (k : Int)) = ((F.1.2.length - 1 - k : Nat) : Int) := by rw [wrap_int (n := (F.1.2.length : Int) - 1) (by omega) (by omega), wrap_int (by omega) (by omega)]; omega
                  conv => whnf
                  refine ⟨[0, 1, 2, 3, 4, 5, 6, 7, 8, 9, 10, 11], [8], [], [], ⟨16296287810675888690147565507275025288411747149327490005089123594835050398106693649467179007, [], []⟩, by decide +kernel, ?_⟩
                  conv => whnf
                  refine ⟨_, getI_nat hk1, ?_⟩
                  conv => whnf
                  refine byC (c62 glT F.1.1[k] (oth_ord hFo hltk hk1)) op62 ?_
                  conv => whnf
                  refine ⟨_, rfl, ?_⟩
                  conv => whnf
                  refine ⟨lim (by show ((F.1.1.take k).map oth).length + 1 ≤ _; rw [List.length_map, List.length_take]; omega), ?_⟩
                  conv => whnf
                  refine ⟨[0, 1, 2, 3, 4, 5, 6, 7, 8, 9, 10, 11, 12, 13, 14, 15], [12], [], [], ⟨16296287810675888690147565507275025288411747149327490005089123594835050398106693649467179007, [], []⟩, by decide +kernel, ?_⟩
                  conv => whnf
                  refine ⟨_, getI_at hwr (show F.1.2.length - 1 - k < F.1.2.length by omega), ?_⟩
                  conv => whnf
                  refine ⟨_, rfl, ?_⟩
                  conv => whnf
                  refine ⟨lim (by show (F.1.2.reverse.take k).length + 1 ≤ _; rw [List.length_take, List.length_reverse]; omega), ?_⟩
                  -- Z31:T
                  conv => whnf
                  refine ⟨⟨811597956, [238, 239, 253, 254], []⟩, ?_⟩
                  conv => whnf
                  rw [hwk]
                  have := hZ2 (k + 1) hltk (by omega)
                  rw [map_snoc hk1, rev_snoc hk2] at this
                  exact this
                · skip
                  have hgk : k = xs.length := by have h31 : decide ((k : Int) < (F.1.2.length : Int)) = false := h31; have := of_decide_eq_false h31; omega
                  have e1 : ((F.1.1.take k).map oth, F.1.2.reverse.take k) = backO F.1 := by unfold backO; rw [List.take_of_length_le (by omega), List.take_of_length_le (by rw [List.length_reverse]; omega)]
                  conv => whnf
                  refine (hQ2 _ _ _).mpr ?_
                  conv => whnf
                  refine byC (to (c18 glT xs cs hN.toLens ((F.1.1.take k).map oth) (F.1.2.reverse.take k) (by rw [List.length_map, List.length_take]; omega) (by rw [List.length_take, List.length_reverse]; omega)) (show _ = lstV ([], 0) by have e2 := odd_ok hc (agr_ord hbm); rw [amid_none hbm, ← e1] at e2; rw [odd_eq, e2]; rfl)) op18 ?_
                  conv => whnf
                  refine byC (to (c27 glT xs cs hN.toLens _) (show _ = .tup [vI 0, vI 0] by rw [rdVv hc ha hA haa, hbr])) op27 ?_
                  conv => whnf
                  refine bcase_iff.2 ⟨fun h39 => ?_, fun h39 => ?_⟩
                  · skip
                    conv => whnf
                    refine byC ((c26)) op26 ?_
                    -- R:FFFFFFFFT
                    conv => whnf
                    first | done | rfl
                  · skip
                    have hne : a ≠ b := fun e => by have h39 : (_ == _) = false := h39; rw [hA, hB, e] at h39; simp at h39
                    conv => whnf
                    refine byC (to (c29 glT xs cs hN.toLens _ _) (show _ = .tup [vI 0, vI 0] by rw [bfV hc ha hA hB haa hbb hne, back_bef hc ha h0 haa hbb hne])) op29 ?_
                    conv => whnf
                    refine byC ((c26)) op26 ?_
                    -- R:FFFFFFFFF
                    conv => whnf
                    first | done | rfl

end Go.Ab.StF
