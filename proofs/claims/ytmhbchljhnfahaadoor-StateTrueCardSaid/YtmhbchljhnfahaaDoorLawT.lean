/-
  THE STATE FAMILY, PART OK: copies that are told of an order.
  THE STATE FAMILY, PART OL: StateTrue.
-/
import Derived.Test.YtmhbchljhnfahaaDoorPlainE
import Derived.Test.YtmhbchljhnfahaaDoorLawF
import Derived.Test.YtmhbchljhnfahaaDoorLawM
namespace Go.Ab.StF
open Go Go.Ab Go.Proofs
set_option maxHeartbeats 1000000
set_option maxRecDepth 100000

theorem prt_eq {pr : List Int} (hb : ∀ v ∈ pr, 0 ≤ v ∧ v ≤ 255) {n : Nat} (hn : n ≤ 5) (i : Nat) : (turnV pr i).tmod (IntKind.i64.wrap ((n : Int) + 1)) = ((prtK n pr i : Nat) : Int) := by
  obtain ⟨q, hq⟩ : ∃ q : Nat, turnV pr i = q := ⟨(turnV pr i).toNat, by have := turn_val hb i; omega⟩
  unfold prtK
  rw [hq, wrap_nat (by omega), Int.toNat_natCast, Int.tmod_eq_emod_of_nonneg (by omega)]; omega
theorem mul_idx {i n k : Nat} (hi : i ≤ 8) (hn : n ≤ 5) (hk : k ≤ 5) : IntKind.i64.wrap (IntKind.i64.wrap ((i : Int) * (n : Int)) + (k : Int)) = ((i * n + k : Nat) : Int) := by
  have h : i * n ≤ 8 * 5 := Nat.mul_le_mul hi hn
  have h' : (i : Int) * (n : Int) = ((i * n : Nat) : Int) := by push_cast; rfl
  have e0 : (0 : Int) ≤ ((i * n : Nat) : Int) ∧ ((i * n : Nat) : Int) ≤ 40 := ⟨Int.natCast_nonneg _, by omega⟩
  have e1 : IntKind.i64.wrap ((i * n : Nat) : Int) = ((i * n : Nat) : Int) := wrap_int (by omega) (by omega)
  have e3 : (0 : Int) ≤ ((i * n + k : Nat) : Int) ∧ ((i * n + k : Nat) : Int) ≤ 45 := ⟨Int.natCast_nonneg _, by omega⟩
  have e2 : IntKind.i64.wrap ((i * n + k : Nat) : Int) = ((i * n + k : Nat) : Int) := wrap_int (by omega) (by omega)
  rw [h', e1, show ((i * n : Nat) : Int) + (k : Int) = ((i * n + k : Nat) : Int) by push_cast; rfl, e2]

theorem c46 (gl : Gl) {xs : List (ByteArray × Int)} {cs : List (ByteArray × List Int)} (hv : Valid xs cs) {o : List Int × List Int} (ho : Ord xs o) (ops prs ses : List Int) (hpl : prs.length ≤ 9223372036854775807) (hpb : ∀ v ∈ prs, 0 ≤ v ∧ v ≤ 255) (hsl : ses.length ≤ 9223372036854775807) (hsb : ∀ v ∈ ses, 0 ≤ v ∧ v ≤ 255) : PCalls PR gl 46 [.agg [lociV xs, copsV cs], .agg [vL o.1, vL o.2], .agg [.sl (S := S) U.u8 ops none, .sl (S := S) U.u8 prs none, .sl (S := S) U.u8 ses none]] fun r => r = .tup [.agg [lociV xs, copsV (tolL xs.length o prs ses cs)], vL (prtL xs.length prs cs.length)] := by
  have h5 := hv.l5
  have hc8 := hv.c8
  have hok := ord_okO h5 ho
  have hol := hok.l
  refine fnW_sound (par_ok gl) Tryd.func46 ?_
  conv => whnf
  refine loop_q fun Q1 hQ1 => ?_
  refine ⟨⟨1912, [7], [7, 8, 9]⟩, ?_⟩
  refine LoopW_ind _ (fun i : Nat => (({ tmps := [.undef, .undef, .undef, .own 3 [], .own 4 [], .own 5 [], .own 6 [], .undef, .sl (S := S) U.copy ((List.range i).map (tolF xs.length o prs ses cs)) (some 8), .sl (S := S) U.int (prtL xs.length prs i) (some 9), vI i, .undef, .undef, .undef, .undef, .undef, .undef, .undef, .undef, .undef, .undef, .undef, .undef, .undef, .undef, .undef, .undef, .undef, .undef, .undef, .undef, .undef, .undef, .undef, .undef, .undef, .undef, .undef, .undef, .undef, .undef, .undef, .undef, .undef, .undef, .undef, .undef, .undef, .undef, .undef, .undef, .undef, .undef, .undef, .undef, .undef, .undef, .undef, .undef, .undef, .undef, .undef, .undef, .undef, .undef, .undef, .undef, .undef, .undef, .undef, .undef, .undef, .undef, .undef, .undef], seg := [(3, .cells [lociV xs, copsV cs]), (4, .cells [vL o.1, vL o.2]), (5, .cells [.sl (S := S) U.u8 ops none, .sl (S := S) U.u8 prs none, .sl (S := S) U.u8 ses none]), (6, .cells [.sl (S := S) U.locus [] (some 1006), .sl (S := S) U.copy [] (some 2006)]), (8, .row U.copy false), (9, .row U.int false), (1006, .row U.locus true), (2006, .row U.copy true)], up := [] } : St S))) (fun i : Nat => (i ≤ cs.length)) (fun i : Nat => (cs.length - i)) () ?_ 0 (Nat.zero_le _)
  intro i hi Z1 hZ1
  conv => whnf
  refine bcase_iff.2 ⟨fun h4 => ?_, fun h4 => ?_⟩
  · skip
    have hlt : i < cs.length := by have := of_decide_eq_true h4; omega
    have hw : IntKind.i64.wrap ((i : Int) + 1) = ((i + 1 : Nat) : Int) := wrap_nat (by omega)
    conv => whnf
    refine ⟨[0, 1, 2, 4, 5, 6, 7, 3, 8, 9], [], [], [], ⟨37778931862957161709567, [], []⟩, by decide +kernel, ?_⟩
    conv => whnf
    refine byC (c105' gl prs hpl hpb _ i rfl) op105 ?_
    conv => whnf
    have hprt := prt_eq hpb h5 i
    refine ⟨by rw [wrap_nat (by omega)]; omega, ?_⟩
    conv => whnf
    refine ⟨[0, 1, 2, 3, 4, 5, 6, 7, 8, 9, 10, 11], [10], [8], [], ⟨37778931862957161709567, [], []⟩, by decide +kernel, ?_⟩
    conv => whnf
    refine ⟨_, getI_nat hlt, ?_⟩
    conv => whnf
    refine byC (by have := c51R gl o hok (prtK xs.length prs i) 38; rw [← hprt] at this; exact this) op51 ?_
    conv => whnf
    rw [hprt]
    refine loop_q fun Q2 hQ2 => ?_
    refine ⟨⟨16248, [2012], [2012]⟩, ?_⟩
    refine LoopW_ind _ (fun s : Nat × List Int => match s with | (k, ss) => (({ tmps := [.undef, .undef, .undef, .own 3 [], .own 4 [], .own 5 [], .own 6 [], .undef, .sl (S := S) U.copy ((List.range i).map (tolF xs.length o prs ses cs)) (some 8), .sl (S := S) U.int (prtL xs.length prs i) (some 9), vI i, vI ((prtK xs.length prs i : Nat) : Int), .own 12 [], vI k, .undef, .undef, .undef, .undef, .undef, .undef, .undef, .undef, .undef, .undef, .undef, .undef, .undef, .undef, .undef, .undef, .undef, .undef, .undef, .undef, .undef, .undef, .undef, .undef, .undef, .undef, .undef, .undef, .undef, .undef, .undef, .undef, .undef, .undef, .undef, .undef, .undef, .undef, .undef, .undef, .undef, .undef, .undef, .undef, .undef, .undef, .undef, .undef, .undef, .undef, .undef, .undef, .undef, .undef, .undef, .undef, .undef, .undef, .undef, .undef, .undef], seg := [(3, .cells [lociV xs, copsV cs]), (4, .cells [vL o.1, vL o.2]), (5, .cells [.sl (S := S) U.u8 ops none, .sl (S := S) U.u8 prs none, .sl (S := S) U.u8 ses none]), (6, .cells [.sl (S := S) U.locus [] (some 1006), .sl (S := S) U.copy [] (some 2006)]), (8, .row U.copy false), (9, .row U.int false), (12, .cells [.str cs[i].1, .sl (S := S) U.int ss (some 38)]), (38, .row U.int true), (1006, .row U.locus true), (2006, .row U.copy true)], up := [] } : St S))) (fun s : Nat × List Int => match s with | (k, ss) => (k ≤ xs.length ∧ ss = seeU xs.length ses i k (stateS (prtK xs.length prs i) o))) (fun s : Nat × List Int => match s with | (k, ss) => (xs.length - k)) () ?_ (0, _) ⟨Nat.zero_le _, seeU_zero (by rw [stateS_len, hol])⟩
    rintro ⟨k, ss⟩ hinv Z2 hZ2
    dsimp only at hinv hZ2
    obtain ⟨hk, hss⟩ := hinv
    have hsn : ss.length = xs.length := by rw [hss, seeU_len]
    conv => whnf
    refine bcase_iff.2 ⟨fun h9 => ?_, fun h9 => ?_⟩
    · skip
      have hltk : k < ss.length := by have := of_decide_eq_true h9; omega
      have hwk : IntKind.i64.wrap ((k : Int) + 1) = ((k + 1 : Nat) : Int) := wrap_nat (by omega)
      conv => whnf
      refine byC (c105' gl ses hsl hsb _ (i * xs.length + k) (mul_idx (by omega) h5 (by omega))) op105 ?_
      conv => whnf
      refine ⟨by decide, ?_⟩
      conv => whnf
      refine bcase_iff.2 ⟨fun h11 => ?_, fun h11 => ?_⟩
      · skip
        have h11 : (turnV ses (i * xs.length + k)).tmod 3 = 2 := beq_iff_eq.1 h11
        conv => whnf
        refine ⟨true, ⟨_, getI_nat hltk, ?_⟩⟩
        conv => whnf
        refine ⟨_, rfl, ?_⟩
        -- Z9:TT
        conv => whnf
        refine ⟨⟨16248, [], []⟩, ?_⟩
        conv => whnf
        rw [hwk, Int.toNat_natCast]
        exact hZ2 (k + 1, _) ⟨by omega, by rw [← seeU_T h11, ← hss]⟩ (by dsimp only; omega)
      · skip
        have h11 : ¬ (turnV ses (i * xs.length + k)).tmod 3 = 2 := beq_eq_false_iff_ne.1 h11
        -- Z9:TF
        conv => whnf
        refine ⟨⟨16248, [], []⟩, ?_⟩
        conv => whnf
        rw [hwk]
        exact hZ2 (k + 1, _) ⟨by omega, by rw [← seeU_F h11, ← hss]⟩ (by dsimp only; omega)
    · skip
      have hgk : k = xs.length := by have := of_decide_eq_false h9; omega
      conv => whnf
      refine (hQ2 _ _ _).mpr ?_
      conv => whnf
      refine ⟨_, rfl, ?_⟩
      conv => whnf
      refine ⟨lim (by show ((List.range i).map (tolF xs.length o prs ses cs)).length + 1 ≤ _; rw [List.length_map, List.length_range]; omega), ?_⟩
      conv => whnf
      refine ⟨_, rfl, ?_⟩
      conv => whnf
      refine ⟨lim (by show (prtL xs.length prs i).length + 1 ≤ _; rw [prtL_len]; omega), ?_⟩
      -- Z4:TF
      conv => whnf
      refine ⟨⟨1912, [12, 38, 65, 66, 69, 70, 1012, 2012, 3012, 4012], []⟩, ?_⟩
      conv => whnf
      rw [hw]
      have := hZ1 (i + 1) hlt (by omega)
      have e2 : tolF xs.length o prs ses cs i = (cs[i].1, ss) := by unfold tolF tolC; rw [getD_e hlt, hss, hgk]
      rw [tolF_succ, prtL_succ, e2] at this
      exact this
  · skip
    have hge : i = cs.length := by have := of_decide_eq_false h4; omega
    conv => whnf
    refine (hQ1 _ _ _).mpr ?_
    -- R:F
    conv => whnf
    rw [hge]
    rfl

theorem op46 : Opens PR 46 := ⟨_, Tryd.func46, rfl, rfl⟩

end Go.Ab.StF

namespace Go.Ab.StF
open Go Go.Ab Go.Proofs
set_option maxHeartbeats 1000000
set_option maxRecDepth 100000

theorem true_befI {xs : List (ByteArray × Int)} {ds : List (ByteArray × List Int)} {o : List Int × List Int} (hc : (chk xs ds).2.2 = 0) (ho : o ∈ agrL xs ds) {a b : Nat} (h : a < xs.length) (h' : b < xs.length) (hne : a ≠ b) : saysB (befS xs ds a b).1 (decide (((plc o.2 a : Nat) : Int) < ((plc o.2 b : Nat) : Int))) (decide (((plc o.2 b : Nat) : Int) < ((plc o.2 a : Nat) : Int))) = true := by
  simpa only [Int.ofNat_lt] using true_bef hc ho h h' hne
theorem true_earI {xs : List (ByteArray × Int)} {cs : List (ByteArray × List Int)} {o : List Int × List Int} {pr se : List Int} (hc : (chk xs cs).2.2 = 0) (ho : Ord xs o) {a b : Nat} (h : a < cs.length) (h' : b < cs.length) (h1 : a < (prtL xs.length pr cs.length).length) (h2 : b < (prtL xs.length pr cs.length).length) : saysB (earS xs (tolL xs.length o pr se cs) a b).1 (decide ((prtL xs.length pr cs.length)[a] < (prtL xs.length pr cs.length)[b])) (decide ((prtL xs.length pr cs.length)[b] < (prtL xs.length pr cs.length)[a])) = true := by
  rw [prtL_at, prtL_at]
  simpa only [Int.ofNat_lt] using true_ear hc ho h h'

theorem c8 (xs : List (ByteArray × Int)) (cs : List (ByteArray × List Int)) (hN : LensN xs cs) (ops prs ses : List Int) (hol : ops.length ≤ 9223372036854775807) (hob : ∀ v ∈ ops, 0 ≤ v ∧ v ≤ 255) (hpl : prs.length ≤ 9223372036854775807) (hpb : ∀ v ∈ prs, 0 ≤ v ∧ v ≤ 255) (hsl : ses.length ≤ 9223372036854775807) (hsb : ∀ v ∈ ses, 0 ≤ v ∧ v ≤ 255) (p q r s : Int) (hp : 0 ≤ p ∧ p ≤ 255) (hq : 0 ≤ q ∧ q ≤ 255) (hr : 0 ≤ r ∧ r ≤ 255) (hs : 0 ≤ s ∧ s ≤ 255) : PCalls PR glT 8 [.agg [lociV xs, copsV cs], .agg [.sl (S := S) U.u8 ops none, .sl (S := S) U.u8 prs none, .sl (S := S) U.u8 ses none], .agg [.arr (S := S) U.u8 4 [p, q, r, s]]] fun r => r = vB true := by
  refine fnW_sound (par_ok glT) Tryd.func8 ?_
  conv => whnf
  refine byC (c44 glT xs cs hN) op44 ?_
  conv => whnf
  refine bcase_iff.2 ⟨fun h1 => ?_, fun h1 => ?_⟩
  · skip
    have hc : ¬ (chk xs cs).2.2 = 0 := fun h => not_chk h1 h
    conv => whnf
    refine byC (to (c21 glT xs cs hN.toLens) (show _ = fstV (([], []), 0, (chk xs cs).2.2) by rw [first_eq, first_err hc])) op21 ?_
    conv => whnf
    refine bcase_iff.2 ⟨fun g3_2 => ?_, fun g3_2 => ?_⟩
    · skip
      conv => whnf
      refine byC ((c26)) op26 ?_
      -- R:TT
      conv => whnf
      first | done | rfl
    · skip
      exfalso
      have h : ((chk xs cs).2.2 != 0) = false := g3_2; exact hc (by simpa using h) --done
  · skip
    have hc := is_chk h1
    have hv := chk_valid hc
    have h1x := hv.l1
    have h5 := hv.l5
    have hc1 := hv.c1
    have hc8 := hv.c8
    obtain ⟨a, hA, haa⟩ := idx_of hp h1x
    obtain ⟨b, hB, hbb⟩ := idx_of hq h1x
    conv => whnf
    refine byE (c45 glT hv ops hol hob) op45 (let ⟨o, h⟩ := List.exists_mem_of_ne_nil _ (allL_ne hv.fst); ⟨o, mem_allL.1 h⟩) fun o ho => ?_
    conv => whnf
    obtain ⟨ds, hds⟩ : ∃ ds, ds = tolL xs.length o prs ses cs := ⟨_, rfl⟩
    have hok := ord_okO h5 ho
    have h1l := hok.l
    have h2l := hok.m
    have hdl : ds.length = cs.length := by rw [hds, tolL_len]
    have hd : (chk xs ds).2.2 = 0 := by rw [hds]; exact tol_chk hc ho
    have hm : o ∈ agrL xs ds := by rw [hds]; exact tol_agr ho
    have ha : agrL xs ds ≠ [] := List.ne_nil_of_mem hm
    have hM : LensN xs ds := by rw [hds]; exact tol_lens hN
    have hL0 : 0 < (agrL xs ds).length := List.length_pos_iff.2 ha
    have hhl : ((agrL xs ds).headD ([], [])).2.length = xs.length := (ord_okO h5 (agr_ord (head_first hm).1)).m
    have hrd : (readS xs ds a).1 = 0 ∨ (readS xs ds a).1 = o.1[a]'(by omega) := by have := true_read hd hm haa; rwa [getD_e (show a < o.1.length by omega)] at this
    obtain ⟨L, hL, hLl, hLn⟩ := true_last hd hm
    obtain ⟨c, hC, hcc⟩ := idx_of hr (show 1 ≤ ds.length by omega)
    obtain ⟨d, hD, hdd⟩ := idx_of hs (show 1 ≤ ds.length by omega)
    have hpc : c < (prtL xs.length prs cs.length).length := by rw [prtL_len]; omega
    have hpd : d < (prtL xs.length prs cs.length).length := by rw [prtL_len]; omega
    have haft : inB ((prtL xs.length prs cs.length)[c]) (aftS xs ds c).1.1 (aftS xs ds c).1.2 = true := by rw [prtL_at, hds]; exact true_aft hc ho (by omega)
    have hear : saysB (earS xs ds c d).1 (decide ((prtL xs.length prs cs.length)[c] < (prtL xs.length prs cs.length)[d])) (decide ((prtL xs.length prs cs.length)[d] < (prtL xs.length prs cs.length)[c])) = true := by rw [hds]; exact true_earI hc ho (by omega) (by omega) hpc hpd
    refine byC (to (c46 glT hv ho ops prs ses hpl hpb hsl hsb) (show _ = .tup [.agg [lociV xs, copsV ds], vL (prtL xs.length prs cs.length)] by rw [hds])) op46 ?_
    conv => whnf
    refine byC (to (c18 glT xs ds hM.toLens o.1 o.2 (by omega) (by omega)) (show _ = lstV ([], 0) by rw [odd_eq, odd_ok hd ho, amid_none hm]; rfl)) op18 ?_
    conv => whnf
    refine byC (to (c21 glT xs ds hM.toLens) (firstVy hd ha)) op21 ?_
    conv => whnf
    refine byC (to (c37 xs ds hM.toLens) (show _ = lstV ([], 0) by rw [wrong_eq, agr_wrong hd hm])) op37 ?_
    conv => whnf
    refine byC (to (c39 xs ds hM.toLens) (show _ = .tup [rdgsV [], vI 0] by rw [mist_eq, agr_mist hd hm])) op39 ?_
    conv => whnf
    refine bcase_iff.2 ⟨fun g10_29 => ?_, fun g10_29 => ?_⟩
    · skip
      exfalso
      have h : decide (((agrL xs ds).length : Int) < 1) = true := g10_29; have h := of_decide_eq_true h; omega --done
    · skip
      conv => whnf
      refine bcase_iff.2 ⟨fun h10 => ?_, fun h10 => ?_⟩
      · skip
        exfalso
        have h : ((((agrL xs ds).headD ([], [])).2.length : Int) != (xs.length : Int)) = true := h10; rw [hhl] at h; exact bne_sf h --done
      · skip
        conv => whnf
        refine ⟨[0, 1, 2, 3, 4, 5, 6, 7, 8, 9, 10, 11, 12, 13, 14, 15], [], [], [], ⟨7770675568902916283677847627294075626569627356208558085007249638955617140820833992703, [], []⟩, by decide +kernel, ?_⟩
        conv => whnf
        refine ⟨by omega, by omega, ?_⟩
        conv => whnf
        refine ⟨_, rfl, ?_⟩
        conv => whnf
        refine ⟨by omega, ?_⟩
        conv => whnf
        refine ⟨by omega, by omega, ?_⟩
        conv => whnf
        refine ⟨_, rfl, ?_⟩
        conv => whnf
        refine ⟨by omega, ?_⟩
        conv => whnf
        refine byC (to (c27 glT xs ds hM.toLens _) (rdVv hd ha hA haa)) op27 ?_
        conv => whnf
        refine bcase_iff.2 ⟨fun g14_5 => ?_, fun g14_5 => ?_⟩
        · skip
          conv => whnf
          refine ⟨_, getI_at hA (show a < o.1.length by omega), ?_⟩
          conv => whnf
          refine bcase_iff.2 ⟨fun h14 => ?_, fun h14 => ?_⟩
          · skip
            exfalso
            exact sure_ne hrd g14_5 h14 --done
          · skip
            conv => whnf
            refine bcase_iff.2 ⟨fun h16 => ?_, fun h16 => ?_⟩
            · skip
              have hne := ne_of hA hB h16
              conv => whnf
              refine byC (to (c29 glT xs ds hM.toLens _ _) (bfV hd ha hA hB haa hbb hne)) op29 ?_
              conv => whnf
              refine ⟨[0, 1, 2, 4, 5, 6, 3, 7, 8, 9], [], [], [], ⟨7770675568902916283677847627294075626569627356208558085007249638955617140820833992703, [], []⟩, by decide +kernel, ?_⟩
              conv => whnf
              refine byC (to (c47 glT o.2 (by omega) _) (show _ = vI ((plc o.2 (a : Int) : Nat) : Int) by rw [hA])) op47 ?_
              conv => whnf
              refine byC (to (c47 glT o.2 (by omega) _) (show _ = vI ((plc o.2 (b : Int) : Nat) : Int) by rw [hB])) op47 ?_
              conv => whnf
              refine byC (to (c48 glT _ _ _) (congrArg vB (true_befI hd hm haa hbb hne))) op48 ?_
              conv => whnf
              refine byC (to (c24 glT xs ds hM.toLens) (show _ = lstV (L, 0) by rw [last_eq, hL])) op24 ?_
              conv => whnf
              refine ⟨[0, 1, 2, 3, 4, 5, 6, 7, 8, 9, 10, 11, 12, 13, 14, 15, 16, 17, 18, 19, 20, 21], [], [], [], ⟨7770675568902916283677847627294075626569627356208558085007249638955617140820833992703, [], []⟩, by decide +kernel, ?_⟩
              conv => whnf
              refine bcase_iff.2 ⟨fun g22_10 => ?_, fun g22_10 => ?_⟩
              · skip
                exfalso
                have h : ((L.length : Int) != (xs.length : Int)) = true := g22_10; rw [hLl] at h; exact bne_sf h --done
              · skip
                conv => whnf
                refine ⟨_, getI_at hA (show a < L.length by omega), ?_⟩
                conv => whnf
                refine ⟨_, getI_at hA (show a < o.1.length by omega), ?_⟩
                conv => whnf
                refine bcase_iff.2 ⟨fun h22 => ?_, fun h22 => ?_⟩
                · skip
                  exfalso
                  have h : (L[a]'(by omega) == o.1[a]'(by omega)) = true := h22; have := hLn a haa; rw [getD_e (show a < L.length by omega), getD_e (show a < o.1.length by omega)] at this; exact this (beq_iff_eq.1 h) --done
                · skip
                  conv => whnf
                  refine ⟨[0, 1, 2, 3, 4, 5, 6, 7, 8, 9, 10, 11, 12, 13, 14, 15], [], [], [], ⟨7770675568902916283677847627294075626569627356208558085007249638955617140820833992703, [], []⟩, by decide +kernel, ?_⟩
                  conv => whnf
                  refine ⟨by omega, by omega, ?_⟩
                  conv => whnf
                  refine ⟨_, rfl, ?_⟩
                  conv => whnf
                  refine ⟨by omega, ?_⟩
                  conv => whnf
                  refine ⟨by omega, by omega, ?_⟩
                  conv => whnf
                  refine ⟨_, rfl, ?_⟩
                  conv => whnf
                  refine ⟨by omega, ?_⟩
                  conv => whnf
                  refine byC (to (c31 glT xs ds hM.toLens _) (afV hd ha hC hcc)) op31 ?_
                  conv => whnf
                  refine byC (to (c33 glT xs ds hM.toLens _ _) (erV hd ha hC hD hcc hdd)) op33 ?_
                  conv => whnf
                  refine ⟨[0, 1, 2, 3, 4, 5, 6, 7, 8, 9, 10, 11, 12, 13, 14, 15, 16, 17, 18, 19, 20, 21, 22, 23, 24, 25, 26, 27, 28, 29, 30, 31, 32, 33, 34, 35, 36, 37, 38, 39], [], [], [], ⟨7770675568902916283677847627294075626569627356208558085007249638955617140820833992703, [], []⟩, by decide +kernel, ?_⟩
                  conv => whnf
                  refine ⟨_, getI_at hC hpc, ?_⟩
                  conv => whnf
                  refine byC (to (c49 glT _ _ _) (congrArg vB haft)) op49 ?_
                  conv => whnf
                  refine ⟨_, getI_at hC hpc, ?_⟩
                  conv => whnf
                  refine ⟨_, getI_at hD hpd, ?_⟩
                  conv => whnf
                  refine ⟨_, getI_at hD hpd, ?_⟩
                  conv => whnf
                  refine ⟨_, getI_at hC hpc, ?_⟩
                  conv => whnf
                  refine byC (to (c48 glT _ _ _) (congrArg vB hear)) op48 ?_
                  conv => whnf
                  refine byC ((c26)) op26 ?_
                  -- R:FFFTFTFF
                  conv => whnf
                  first | done | rfl
            · skip
              conv => whnf
              refine byC (to (c24 glT xs ds hM.toLens) (show _ = lstV (L, 0) by rw [last_eq, hL])) op24 ?_
              conv => whnf
              refine ⟨[0, 1, 2, 3, 4, 5, 6, 7, 8, 9, 10, 11, 12, 13, 14, 15, 16, 17, 18, 19, 20, 21], [], [], [], ⟨7770675568902916283677847627294075626569627356208558085007249638955617140820833992703, [], []⟩, by decide +kernel, ?_⟩
              conv => whnf
              refine bcase_iff.2 ⟨fun g22_10 => ?_, fun g22_10 => ?_⟩
              · skip
                exfalso
                have h : ((L.length : Int) != (xs.length : Int)) = true := g22_10; rw [hLl] at h; exact bne_sf h --done
              · skip
                conv => whnf
                refine ⟨_, getI_at hA (show a < L.length by omega), ?_⟩
                conv => whnf
                refine ⟨_, getI_at hA (show a < o.1.length by omega), ?_⟩
                conv => whnf
                refine bcase_iff.2 ⟨fun h22 => ?_, fun h22 => ?_⟩
                · skip
                  exfalso
                  have h : (L[a]'(by omega) == o.1[a]'(by omega)) = true := h22; have := hLn a haa; rw [getD_e (show a < L.length by omega), getD_e (show a < o.1.length by omega)] at this; exact this (beq_iff_eq.1 h) --done
                · skip
                  conv => whnf
                  refine ⟨[0, 1, 2, 3, 4, 5, 6, 7, 8, 9, 10, 11, 12, 13, 14, 15], [], [], [], ⟨7770675568902916283677847627294075626569627356208558085007249638955617140820833992703, [], []⟩, by decide +kernel, ?_⟩
                  conv => whnf
                  refine ⟨by omega, by omega, ?_⟩
                  conv => whnf
                  refine ⟨_, rfl, ?_⟩
                  conv => whnf
                  refine ⟨by omega, ?_⟩
                  conv => whnf
                  refine ⟨by omega, by omega, ?_⟩
                  conv => whnf
                  refine ⟨_, rfl, ?_⟩
                  conv => whnf
                  refine ⟨by omega, ?_⟩
                  conv => whnf
                  refine byC (to (c31 glT xs ds hM.toLens _) (afV hd ha hC hcc)) op31 ?_
                  conv => whnf
                  refine byC (to (c33 glT xs ds hM.toLens _ _) (erV hd ha hC hD hcc hdd)) op33 ?_
                  conv => whnf
                  refine ⟨[0, 1, 2, 3, 4, 5, 6, 7, 8, 9, 10, 11, 12, 13, 14, 15, 16, 17, 18, 19, 20, 21, 22, 23, 24, 25, 26, 27, 28, 29, 30, 31, 32, 33, 34, 35, 36, 37, 38, 39], [], [], [], ⟨7770675568902916283677847627294075626569627356208558085007249638955617140820833992703, [], []⟩, by decide +kernel, ?_⟩
                  conv => whnf
                  refine ⟨_, getI_at hC hpc, ?_⟩
                  conv => whnf
                  refine byC (to (c49 glT _ _ _) (congrArg vB haft)) op49 ?_
                  conv => whnf
                  refine ⟨_, getI_at hC hpc, ?_⟩
                  conv => whnf
                  refine ⟨_, getI_at hD hpd, ?_⟩
                  conv => whnf
                  refine ⟨_, getI_at hD hpd, ?_⟩
                  conv => whnf
                  refine ⟨_, getI_at hC hpc, ?_⟩
                  conv => whnf
                  refine byC (to (c48 glT _ _ _) (congrArg vB hear)) op48 ?_
                  conv => whnf
                  refine byC ((c26)) op26 ?_
                  -- R:FFFTFFFF
                  conv => whnf
                  first | done | rfl
        · skip
          conv => whnf
          refine bcase_iff.2 ⟨fun h16 => ?_, fun h16 => ?_⟩
          · skip
            have hne := ne_of hA hB h16
            conv => whnf
            refine byC (to (c29 glT xs ds hM.toLens _ _) (bfV hd ha hA hB haa hbb hne)) op29 ?_
            conv => whnf
            refine ⟨[0, 1, 2, 4, 5, 6, 3, 7, 8, 9], [], [], [], ⟨7770675568902916283677847627294075626569627356208558085007249638955617140820833992703, [], []⟩, by decide +kernel, ?_⟩
            conv => whnf
            refine byC (to (c47 glT o.2 (by omega) _) (show _ = vI ((plc o.2 (a : Int) : Nat) : Int) by rw [hA])) op47 ?_
            conv => whnf
            refine byC (to (c47 glT o.2 (by omega) _) (show _ = vI ((plc o.2 (b : Int) : Nat) : Int) by rw [hB])) op47 ?_
            conv => whnf
            refine byC (to (c48 glT _ _ _) (congrArg vB (true_befI hd hm haa hbb hne))) op48 ?_
            conv => whnf
            refine byC (to (c24 glT xs ds hM.toLens) (show _ = lstV (L, 0) by rw [last_eq, hL])) op24 ?_
            conv => whnf
            refine ⟨[0, 1, 2, 3, 4, 5, 6, 7, 8, 9, 10, 11, 12, 13, 14, 15, 16, 17, 18, 19, 20, 21], [], [], [], ⟨7770675568902916283677847627294075626569627356208558085007249638955617140820833992703, [], []⟩, by decide +kernel, ?_⟩
            conv => whnf
            refine bcase_iff.2 ⟨fun g22_10 => ?_, fun g22_10 => ?_⟩
            · skip
              exfalso
              have h : ((L.length : Int) != (xs.length : Int)) = true := g22_10; rw [hLl] at h; exact bne_sf h --done
            · skip
              conv => whnf
              refine ⟨_, getI_at hA (show a < L.length by omega), ?_⟩
              conv => whnf
              refine ⟨_, getI_at hA (show a < o.1.length by omega), ?_⟩
              conv => whnf
              refine bcase_iff.2 ⟨fun h22 => ?_, fun h22 => ?_⟩
              · skip
                exfalso
                have h : (L[a]'(by omega) == o.1[a]'(by omega)) = true := h22; have := hLn a haa; rw [getD_e (show a < L.length by omega), getD_e (show a < o.1.length by omega)] at this; exact this (beq_iff_eq.1 h) --done
              · skip
                conv => whnf
                refine ⟨[0, 1, 2, 3, 4, 5, 6, 7, 8, 9, 10, 11, 12, 13, 14, 15], [], [], [], ⟨7770675568902916283677847627294075626569627356208558085007249638955617140820833992703, [], []⟩, by decide +kernel, ?_⟩
                conv => whnf
                refine ⟨by omega, by omega, ?_⟩
                conv => whnf
                refine ⟨_, rfl, ?_⟩
                conv => whnf
                refine ⟨by omega, ?_⟩
                conv => whnf
                refine ⟨by omega, by omega, ?_⟩
                conv => whnf
                refine ⟨_, rfl, ?_⟩
                conv => whnf
                refine ⟨by omega, ?_⟩
                conv => whnf
                refine byC (to (c31 glT xs ds hM.toLens _) (afV hd ha hC hcc)) op31 ?_
                conv => whnf
                refine byC (to (c33 glT xs ds hM.toLens _ _) (erV hd ha hC hD hcc hdd)) op33 ?_
                conv => whnf
                refine ⟨[0, 1, 2, 3, 4, 5, 6, 7, 8, 9, 10, 11, 12, 13, 14, 15, 16, 17, 18, 19, 20, 21, 22, 23, 24, 25, 26, 27, 28, 29, 30, 31, 32, 33, 34, 35, 36, 37, 38, 39], [], [], [], ⟨7770675568902916283677847627294075626569627356208558085007249638955617140820833992703, [], []⟩, by decide +kernel, ?_⟩
                conv => whnf
                refine ⟨_, getI_at hC hpc, ?_⟩
                conv => whnf
                refine byC (to (c49 glT _ _ _) (congrArg vB haft)) op49 ?_
                conv => whnf
                refine ⟨_, getI_at hC hpc, ?_⟩
                conv => whnf
                refine ⟨_, getI_at hD hpd, ?_⟩
                conv => whnf
                refine ⟨_, getI_at hD hpd, ?_⟩
                conv => whnf
                refine ⟨_, getI_at hC hpc, ?_⟩
                conv => whnf
                refine byC (to (c48 glT _ _ _) (congrArg vB hear)) op48 ?_
                conv => whnf
                refine byC ((c26)) op26 ?_
                -- R:FFFFTFF
                conv => whnf
                first | done | rfl
          · skip
            conv => whnf
            refine byC (to (c24 glT xs ds hM.toLens) (show _ = lstV (L, 0) by rw [last_eq, hL])) op24 ?_
            conv => whnf
            refine ⟨[0, 1, 2, 3, 4, 5, 6, 7, 8, 9, 10, 11, 12, 13, 14, 15, 16, 17, 18, 19, 20, 21], [], [], [], ⟨7770675568902916283677847627294075626569627356208558085007249638955617140820833992703, [], []⟩, by decide +kernel, ?_⟩
            conv => whnf
            refine bcase_iff.2 ⟨fun g22_10 => ?_, fun g22_10 => ?_⟩
            · skip
              exfalso
              have h : ((L.length : Int) != (xs.length : Int)) = true := g22_10; rw [hLl] at h; exact bne_sf h --done
            · skip
              conv => whnf
              refine ⟨_, getI_at hA (show a < L.length by omega), ?_⟩
              conv => whnf
              refine ⟨_, getI_at hA (show a < o.1.length by omega), ?_⟩
              conv => whnf
              refine bcase_iff.2 ⟨fun h22 => ?_, fun h22 => ?_⟩
              · skip
                exfalso
                have h : (L[a]'(by omega) == o.1[a]'(by omega)) = true := h22; have := hLn a haa; rw [getD_e (show a < L.length by omega), getD_e (show a < o.1.length by omega)] at this; exact this (beq_iff_eq.1 h) --done
              · skip
                conv => whnf
                refine ⟨[0, 1, 2, 3, 4, 5, 6, 7, 8, 9, 10, 11, 12, 13, 14, 15], [], [], [], ⟨7770675568902916283677847627294075626569627356208558085007249638955617140820833992703, [], []⟩, by decide +kernel, ?_⟩
                conv => whnf
                refine ⟨by omega, by omega, ?_⟩
                conv => whnf
                refine ⟨_, rfl, ?_⟩
                conv => whnf
                refine ⟨by omega, ?_⟩
                conv => whnf
                refine ⟨by omega, by omega, ?_⟩
                conv => whnf
                refine ⟨_, rfl, ?_⟩
                conv => whnf
                refine ⟨by omega, ?_⟩
                conv => whnf
                refine byC (to (c31 glT xs ds hM.toLens _) (afV hd ha hC hcc)) op31 ?_
                conv => whnf
                refine byC (to (c33 glT xs ds hM.toLens _ _) (erV hd ha hC hD hcc hdd)) op33 ?_
                conv => whnf
                refine ⟨[0, 1, 2, 3, 4, 5, 6, 7, 8, 9, 10, 11, 12, 13, 14, 15, 16, 17, 18, 19, 20, 21, 22, 23, 24, 25, 26, 27, 28, 29, 30, 31, 32, 33, 34, 35, 36, 37, 38, 39], [], [], [], ⟨7770675568902916283677847627294075626569627356208558085007249638955617140820833992703, [], []⟩, by decide +kernel, ?_⟩
                conv => whnf
                refine ⟨_, getI_at hC hpc, ?_⟩
                conv => whnf
                refine byC (to (c49 glT _ _ _) (congrArg vB haft)) op49 ?_
                conv => whnf
                refine ⟨_, getI_at hC hpc, ?_⟩
                conv => whnf
                refine ⟨_, getI_at hD hpd, ?_⟩
                conv => whnf
                refine ⟨_, getI_at hD hpd, ?_⟩
                conv => whnf
                refine ⟨_, getI_at hC hpc, ?_⟩
                conv => whnf
                refine byC (to (c48 glT _ _ _) (congrArg vB hear)) op48 ?_
                conv => whnf
                refine byC ((c26)) op26 ?_
                -- R:FFFFFFF
                conv => whnf
                first | done | rfl

end Go.Ab.StF
