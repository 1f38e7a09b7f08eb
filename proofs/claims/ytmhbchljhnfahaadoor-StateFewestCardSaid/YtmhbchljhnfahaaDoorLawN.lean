/-
  THE STATE FAMILY, PART OJ: StateFewest.
-/
import Derived.Test.YtmhbchljhnfahaaDoorLawG
import Derived.Test.YtmhbchljhnfahaaDoorLawD
import Derived.Test.YtmhbchljhnfahaaDoorPlainD
namespace Go.Ab.StF
open Go Go.Ab Go.Proofs
set_option maxHeartbeats 1000000
set_option maxRecDepth 100000

/-- What Wrong and Mistaken tell of a valid forme. -/
structure FewR (xs : List (ByteArray × Int)) (cs : List (ByteArray × List Int)) (l : List Nat) (R : List (Int × Int)) : Prop where
  w : wrongS xs cs = (natsV l, 0)
  m : mistS xs cs = (R, 0)
  asc : Asc 0 cs.length l
  le : l.length ≤ R.length
  l40 : R.length ≤ 45
  at_ : ∀ i (h : i < R.length), ∃ a b : Nat, R[i].1 = a ∧ R[i].2 = b ∧ a < cs.length ∧ b < xs.length
  lt : ∀ i (h : i + 1 < R.length), befL [R[i].1, R[i].2] [R[i + 1].1, R[i + 1].2] = true
  rest : agrsB xs cs ((List.range cs.length).filter fun i => !l.contains i) = true
  kept : ∀ p : Nat → Bool, ((List.range cs.length).filter p).length < l.length → agrsB xs cs ((List.range cs.length).filter fun i => !p i) = false
  ok : agrL xs (blankL cs R) ≠ []
  no : ∀ L : List (Int × Int), L.length < R.length → agrL xs (blankL cs L) = []
theorem few_ok {xs : List (ByteArray × Int)} {cs : List (ByteArray × List Int)} (hc : (chk xs cs).2.2 = 0) : ∃ l R, FewR xs cs l R := by
  obtain ⟨o, ho, hw, hmin⟩ := wrong_cases hc
  obtain ⟨p, hp, hm, hmis⟩ := mist_cases hc
  have hv := chk_valid hc
  have h5 := hv.l5
  have hc8 := hv.c8
  have h1 := hv.l1
  have hpl := (ord_okO h5 hp).l
  obtain ⟨hb, hbv⟩ := offU_vals (cs := cs) hpl h5 cs.length
  rw [← offS_U] at hb hbv
  have hin : ∀ i (h : i < (offS xs.length cs p).length), 0 ≤ (offS xs.length cs p)[i] := fun i h => (hbv _ (List.getElem_mem h)).1
  refine ⟨amidL cs o, (offS xs.length cs p).map (rdI xs.length), hw, hm, amid_asc cs o, ?_, ?_, ?_, ?_, rest_agrs ho, fun q hq => kept_agrs hmin q hq, List.ne_nil_of_mem (blank_agr hc hp), fun L hL => ?_⟩
  · rw [List.length_map]; exact Nat.le_trans (hmin p hp) (amid_off hc hp)
  · rw [List.length_map]; omega
  · intro i h
    have h' : i < (offS xs.length cs p).length := by simpa using h
    obtain ⟨a, b, ha, hb, e, _⟩ := offS_mem hpl (List.getElem_mem h')
    refine ⟨a, b, ?_, ?_, ha, hb⟩ <;> rw [List.getElem_map, e]
  · intro i h
    have h' : i + 1 < (offS xs.length cs p).length := by simpa using h
    have ho2 := List.pairwise_iff_getElem.1 (offS_asc cs hpl) i (i + 1) (by omega) h' (by omega)
    have := rdI_lt (n := xs.length) (by omega) (hin i (by omega)) ho2
    simp only [List.getElem_map]
    generalize rdI xs.length (offS xs.length cs p)[i] = u at this ⊢
    generalize rdI xs.length (offS xs.length cs p)[i + 1] = v at this ⊢
    rcases this with h | ⟨h, h'⟩
    · simp [befL, show ¬ u.1 = v.1 by omega, h]
    · simp [befL, h, show ¬ u.2 = v.2 by omega, h']
  · rw [List.length_map] at hL; exact blank_few hc hmis hL
theorem wrong_bad {xs : List (ByteArray × Int)} {cs : List (ByteArray × List Int)} (hc : (chk xs cs).2.2 ≠ 0) : wrongS xs cs = ([], (chk xs cs).2.2) := by unfold wrongS; rw [if_pos hc]
theorem mist_bad {xs : List (ByteArray × Int)} {cs : List (ByteArray × List Int)} (hc : (chk xs cs).2.2 ≠ 0) : mistS xs cs = ([], (chk xs cs).2.2) := by unfold mistS; rw [if_pos hc]
theorem few3 (xs : List (ByteArray × Int)) (cs : List (ByteArray × List Int)) : (chk xs cs).2.2 ≠ 0 ∨ ((chk xs cs).2.2 = 0 ∧ ∃ l R, FewR xs cs l R) := by
  by_cases hc : (chk xs cs).2.2 = 0
  · exact .inr ⟨hc, few_ok hc⟩
  · exact .inl hc
theorem has_mem' (l : List Nat) (i : Nat) : ((natsV l).any fun x => x == (i : Int)) = l.contains i := by
  rw [Bool.eq_iff_iff, List.any_eq_true, List.contains_iff_mem]
  constructor
  · rintro ⟨x, hx, h⟩
    obtain ⟨j, hj, rfl⟩ := List.mem_map.1 hx
    have : j = i := by have := beq_iff_eq.1 h; omega
    rw [← this]; exact hj
  · intro h; exact ⟨_, List.mem_map_of_mem h, by simp⟩
theorem filt_T {p : Nat → Bool} {i : Nat} (h : p i = true) : natsV ((List.range (i + 1)).filter p) = natsV ((List.range i).filter p) ++ [(i : Int)] := by
  rw [List.range_succ, List.filter_append, List.filter_cons_of_pos h]; simp [natsV]
theorem filt_F {p : Nat → Bool} {i : Nat} (h : p i = false) : natsV ((List.range (i + 1)).filter p) = natsV ((List.range i).filter p) := by
  rw [List.range_succ, List.filter_append, List.filter_cons_of_neg (by rw [h]; simp)]; simp [natsV]
theorem filt_len (p : Nat → Bool) (i : Nat) : (natsV ((List.range i).filter p)).length ≤ i := by
  rw [natsV_len]; exact Nat.le_trans (List.length_filter_le _ _) (by simp)
theorem some_not (bits : Int) (n : Nat) : (List.range n).filter (someP bits 0) = (List.range n).filter fun i => !someP bits 1 i := by
  apply List.filter_congr
  intro i _
  unfold someP
  have : bits.toNat / 2 ^ i % 2 = 0 ∨ bits.toNat / 2 ^ i % 2 = 1 := by omega
  rcases this with h | h <;> rw [h] <;> rfl
theorem bne_sg {a : Int} (h : (a == a) = false) : False := by simp at h

theorem c11 (xs : List (ByteArray × Int)) (cs : List (ByteArray × List Int)) (hN : LensN xs cs) (bits : Int) (hbt : 0 ≤ bits ∧ bits ≤ 255) (bs : List Int) (hl : bs.length ≤ 9223372036854775807) (hb : ∀ v ∈ bs, 0 ≤ v ∧ v ≤ 255) : PCalls PR glT 11 [.agg [lociV xs, copsV cs], .int .u8 bits, .sl (S := S) U.u8 bs none] fun r => r = vB true := by
  refine fnW_sound (par_ok glT) Tryd.func11 ?_
  conv => whnf
  rcases few3 xs cs with hc | ⟨hc, l, R, hf⟩
  · skip
    refine byC (to (c37 xs cs hN.toLens) (show _ = lstV ([], (chk xs cs).2.2) by rw [wrong_eq, wrong_bad hc])) op37 ?_
    conv => whnf
    first | refine byC (to (c39 xs cs hN.toLens) (show _ = .tup [rdgsV [], vI (chk xs cs).2.2] by rw [mist_eq, mist_bad hc])) op39 ?_ | refine byC (to (c39 xs cs hN.toLens) (show _ = .tup [rdgsV R, vI 0] by rw [mist_eq, hf.m])) op39 ?_
    conv => whnf
    refine byC (c44 glT xs cs hN) op44 ?_
    conv => whnf
    refine bcase_iff.2 ⟨fun h3 => ?_, fun h3 => ?_⟩
    · skip
      conv => whnf
      refine bcase_iff.2 ⟨fun g4_2 => ?_, fun g4_2 => ?_⟩
      · skip
        conv => whnf
        refine bcase_iff.2 ⟨fun g4_7 => ?_, fun g4_7 => ?_⟩
        · skip
          conv => whnf
          refine byC ((c26)) op26 ?_
          -- R:aTTT
          conv => whnf
          first | done | rfl
        · skip
          exfalso
          exact bne_sg g4_7 --done
      · skip
        exfalso
        have h : ((chk xs cs).2.2 != 0) = false := g4_2; exact hc (by simpa using h) --done
    · skip
      exfalso
      exact hc (is_chk h3) --done
  · skip
    have hv := chk_valid hc
    have h1x := hv.l1
    have hx5 := hv.l5
    have hc1 := hv.c1
    have hc8 := hv.c8
    have hnl := natsV_len l
    have hl8 := asc_len8 hf.asc
    have hR := hf.l40
    have hRv : ∀ p ∈ R, 0 ≤ p.2 ∧ p.2 < xs.length := fun p hp => by obtain ⟨i, hi, rfl⟩ := List.mem_iff_getElem.1 hp; obtain ⟨a, b, _, hb, _, hbx⟩ := hf.at_ i hi; rw [hb]; omega
    refine byC (to (c37 xs cs hN.toLens) (show _ = lstV (natsV l, 0) by rw [wrong_eq, hf.w])) op37 ?_
    conv => whnf
    first | refine byC (to (c39 xs cs hN.toLens) (show _ = .tup [rdgsV [], vI (chk xs cs).2.2] by rw [mist_eq, mist_bad hc])) op39 ?_ | refine byC (to (c39 xs cs hN.toLens) (show _ = .tup [rdgsV R, vI 0] by rw [mist_eq, hf.m])) op39 ?_
    conv => whnf
    refine byC (c44 glT xs cs hN) op44 ?_
    conv => whnf
    refine bcase_iff.2 ⟨fun h3 => ?_, fun h3 => ?_⟩
    · skip
      exfalso
      exact not_chk h3 hc --done
    · skip
      conv => whnf
      refine byC (to (c56 glT (natsV l) (by omega) cs.length) (congrArg _ (ascB_asc hf.asc))) op56 ?_
      conv => whnf
      refine bcase_iff.2 ⟨fun h5 => ?_, fun h5 => ?_⟩
      · skip
        exfalso
        have h : decide ((R.length : Int) < ((natsV l).length : Int)) = true := h5; have h := of_decide_eq_true h; have := hf.le; omega --done
      · skip
        conv => whnf
        refine loop_q fun Q1 hQ1 => ?_
        refine ⟨⟨6798, [], [11]⟩, ?_⟩
        refine LoopW_ind _ (fun i : Nat => (({ tmps := [.undef, .int .u8 bits, .sl (S := S) U.u8 bs none, .own 3 [], .undef, .undef, .undef, vL (natsV l), .undef, rdgsV R, .undef, .sl (S := S) U.int (natsV ((List.range i).filter fun j => !l.contains j)) (some 11), vI i, .undef, .undef, .undef, .undef, .undef, .undef, .undef, .undef, .undef, .undef, .undef, .undef, .undef, .undef, .undef, .undef, .undef, .undef, .undef, .undef, .undef, .undef, .undef, .undef, .undef, .undef, .undef, .undef, .undef, .undef, .undef, .undef, .undef, .undef, .undef, .undef, .undef, .undef, .undef, .undef, .undef, .undef, .undef, .undef, .undef, .undef, .undef, .undef, .undef, .undef, .undef, .undef, .undef, .undef, .undef, .undef, .undef, .undef, .undef, .undef, .undef, .undef, .undef, .undef, .undef, .undef, .undef, .undef, .undef, .undef, .undef, .undef, .undef, .undef, .undef, .undef, .undef, .undef, .undef, .undef, .undef, .undef, .undef, .undef, .undef, .undef, .undef, .undef, .undef, .undef, .undef, .undef, .undef, .undef, .undef, .undef, .undef, .undef, .undef, .undef, .undef, .undef, .undef, .undef, .undef, .undef, .undef, .undef, .undef, .undef, .undef, .undef, .undef, .undef, .undef, .undef, .undef, .undef, .undef, .undef, .undef, .undef, .undef, .undef, .undef, .undef, .undef, .undef, .undef, .undef, .undef, .undef, .undef, .undef, .undef, .undef, .undef, .undef, .undef, .undef, .undef, .undef, .undef, .undef, .undef, .undef, .undef, .undef, .undef, .undef, .undef, .undef, .undef, .undef, .undef, .undef, .undef, .undef, .undef, .undef, .undef, .undef, .undef, .undef, .undef, .undef, .undef, .undef, .undef, .undef, .undef, .undef, .undef, .undef, .undef, .undef, .undef, .undef, .undef, .undef, .undef, .undef, .undef, .undef, .undef, .undef, .undef, .undef, .undef, .undef, .undef, .undef, .undef, .undef, .undef, .undef, .undef, .undef, .undef, .undef, .undef, .undef, .undef, .undef, .undef, .undef, .undef, .undef, .undef, .undef, .undef, .undef, .undef, .undef, .undef, .undef, .undef, .undef, .undef, .undef, .undef, .undef, .undef, .undef, .undef, .undef, .undef, .undef, .undef, .undef, .undef, .undef, .undef, .undef, .undef, .undef, .undef, .undef, .undef, .undef, .undef, .undef, .undef], seg := [(3, .cells [lociV xs, copsV cs]), (11, .row U.int false)], up := [] } : St S))) (fun i : Nat => (i ≤ cs.length)) (fun i : Nat => (cs.length - i)) () ?_ 0 (Nat.zero_le _)
        intro i hi Z1 hZ1
        conv => whnf
        refine bcase_iff.2 ⟨fun h9 => ?_, fun h9 => ?_⟩
        · skip
          have hlt : i < cs.length := by have := of_decide_eq_true h9; omega
          have hw : IntKind.i64.wrap ((i : Int) + 1) = ((i + 1 : Nat) : Int) := wrap_nat (by omega)
          conv => whnf
          refine byC (to (c52 glT (natsV l) (by omega) i) (congrArg _ (has_mem' l i))) op52 ?_
          conv => whnf
          refine bcase_iff.2 ⟨fun h11 => ?_, fun h11 => ?_⟩
          · skip
            conv => whnf
            refine ⟨_, rfl, ?_⟩
            conv => whnf
            refine ⟨lim (by have := filt_len (fun j => !l.contains j) i; show (natsV ((List.range i).filter fun j => !l.contains j)).length + 1 ≤ _; omega), ?_⟩
            -- Z9:TT
            conv => whnf
            refine ⟨⟨6798, [89, 90], []⟩, ?_⟩
            conv => whnf
            have := hZ1 (i + 1) hlt (by omega)
            rw [filt_T (p := fun j => !l.contains j) h11] at this
            rw [hw]
            exact this
          · skip
            -- Z9:TF
            conv => whnf
            refine ⟨⟨6798, [89, 90], []⟩, ?_⟩
            conv => whnf
            have := hZ1 (i + 1) hlt (by omega)
            rw [filt_F (p := fun j => !l.contains j) h11] at this
            rw [hw]
            exact this
        · skip
          have hge : i = cs.length := by have := of_decide_eq_false h9; omega
          have hrl := filt_len (fun j => !l.contains j) i
          have hol := filt_len (someP bits 1) cs.length
          conv => whnf
          refine (hQ1 _ _ _).mpr ?_
          conv => whnf
          refine ⟨[0, 1, 2, 3, 5, 6, 7, 8, 4, 9, 10, 11], [], [], [], ⟨115792089237316195423570985008687907853269984665640564039457584007913129639935, [], []⟩, by decide +kernel, ?_⟩
          conv => whnf
          refine byC (c55 glT bits hbt cs.length 1 (by omega)) op55 ?_
          conv => whnf
          refine byC (to (c55 glT bits hbt cs.length 0 (by omega)) (by rw [some_not])) op55 ?_
          conv => whnf
          refine byC (to (c57 glT xs cs hN hc _ ((List.range i).filter fun j => !l.contains j) rfl (by rw [hge]; exact filter_asc _)) (show _ = vB true by rw [hge, hf.rest])) op57 ?_
          conv => whnf
          refine bcase_iff.2 ⟨fun g14_10 => ?_, fun g14_10 => ?_⟩
          · skip
            have hlt0 : ((List.range cs.length).filter (someP bits 1)).length < l.length := by have h : decide (((natsV ((List.range cs.length).filter (someP bits 1))).length : Int) < ((natsV l).length : Int)) = true := g14_10; have h := of_decide_eq_true h; rw [natsV_len, natsV_len] at h; omega
            conv => whnf
            refine byC (to (c57 glT xs cs hN hc _ ((List.range cs.length).filter fun i => !someP bits 1 i) rfl (filter_asc _)) (congrArg _ (hf.kept _ hlt0))) op57 ?_
            conv => whnf
            refine loop_q fun Q2 hQ2 => ?_
            refine ⟨⟨33292, [11], [11]⟩, ?_⟩
            refine LoopW_ind _ (fun k : Nat => (({ tmps := [.undef, .undef, .sl (S := S) U.u8 bs none, .own 3 [], .undef, .undef, .undef, .undef, .undef, rdgsV R, .undef, .undef, .undef, .undef, .undef, vI k, .undef, .undef, .undef, .undef, .undef, .undef, .undef, .undef, .undef, .undef, .undef, .undef, .undef, .undef, .undef, .undef, .undef, .undef, .undef, .undef, .undef, .undef, .undef, .undef, .undef, .undef, .undef, .undef, .undef, .undef, .undef, .undef, .undef, .undef, .undef, .undef, .undef, .undef, .undef, .undef, .undef, .undef, .undef, .undef, .undef, .undef, .undef, .undef, .undef, .undef, .undef, .undef, .undef, .undef, .undef, .undef, .undef, .undef, .undef, .undef, .undef, .undef, .undef, .undef, .undef, .undef, .undef, .undef, .undef, .undef, .undef, .undef, .undef, .undef, .undef, .undef, .undef, .undef, .undef, .undef, .undef, .undef, .undef, .undef, .undef, .undef, .undef, .undef, .undef, .undef, .undef, .undef, .undef, .undef, .undef, .undef, .undef, .undef, .undef, .undef, .undef, .undef, .undef, .undef, .undef, .undef, .undef, .undef, .undef, .undef, .undef, .undef, .undef, .undef, .undef, .undef, .undef, .undef, .undef, .undef, .undef, .undef, .undef, .undef, .undef, .undef, .undef, .undef, .undef, .undef, .undef, .undef, .undef, .undef, .undef, .undef, .undef, .undef, .undef, .undef, .undef, .undef, .undef, .undef, .undef, .undef, .undef, .undef, .undef, .undef, .undef, .undef, .undef, .undef, .undef, .undef, .undef, .undef, .undef, .undef, .undef, .undef, .undef, .undef, .undef, .undef, .undef, .undef, .undef, .undef, .undef, .undef, .undef, .undef, .undef, .undef, .undef, .undef, .undef, .undef, .undef, .undef, .undef, .undef, .undef, .undef, .undef, .undef, .undef, .undef, .undef, .undef, .undef, .undef, .undef, .undef, .undef, .undef, .undef, .undef, .undef, .undef, .undef, .undef, .undef, .undef, .undef, .undef, .undef, .undef, .undef, .undef, .undef, .undef, .undef, .undef, .undef, .undef, .undef, .undef, .undef, .undef, .undef, .undef, .undef, .undef, .undef, .undef, .undef, .undef, .undef, .undef, .undef, .undef, .undef, .undef, .undef, .undef, .undef, .undef], seg := [(3, .cells [lociV xs, copsV cs])], up := [] } : St S))) (fun k : Nat => (k ≤ R.length)) (fun k : Nat => (R.length - k)) () ?_ 0 (Nat.zero_le _)
            intro k hk Z2 hZ2
            conv => whnf
            refine bcase_iff.2 ⟨fun h17 => ?_, fun h17 => ?_⟩
            · skip
              have hltk : k < R.length := by have := of_decide_eq_true h17; omega
              have hwk : IntKind.i64.wrap ((k : Int) + 1) = ((k + 1 : Nat) : Int) := wrap_nat (by omega)
              obtain ⟨u, v, hu, hvv, huc, hvx⟩ := hf.at_ k hltk
              conv => whnf
              refine ⟨[0, 1, 2, 3, 4, 5, 6, 7, 8, 9, 10, 11, 12, 13, 14, 15, 16, 17, 18, 19, 20, 21, 22, 23, 24, 25, 26, 27, 28, 29, 30, 31, 32, 33, 34, 35], [], [], [], ⟨115792089237316195423570985008687907853269984665640564039457584007913129639935, [], []⟩, by decide +kernel, ?_⟩
              conv => whnf
              refine ⟨_, getI_nat hltk, ?_⟩
              conv => whnf
              refine bcase_iff.2 ⟨fun g19_6 => ?_, fun g19_6 => ?_⟩
              · skip
                exfalso
                have h := of_decide_eq_true g19_6; omega --done
              · skip
                conv => whnf
                refine ⟨_, getI_nat hltk, ?_⟩
                conv => whnf
                refine bcase_iff.2 ⟨fun g19_17 => ?_, fun g19_17 => ?_⟩
                · skip
                  exfalso
                  have h := of_decide_eq_true g19_17; omega --done
                · skip
                  conv => whnf
                  refine ⟨_, getI_nat hltk, ?_⟩
                  conv => whnf
                  refine bcase_iff.2 ⟨fun g19_25 => ?_, fun g19_25 => ?_⟩
                  · skip
                    exfalso
                    have h := of_decide_eq_true g19_25; omega --done
                  · skip
                    conv => whnf
                    refine ⟨_, getI_nat hltk, ?_⟩
                    conv => whnf
                    refine bcase_iff.2 ⟨fun h19 => ?_, fun h19 => ?_⟩
                    · skip
                      exfalso
                      have h := of_decide_eq_true h19; omega --done
                    · skip
                      conv => whnf
                      refine ⟨[0, 1, 2, 3, 4, 5, 6, 7, 8, 9, 10, 11, 12, 13, 14, 16, 17, 18, 19, 20, 21, 22, 23, 24, 25, 15, 26, 27, 28, 29], [15, 26], [], [], ⟨115792089237316195423570985008687907853269984665640564039457584007913129639935, [], []⟩, by decide +kernel, ?_⟩
                      conv => whnf
                      refine bcase_iff.2 ⟨fun g21_2 => ?_, fun g21_2 => ?_⟩
                      · skip
                        have hk0 : 0 < k := by have := of_decide_eq_true g21_2; omega
                        have hwp : IntKind.i64.wrap ((k : Int) - 1) = ((k - 1 : Nat) : Int) := by rw [wrap_int (by omega) (by omega)]; omega
                        have hbf : befL [R[k - 1].1, R[k - 1].2] [R[k].1, R[k].2] = true := by have := hf.lt (k - 1) (by omega); simpa [show k - 1 + 1 = k by omega] using this
                        conv => whnf
                        refine ⟨_, getI_at hwp (show k - 1 < R.length by omega), ?_⟩
                        conv => whnf
                        refine ⟨_, getI_at hwp (show k - 1 < R.length by omega), ?_⟩
                        conv => whnf
                        refine ⟨_, getI_nat hltk, ?_⟩
                        conv => whnf
                        refine ⟨_, getI_nat hltk, ?_⟩
                        conv => whnf
                        refine ⟨_, rfl, ?_⟩
                        conv => whnf
                        refine ⟨_, rfl, ?_⟩
                        conv => whnf
                        refine ⟨_, rfl, ?_⟩
                        conv => whnf
                        refine ⟨_, rfl, ?_⟩
                        conv => whnf
                        refine byC (to (c58 glT _ _ (by simp) (by simp)) (congrArg _ hbf)) op58 ?_
                        -- Z17:TFFFFT
                        conv => whnf
                        refine ⟨⟨33292, [174, 185], []⟩, ?_⟩
                        conv => whnf
                        rw [hwk]
                        exact hZ2 (k + 1) hltk (by omega)
                      · skip
                        -- Z17:TFFFFF
                        conv => whnf
                        refine ⟨⟨33292, [174, 185], []⟩, ?_⟩
                        conv => whnf
                        rw [hwk]
                        exact hZ2 (k + 1) hltk (by omega)
            · skip
              have hgk : k = R.length := by have := of_decide_eq_false h17; omega
              conv => whnf
              refine (hQ2 _ _ _).mpr ?_
              conv => whnf
              refine loop_q fun Q3 hQ3 => ?_
              refine ⟨⟨197132, [], [16]⟩, ?_⟩
              refine LoopW_ind _ (fun s : Nat × List (Int × Int) => match s with | (k2, L) => (({ tmps := [.undef, .undef, .sl (S := S) U.u8 bs none, .own 3 [], .undef, .undef, .undef, .undef, .undef, rdgsV R, .undef, .undef, .undef, .undef, .undef, .undef, .sl (S := S) U.reading L (some 16), vI k2, .undef, .undef, .undef, .undef, .undef, .undef, .undef, .undef, .undef, .undef, .undef, .undef, .undef, .undef, .undef, .undef, .undef, .undef, .undef, .undef, .undef, .undef, .undef, .undef, .undef, .undef, .undef, .undef, .undef, .undef, .undef, .undef, .undef, .undef, .undef, .undef, .undef, .undef, .undef, .undef, .undef, .undef, .undef, .undef, .undef, .undef, .undef, .undef, .undef, .undef, .undef, .undef, .undef, .undef, .undef, .undef, .undef, .undef, .undef, .undef, .undef, .undef, .undef, .undef, .undef, .undef, .undef, .undef, .undef, .undef, .undef, .undef, .undef, .undef, .undef, .undef, .undef, .undef, .undef, .undef, .undef, .undef, .undef, .undef, .undef, .undef, .undef, .undef, .undef, .undef, .undef, .undef, .undef, .undef, .undef, .undef, .undef, .undef, .undef, .undef, .undef, .undef, .undef, .undef, .undef, .undef, .undef, .undef, .undef, .undef, .undef, .undef, .undef, .undef, .undef, .undef, .undef, .undef, .undef, .undef, .undef, .undef, .undef, .undef, .undef, .undef, .undef, .undef, .undef, .undef, .undef, .undef, .undef, .undef, .undef, .undef, .undef, .undef, .undef, .undef, .undef, .undef, .undef, .undef, .undef, .undef, .undef, .undef, .undef, .undef, .undef, .undef, .undef, .undef, .undef, .undef, .undef, .undef, .undef, .undef, .undef, .undef, .undef, .undef, .undef, .undef, .undef, .undef, .undef, .undef, .undef, .undef, .undef, .undef, .undef, .undef, .undef, .undef, .undef, .undef, .undef, .undef, .undef, .undef, .undef, .undef, .undef, .undef, .undef, .undef, .undef, .undef, .undef, .undef, .undef, .undef, .undef, .undef, .undef, .undef, .undef, .undef, .undef, .undef, .undef, .undef, .undef, .undef, .undef, .undef, .undef, .undef, .undef, .undef, .undef, .undef, .undef, .undef, .undef, .undef, .undef, .undef, .undef, .undef, .undef, .undef, .undef, .undef, .undef, .undef, .undef, .undef, .undef, .undef, .undef, .undef, .undef, .undef], seg := [(3, .cells [lociV xs, copsV cs]), (16, .row U.reading false)], up := [] } : St S))) (fun s : Nat × List (Int × Int) => match s with | (k2, L) => (k2 ≤ bs.length ∧ L.length ≤ R.length - 1 ∧ ∀ p ∈ L, 0 ≤ p.2 ∧ p.2 < xs.length)) (fun s : Nat × List (Int × Int) => match s with | (k2, L) => (bs.length - k2)) () ?_ (0, []) ⟨Nat.zero_le _, Nat.zero_le _, fun p h => by cases h⟩
              rintro ⟨k2, L⟩ hinv Z3 hZ3
              dsimp only at hinv hZ3
              obtain ⟨hk2, hLl, hLv⟩ := hinv
              conv => whnf
              refine bcase_iff.2 ⟨fun g25_4 => ?_, fun g25_4 => ?_⟩
              · skip
                have hlt2 : k2 < bs.length := by have := of_decide_eq_true g25_4; omega
                have hw2 : IntKind.i64.wrap ((k2 : Int) + 1) = ((k2 + 1 : Nat) : Int) := wrap_nat (by omega)
                have hwL : IntKind.i64.wrap ((L.length : Int) + 1) = ((L.length + 1 : Nat) : Int) := wrap_nat (by omega)
                have hbk := hb _ (List.getElem_mem hlt2)
                conv => whnf
                refine bcase_iff.2 ⟨fun h25 => ?_, fun h25 => ?_⟩
                · skip
                  have hlL : L.length + 1 < R.length := by have h25 : decide (IntKind.i64.wrap ((L.length : Int) + 1) < (R.length : Int)) = true := h25; rw [hwL] at h25; have := of_decide_eq_true h25; omega
                  conv => whnf
                  refine ⟨[0, 1, 2, 3, 4, 5, 6, 7, 8, 9, 10, 11, 12, 13, 14, 15, 16, 17, 18, 19, 20, 21, 22, 23], [21], [], [], ⟨115792089237316195423570985008687907853269984665640564039457584007913129639935, [], []⟩, by decide +kernel, ?_⟩
                  conv => whnf
                  refine ⟨_, getI_nat hlt2, ?_⟩
                  conv => whnf
                  refine ⟨by decide, ?_⟩
                  conv => whnf
                  refine ⟨by omega, ?_⟩
                  conv => whnf
                  refine ⟨_, getI_nat hlt2, ?_⟩
                  conv => whnf
                  refine ⟨by omega, ?_⟩
                  conv => whnf
                  refine ⟨_, rfl, ?_⟩
                  conv => whnf
                  refine ⟨lim (by show L.length + 1 ≤ _; omega), ?_⟩
                  -- Z25:TT
                  conv => whnf
                  refine ⟨⟨197132, [224, 225], []⟩, ?_⟩
                  conv => whnf
                  rw [hw2]
                  exact hZ3 (k2 + 1, L ++ [(_, _)]) ⟨hlt2, by rw [List.length_append, List.length_singleton]; omega, fun p hp => by rcases List.mem_append.1 hp with h | h; exact hLv p h; rw [List.mem_singleton.1 h]; obtain ⟨q, hq, hqx⟩ := idx_of hbk h1x; show 0 ≤ (IntKind.i64.wrap bs[k2]).tmod (xs.length : Int) ∧ (IntKind.i64.wrap bs[k2]).tmod (xs.length : Int) < _; rw [hq]; omega⟩ (by dsimp only; omega)
                · skip
                  conv => whnf
                  refine (hQ3 _ _ _).mpr ?_
                  conv => whnf
                  refine byC (c59 glT xs cs xs.length hx5 hc8 (fun c hc => hv.len c hc) R (by omega) hRv) op59 ?_
                  conv => whnf
                  refine byC (to (c21 glT xs (blankL cs R) (blank_lens hN R).toLens) (firstVy (blank_chk hc R) hf.ok)) op21 ?_
                  conv => whnf
                  refine byC (c59 glT xs cs xs.length hx5 hc8 (fun c hc => hv.len c hc) L (by omega) hLv) op59 ?_
                  conv => whnf
                  obtain ⟨F, hF⟩ : ∃ F, F = firstS xs (blankL cs L) := ⟨_, rfl⟩
                  refine byC (to (c21 glT xs (blankL cs L) (blank_lens hN L).toLens) (by rw [first_eq, ← hF])) op21 ?_
                  conv => whnf
                  refine bcase_iff.2 ⟨fun g30_6 => ?_, fun g30_6 => ?_⟩
                  · skip
                    conv => whnf
                    refine byC ((c26)) op26 ?_
                    -- R:bFFFTFTFT
                    conv => whnf
                    first | done | rfl
                  · skip
                    conv => whnf
                    refine bcase_iff.2 ⟨fun g30_11 => ?_, fun g30_11 => ?_⟩
                    · skip
                      conv => whnf
                      refine byC ((c26)) op26 ?_
                      -- R:bFFFTFTFFT
                      conv => whnf
                      first | done | rfl
                    · skip
                      exfalso
                      have h6 : ((R.length : Int) == 0) = false := g30_6
                      have h7 : ¬ ((R.length : Int) = 0) := by simpa using h6
                      have h8 : (F.2.2 == 9) = false := g30_11
                      rw [hF, first_no (blank_chk hc L) (hf.no L (by omega))] at h8
                      cases h8 --done
              · skip
                conv => whnf
                refine (hQ3 _ _ _).mpr ?_
                conv => whnf
                refine byC (c59 glT xs cs xs.length hx5 hc8 (fun c hc => hv.len c hc) R (by omega) hRv) op59 ?_
                conv => whnf
                refine byC (to (c21 glT xs (blankL cs R) (blank_lens hN R).toLens) (firstVy (blank_chk hc R) hf.ok)) op21 ?_
                conv => whnf
                refine byC (c59 glT xs cs xs.length hx5 hc8 (fun c hc => hv.len c hc) L (by omega) hLv) op59 ?_
                conv => whnf
                obtain ⟨F, hF⟩ : ∃ F, F = firstS xs (blankL cs L) := ⟨_, rfl⟩
                refine byC (to (c21 glT xs (blankL cs L) (blank_lens hN L).toLens) (by rw [first_eq, ← hF])) op21 ?_
                conv => whnf
                refine bcase_iff.2 ⟨fun g30_6 => ?_, fun g30_6 => ?_⟩
                · skip
                  conv => whnf
                  refine byC ((c26)) op26 ?_
                  -- R:bFFFTFFT
                  conv => whnf
                  first | done | rfl
                · skip
                  conv => whnf
                  refine bcase_iff.2 ⟨fun g30_11 => ?_, fun g30_11 => ?_⟩
                  · skip
                    conv => whnf
                    refine byC ((c26)) op26 ?_
                    -- R:bFFFTFFFT
                    conv => whnf
                    first | done | rfl
                  · skip
                    exfalso
                    have h6 : ((R.length : Int) == 0) = false := g30_6
                    have h7 : ¬ ((R.length : Int) = 0) := by simpa using h6
                    have h8 : (F.2.2 == 9) = false := g30_11
                    rw [hF, first_no (blank_chk hc L) (hf.no L (by omega))] at h8
                    cases h8 --done
          · skip
            conv => whnf
            refine loop_q fun Q2 hQ2 => ?_
            refine ⟨⟨33292, [11], [11]⟩, ?_⟩
            refine LoopW_ind _ (fun k : Nat => (({ tmps := [.undef, .undef, .sl (S := S) U.u8 bs none, .own 3 [], .undef, .undef, .undef, .undef, .undef, rdgsV R, .undef, .undef, .undef, .undef, .undef, vI k, .undef, .undef, .undef, .undef, .undef, .undef, .undef, .undef, .undef, .undef, .undef, .undef, .undef, .undef, .undef, .undef, .undef, .undef, .undef, .undef, .undef, .undef, .undef, .undef, .undef, .undef, .undef, .undef, .undef, .undef, .undef, .undef, .undef, .undef, .undef, .undef, .undef, .undef, .undef, .undef, .undef, .undef, .undef, .undef, .undef, .undef, .undef, .undef, .undef, .undef, .undef, .undef, .undef, .undef, .undef, .undef, .undef, .undef, .undef, .undef, .undef, .undef, .undef, .undef, .undef, .undef, .undef, .undef, .undef, .undef, .undef, .undef, .undef, .undef, .undef, .undef, .undef, .undef, .undef, .undef, .undef, .undef, .undef, .undef, .undef, .undef, .undef, .undef, .undef, .undef, .undef, .undef, .undef, .undef, .undef, .undef, .undef, .undef, .undef, .undef, .undef, .undef, .undef, .undef, .undef, .undef, .undef, .undef, .undef, .undef, .undef, .undef, .undef, .undef, .undef, .undef, .undef, .undef, .undef, .undef, .undef, .undef, .undef, .undef, .undef, .undef, .undef, .undef, .undef, .undef, .undef, .undef, .undef, .undef, .undef, .undef, .undef, .undef, .undef, .undef, .undef, .undef, .undef, .undef, .undef, .undef, .undef, .undef, .undef, .undef, .undef, .undef, .undef, .undef, .undef, .undef, .undef, .undef, .undef, .undef, .undef, .undef, .undef, .undef, .undef, .undef, .undef, .undef, .undef, .undef, .undef, .undef, .undef, .undef, .undef, .undef, .undef, .undef, .undef, .undef, .undef, .undef, .undef, .undef, .undef, .undef, .undef, .undef, .undef, .undef, .undef, .undef, .undef, .undef, .undef, .undef, .undef, .undef, .undef, .undef, .undef, .undef, .undef, .undef, .undef, .undef, .undef, .undef, .undef, .undef, .undef, .undef, .undef, .undef, .undef, .undef, .undef, .undef, .undef, .undef, .undef, .undef, .undef, .undef, .undef, .undef, .undef, .undef, .undef, .undef, .undef, .undef, .undef, .undef, .undef, .undef, .undef, .undef, .undef, .undef], seg := [(3, .cells [lociV xs, copsV cs])], up := [] } : St S))) (fun k : Nat => (k ≤ R.length)) (fun k : Nat => (R.length - k)) () ?_ 0 (Nat.zero_le _)
            intro k hk Z2 hZ2
            conv => whnf
            refine bcase_iff.2 ⟨fun h17 => ?_, fun h17 => ?_⟩
            · skip
              have hltk : k < R.length := by have := of_decide_eq_true h17; omega
              have hwk : IntKind.i64.wrap ((k : Int) + 1) = ((k + 1 : Nat) : Int) := wrap_nat (by omega)
              obtain ⟨u, v, hu, hvv, huc, hvx⟩ := hf.at_ k hltk
              conv => whnf
              refine ⟨[0, 1, 2, 3, 4, 5, 6, 7, 8, 9, 10, 11, 12, 13, 14, 15, 16, 17, 18, 19, 20, 21, 22, 23, 24, 25, 26, 27, 28, 29, 30, 31, 32, 33, 34, 35], [], [], [], ⟨115792089237316195423570985008687907853269984665640564039457584007913129639935, [], []⟩, by decide +kernel, ?_⟩
              conv => whnf
              refine ⟨_, getI_nat hltk, ?_⟩
              conv => whnf
              refine bcase_iff.2 ⟨fun g19_6 => ?_, fun g19_6 => ?_⟩
              · skip
                exfalso
                have h := of_decide_eq_true g19_6; omega --done
              · skip
                conv => whnf
                refine ⟨_, getI_nat hltk, ?_⟩
                conv => whnf
                refine bcase_iff.2 ⟨fun g19_17 => ?_, fun g19_17 => ?_⟩
                · skip
                  exfalso
                  have h := of_decide_eq_true g19_17; omega --done
                · skip
                  conv => whnf
                  refine ⟨_, getI_nat hltk, ?_⟩
                  conv => whnf
                  refine bcase_iff.2 ⟨fun g19_25 => ?_, fun g19_25 => ?_⟩
                  · skip
                    exfalso
                    have h := of_decide_eq_true g19_25; omega --done
                  · skip
                    conv => whnf
                    refine ⟨_, getI_nat hltk, ?_⟩
                    conv => whnf
                    refine bcase_iff.2 ⟨fun h19 => ?_, fun h19 => ?_⟩
                    · skip
                      exfalso
                      have h := of_decide_eq_true h19; omega --done
                    · skip
                      conv => whnf
                      refine ⟨[0, 1, 2, 3, 4, 5, 6, 7, 8, 9, 10, 11, 12, 13, 14, 16, 17, 18, 19, 20, 21, 22, 23, 24, 25, 15, 26, 27, 28, 29], [15, 26], [], [], ⟨115792089237316195423570985008687907853269984665640564039457584007913129639935, [], []⟩, by decide +kernel, ?_⟩
                      conv => whnf
                      refine bcase_iff.2 ⟨fun g21_2 => ?_, fun g21_2 => ?_⟩
                      · skip
                        have hk0 : 0 < k := by have := of_decide_eq_true g21_2; omega
                        have hwp : IntKind.i64.wrap ((k : Int) - 1) = ((k - 1 : Nat) : Int) := by rw [wrap_int (by omega) (by omega)]; omega
                        have hbf : befL [R[k - 1].1, R[k - 1].2] [R[k].1, R[k].2] = true := by have := hf.lt (k - 1) (by omega); simpa [show k - 1 + 1 = k by omega] using this
                        conv => whnf
                        refine ⟨_, getI_at hwp (show k - 1 < R.length by omega), ?_⟩
                        conv => whnf
                        refine ⟨_, getI_at hwp (show k - 1 < R.length by omega), ?_⟩
                        conv => whnf
                        refine ⟨_, getI_nat hltk, ?_⟩
                        conv => whnf
                        refine ⟨_, getI_nat hltk, ?_⟩
                        conv => whnf
                        refine ⟨_, rfl, ?_⟩
                        conv => whnf
                        refine ⟨_, rfl, ?_⟩
                        conv => whnf
                        refine ⟨_, rfl, ?_⟩
                        conv => whnf
                        refine ⟨_, rfl, ?_⟩
                        conv => whnf
                        refine byC (to (c58 glT _ _ (by simp) (by simp)) (congrArg _ hbf)) op58 ?_
                        -- Z17:TFFFFT
                        conv => whnf
                        refine ⟨⟨33292, [174, 185], []⟩, ?_⟩
                        conv => whnf
                        rw [hwk]
                        exact hZ2 (k + 1) hltk (by omega)
                      · skip
                        -- Z17:TFFFFF
                        conv => whnf
                        refine ⟨⟨33292, [174, 185], []⟩, ?_⟩
                        conv => whnf
                        rw [hwk]
                        exact hZ2 (k + 1) hltk (by omega)
            · skip
              have hgk : k = R.length := by have := of_decide_eq_false h17; omega
              conv => whnf
              refine (hQ2 _ _ _).mpr ?_
              conv => whnf
              refine loop_q fun Q3 hQ3 => ?_
              refine ⟨⟨197132, [], [16]⟩, ?_⟩
              refine LoopW_ind _ (fun s : Nat × List (Int × Int) => match s with | (k2, L) => (({ tmps := [.undef, .undef, .sl (S := S) U.u8 bs none, .own 3 [], .undef, .undef, .undef, .undef, .undef, rdgsV R, .undef, .undef, .undef, .undef, .undef, .undef, .sl (S := S) U.reading L (some 16), vI k2, .undef, .undef, .undef, .undef, .undef, .undef, .undef, .undef, .undef, .undef, .undef, .undef, .undef, .undef, .undef, .undef, .undef, .undef, .undef, .undef, .undef, .undef, .undef, .undef, .undef, .undef, .undef, .undef, .undef, .undef, .undef, .undef, .undef, .undef, .undef, .undef, .undef, .undef, .undef, .undef, .undef, .undef, .undef, .undef, .undef, .undef, .undef, .undef, .undef, .undef, .undef, .undef, .undef, .undef, .undef, .undef, .undef, .undef, .undef, .undef, .undef, .undef, .undef, .undef, .undef, .undef, .undef, .undef, .undef, .undef, .undef, .undef, .undef, .undef, .undef, .undef, .undef, .undef, .undef, .undef, .undef, .undef, .undef, .undef, .undef, .undef, .undef, .undef, .undef, .undef, .undef, .undef, .undef, .undef, .undef, .undef, .undef, .undef, .undef, .undef, .undef, .undef, .undef, .undef, .undef, .undef, .undef, .undef, .undef, .undef, .undef, .undef, .undef, .undef, .undef, .undef, .undef, .undef, .undef, .undef, .undef, .undef, .undef, .undef, .undef, .undef, .undef, .undef, .undef, .undef, .undef, .undef, .undef, .undef, .undef, .undef, .undef, .undef, .undef, .undef, .undef, .undef, .undef, .undef, .undef, .undef, .undef, .undef, .undef, .undef, .undef, .undef, .undef, .undef, .undef, .undef, .undef, .undef, .undef, .undef, .undef, .undef, .undef, .undef, .undef, .undef, .undef, .undef, .undef, .undef, .undef, .undef, .undef, .undef, .undef, .undef, .undef, .undef, .undef, .undef, .undef, .undef, .undef, .undef, .undef, .undef, .undef, .undef, .undef, .undef, .undef, .undef, .undef, .undef, .undef, .undef, .undef, .undef, .undef, .undef, .undef, .undef, .undef, .undef, .undef, .undef, .undef, .undef, .undef, .undef, .undef, .undef, .undef, .undef, .undef, .undef, .undef, .undef, .undef, .undef, .undef, .undef, .undef, .undef, .undef, .undef, .undef, .undef, .undef, .undef, .undef, .undef, .undef, .undef, .undef, .undef, .undef, .undef], seg := [(3, .cells [lociV xs, copsV cs]), (16, .row U.reading false)], up := [] } : St S))) (fun s : Nat × List (Int × Int) => match s with | (k2, L) => (k2 ≤ bs.length ∧ L.length ≤ R.length - 1 ∧ ∀ p ∈ L, 0 ≤ p.2 ∧ p.2 < xs.length)) (fun s : Nat × List (Int × Int) => match s with | (k2, L) => (bs.length - k2)) () ?_ (0, []) ⟨Nat.zero_le _, Nat.zero_le _, fun p h => by cases h⟩
              rintro ⟨k2, L⟩ hinv Z3 hZ3
              dsimp only at hinv hZ3
              obtain ⟨hk2, hLl, hLv⟩ := hinv
              conv => whnf
              refine bcase_iff.2 ⟨fun g25_4 => ?_, fun g25_4 => ?_⟩
              · skip
                have hlt2 : k2 < bs.length := by have := of_decide_eq_true g25_4; omega
                have hw2 : IntKind.i64.wrap ((k2 : Int) + 1) = ((k2 + 1 : Nat) : Int) := wrap_nat (by omega)
                have hwL : IntKind.i64.wrap ((L.length : Int) + 1) = ((L.length + 1 : Nat) : Int) := wrap_nat (by omega)
                have hbk := hb _ (List.getElem_mem hlt2)
                conv => whnf
                refine bcase_iff.2 ⟨fun h25 => ?_, fun h25 => ?_⟩
                · skip
                  have hlL : L.length + 1 < R.length := by have h25 : decide (IntKind.i64.wrap ((L.length : Int) + 1) < (R.length : Int)) = true := h25; rw [hwL] at h25; have := of_decide_eq_true h25; omega
                  conv => whnf
                  refine ⟨[0, 1, 2, 3, 4, 5, 6, 7, 8, 9, 10, 11, 12, 13, 14, 15, 16, 17, 18, 19, 20, 21, 22, 23], [21], [], [], ⟨115792089237316195423570985008687907853269984665640564039457584007913129639935, [], []⟩, by decide +kernel, ?_⟩
                  conv => whnf
                  refine ⟨_, getI_nat hlt2, ?_⟩
                  conv => whnf
                  refine ⟨by decide, ?_⟩
                  conv => whnf
                  refine ⟨by omega, ?_⟩
                  conv => whnf
                  refine ⟨_, getI_nat hlt2, ?_⟩
                  conv => whnf
                  refine ⟨by omega, ?_⟩
                  conv => whnf
                  refine ⟨_, rfl, ?_⟩
                  conv => whnf
                  refine ⟨lim (by show L.length + 1 ≤ _; omega), ?_⟩
                  -- Z25:TT
                  conv => whnf
                  refine ⟨⟨197132, [224, 225], []⟩, ?_⟩
                  conv => whnf
                  rw [hw2]
                  exact hZ3 (k2 + 1, L ++ [(_, _)]) ⟨hlt2, by rw [List.length_append, List.length_singleton]; omega, fun p hp => by rcases List.mem_append.1 hp with h | h; exact hLv p h; rw [List.mem_singleton.1 h]; obtain ⟨q, hq, hqx⟩ := idx_of hbk h1x; show 0 ≤ (IntKind.i64.wrap bs[k2]).tmod (xs.length : Int) ∧ (IntKind.i64.wrap bs[k2]).tmod (xs.length : Int) < _; rw [hq]; omega⟩ (by dsimp only; omega)
                · skip
                  conv => whnf
                  refine (hQ3 _ _ _).mpr ?_
                  conv => whnf
                  refine byC (c59 glT xs cs xs.length hx5 hc8 (fun c hc => hv.len c hc) R (by omega) hRv) op59 ?_
                  conv => whnf
                  refine byC (to (c21 glT xs (blankL cs R) (blank_lens hN R).toLens) (firstVy (blank_chk hc R) hf.ok)) op21 ?_
                  conv => whnf
                  refine byC (c59 glT xs cs xs.length hx5 hc8 (fun c hc => hv.len c hc) L (by omega) hLv) op59 ?_
                  conv => whnf
                  obtain ⟨F, hF⟩ : ∃ F, F = firstS xs (blankL cs L) := ⟨_, rfl⟩
                  refine byC (to (c21 glT xs (blankL cs L) (blank_lens hN L).toLens) (by rw [first_eq, ← hF])) op21 ?_
                  conv => whnf
                  refine bcase_iff.2 ⟨fun g30_6 => ?_, fun g30_6 => ?_⟩
                  · skip
                    conv => whnf
                    refine byC ((c26)) op26 ?_
                    -- R:bFFFFFTFT
                    conv => whnf
                    first | done | rfl
                  · skip
                    conv => whnf
                    refine bcase_iff.2 ⟨fun g30_11 => ?_, fun g30_11 => ?_⟩
                    · skip
                      conv => whnf
                      refine byC ((c26)) op26 ?_
                      -- R:bFFFFFTFFT
                      conv => whnf
                      first | done | rfl
                    · skip
                      exfalso
                      have h6 : ((R.length : Int) == 0) = false := g30_6
                      have h7 : ¬ ((R.length : Int) = 0) := by simpa using h6
                      have h8 : (F.2.2 == 9) = false := g30_11
                      rw [hF, first_no (blank_chk hc L) (hf.no L (by omega))] at h8
                      cases h8 --done
              · skip
                conv => whnf
                refine (hQ3 _ _ _).mpr ?_
                conv => whnf
                refine byC (c59 glT xs cs xs.length hx5 hc8 (fun c hc => hv.len c hc) R (by omega) hRv) op59 ?_
                conv => whnf
                refine byC (to (c21 glT xs (blankL cs R) (blank_lens hN R).toLens) (firstVy (blank_chk hc R) hf.ok)) op21 ?_
                conv => whnf
                refine byC (c59 glT xs cs xs.length hx5 hc8 (fun c hc => hv.len c hc) L (by omega) hLv) op59 ?_
                conv => whnf
                obtain ⟨F, hF⟩ : ∃ F, F = firstS xs (blankL cs L) := ⟨_, rfl⟩
                refine byC (to (c21 glT xs (blankL cs L) (blank_lens hN L).toLens) (by rw [first_eq, ← hF])) op21 ?_
                conv => whnf
                refine bcase_iff.2 ⟨fun g30_6 => ?_, fun g30_6 => ?_⟩
                · skip
                  conv => whnf
                  refine byC ((c26)) op26 ?_
                  -- R:bFFFFFFT
                  conv => whnf
                  first | done | rfl
                · skip
                  conv => whnf
                  refine bcase_iff.2 ⟨fun g30_11 => ?_, fun g30_11 => ?_⟩
                  · skip
                    conv => whnf
                    refine byC ((c26)) op26 ?_
                    -- R:bFFFFFFFT
                    conv => whnf
                    first | done | rfl
                  · skip
                    exfalso
                    have h6 : ((R.length : Int) == 0) = false := g30_6
                    have h7 : ¬ ((R.length : Int) = 0) := by simpa using h6
                    have h8 : (F.2.2 == 9) = false := g30_11
                    rw [hF, first_no (blank_chk hc L) (hf.no L (by omega))] at h8
                    cases h8 --done

end Go.Ab.StF
