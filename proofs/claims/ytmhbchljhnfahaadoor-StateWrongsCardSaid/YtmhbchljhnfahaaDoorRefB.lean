/-
  THE STATE FAMILY, PART ND: functions of the reference: Check, asked, Odd.
  THE STATE FAMILY, PART NE: functions of the reference: what is asked of a forme.
  THE STATE FAMILY, PART NF: functions of the reference: After and Earlier.
-/
import Derived.Test.YtmhbchljhnfahaaDoorRefA
namespace Go.Ab.StF
open Go Go.Ab Go.Proofs
set_option maxHeartbeats 1000000
set_option maxRecDepth 100000

/-- How long things are. -/
structure LensN (xs : List (ByteArray × Int)) (cs : List (ByteArray × List Int)) : Prop extends Lens xs cs where
  nx : ∀ x ∈ xs, x.1.size ≤ 9223372036854775807
  nc : ∀ x ∈ cs, x.1.size ≤ 9223372036854775807

def eL (pre : List (ByteArray × Int)) (x : ByteArray × Int) : Int := if freE x.1 (pre.map Prod.fst) ≠ 0 then freE x.1 (pre.map Prod.fst) else if !inB x.2 0 2 then 7 else 0
def e0C (n : Nat) (pre : List (ByteArray × List Int)) (x : ByteArray × List Int) : Int := if freE x.1 (pre.map Prod.fst) ≠ 0 then freE x.1 (pre.map Prod.fst) else if (x.2.length : Int) != n then 3 else 0
def eK (n : Nat) (pre : List (ByteArray × List Int)) (x : ByteArray × List Int) (k : Nat) : Int := if e0C n pre x ≠ 0 then e0C n pre x else if (x.2.take k).any (outB 0 2) then 7 else 0

theorem eK_zero (n : Nat) (pre : List (ByteArray × List Int)) (x : ByteArray × List Int) : eK n pre x 0 = e0C n pre x := by
  unfold eK
  by_cases h : e0C n pre x = 0
  · rw [if_neg (by simpa using h), h]; rfl
  · rw [if_pos h]

theorem freE_if {α : Type} (w : ByteArray) (pre : List (ByteArray × α)) : freE w (pre.map Prod.fst) = if !nameB w then 6 else if pre.any (fun p => strEq p.1 w) then 5 else 0 := by
  unfold freE; rw [List.any_map]; rfl

theorem chkL_cons (pre : List (ByteArray × Int)) (x : ByteArray × Int) (l : List (ByteArray × Int)) (i : Nat) : chkL pre (x :: l) i = if eL pre x ≠ 0 then some ((i : Int), eL pre x) else chkL (pre ++ [x]) l (i + 1) := by
  have ho : [x.2].any (outB 0 2) = !inB x.2 0 2 := by simp [out_in]
  simp only [chkL, eL, freE_if, ho]
  cases nameB x.1
  · rfl
  · cases pre.any fun p => strEq p.1 x.1
    · cases inB x.2 0 2 <;> rfl
    · rfl

theorem chkC_cons (n : Nat) (pre : List (ByteArray × List Int)) (x : ByteArray × List Int) (l : List (ByteArray × List Int)) (i : Nat) :
    chkC n pre (x :: l) i = if eK n pre x x.2.length ≠ 0 then some ((i : Int), eK n pre x x.2.length) else chkC n (pre ++ [x]) l (i + 1) := by
  simp only [chkC, eK, e0C, freE_if, List.take_length]
  cases nameB x.1
  · rfl
  · cases pre.any fun p => strEq p.1 x.1
    · cases hl : (x.2.length : Int) != n
      · cases x.2.any (outB 0 2) <;> rfl
      · rfl
    · rfl

theorem any_take_all {α : Type} {p : α → Bool} {l : List α} {k : Nat} (h : (l.take k).any p = true) : l.any p = true := by
  rw [List.any_eq_true] at h ⊢
  obtain ⟨x, hx, hp⟩ := h
  exact ⟨x, List.mem_of_mem_take hx, hp⟩

theorem eK_fin {n : Nat} {pre : List (ByteArray × List Int)} {x : ByteArray × List Int} {k : Nat} (h : eK n pre x k ≠ 0) : eK n pre x k = eK n pre x x.2.length := by
  unfold eK at *
  by_cases h0 : e0C n pre x ≠ 0
  · rw [if_pos h0, if_pos h0]
  · rw [if_neg h0] at h
    rw [if_neg h0, if_neg h0, List.take_length]
    cases ha : (x.2.take k).any (outB 0 2) with
    | false => rw [ha] at h; exact absurd rfl h
    | true => rw [any_take_all ha]

theorem eK_succ {n : Nat} {pre : List (ByteArray × List Int)} {x : ByteArray × List Int} {k : Nat} (hk : k < x.2.length) (h : eK n pre x k = 0) : eK n pre x (k + 1) = if !inB x.2[k] 0 2 then 7 else 0 := by
  unfold eK at *
  by_cases h0 : e0C n pre x ≠ 0
  · rw [if_pos h0] at h; exact absurd h h0
  · rw [if_neg h0] at h
    have ha : (x.2.take k).any (outB 0 2) = false := by
      cases ha : (x.2.take k).any (outB 0 2) with
      | false => rfl
      | true => rw [ha] at h; cases h
    rw [if_neg h0, take_succ' hk, List.any_append, ha, Bool.false_or]
    simp only [List.any_cons, List.any_nil, Bool.or_false, out_in]

theorem chk_F {xs : List (ByteArray × Int)} {cs : List (ByteArray × List Int)} (h : [(xs.length : Int)].any (outB 1 5) = false) : chk xs cs = match chkL [] xs 0 with
    | some (i, e) => (1, i, e)
    | none => if [(cs.length : Int)].any (outB 1 8) then (2, 0, 3) else match chkC xs.length [] cs 0 with
      | some (i, e) => (2, i, e)
      | none => (0, 0, 0) := by unfold chk; rw [if_neg (by rw [h]; simp)]; rfl

theorem in_out1 (lo hi x : Int) : [x].any (outB lo hi) = !inB x lo hi := by simp [out_in]

theorem c17 (gl : Gl) (xs : List (ByteArray × Int)) (cs : List (ByteArray × List Int)) (hN : LensN xs cs) : PCalls PR gl 17 [.agg [lociV xs, copsV cs]] fun r => r = tup3 (chk xs cs) := by
  refine fnW_sound (par_ok gl) Tryd.func17 ?_
  conv => whnf
  refine byC (c69 gl _ _ _) op69 ?_
  conv => whnf
  refine bcase_iff.2 ⟨fun h1 => ?_, fun h1 => ?_⟩
  · skip
    have h1 : (!inB (xs.length : Int) 1 5) = true := h1
    -- R:T
    conv => whnf
    unfold chk
    rw [if_pos (by rw [in_out1, h1])]
    rfl
  · skip
    have h1 : (!inB (xs.length : Int) 1 5) = false := h1
    have hx5 : xs.length ≤ 5 := by simp [inB] at h1; omega
    have hk := chk_F (cs := cs) (by rw [in_out1, h1])
    conv => whnf
    refine loop_q fun Q1 hQ1 => ?_
    refine ⟨⟨98, [], [5]⟩, ?_⟩
    refine LoopW_ind _ (fun i : Nat => (({ tmps := [.undef, .own 1 [], .undef, .undef, .undef, .sl (S := S) U.str ((xs.take i).map Prod.fst) (some 5), vI i, .undef, .undef, .undef, .undef, .undef, .undef, .undef, .undef, .undef, .undef, .undef, .undef, .undef, .undef, .undef, .undef, .undef, .undef, .undef, .undef, .undef, .undef, .undef, .undef, .undef, .undef, .undef, .undef, .undef, .undef, .undef, .undef, .undef, .undef, .undef, .undef, .undef, .undef, .undef, .undef, .undef, .undef, .undef, .undef, .undef, .undef, .undef, .undef, .undef, .undef, .undef, .undef, .undef, .undef, .undef, .undef, .undef, .undef, .undef, .undef, .undef, .undef, .undef, .undef, .undef, .undef, .undef, .undef, .undef, .undef, .undef, .undef, .undef, .undef, .undef, .undef, .undef, .undef, .undef, .undef, .undef, .undef, .undef, .undef, .undef, .undef, .undef, .undef, .undef, .undef, .undef, .undef, .undef, .undef, .undef, .undef, .undef, .undef, .undef, .undef, .undef, .undef, .undef, .undef, .undef, .undef, .undef, .undef, .undef], seg := [(1, .cells [lociV xs, copsV cs]), (5, .row U.str false)], up := [] } : St S))) (fun i : Nat => (i ≤ xs.length ∧ chkL (xs.take i) (xs.drop i) i = chkL [] xs 0)) (fun i : Nat => (xs.length - i)) () ?_ 0 ⟨Nat.zero_le _, rfl⟩
    intro i hinv Z1 hZ1
    obtain ⟨hi, h2⟩ := hinv
    conv => whnf
    refine bcase_iff.2 ⟨fun h5 => ?_, fun h5 => ?_⟩
    · skip
      have hlt : i < xs.length := by have := of_decide_eq_true h5; omega
      have hw : IntKind.i64.wrap ((i : Int) + 1) = ((i + 1 : Nat) : Int) := wrap_nat (by omega)
      rw [List.drop_eq_getElem_cons hlt, chkL_cons] at h2
      have hnl : ((xs.take i).map Prod.fst).length ≤ 100 := by simp; omega
      conv => whnf
      refine ⟨_, getI_nat hlt, ?_⟩
      conv => whnf
      refine byC (c70 gl xs[i].1 (hN.nx _ (List.getElem_mem hlt)) ((xs.take i).map Prod.fst) (by omega)) op70 ?_
      conv => whnf
      refine bcase_iff.2 ⟨fun g8_2 => ?_, fun g8_2 => ?_⟩
      · skip
        have hf : freE xs[i].1 ((xs.take i).map Prod.fst) = 0 := beq_iff_eq.1 g8_2
        have he : eL (xs.take i) xs[i] = if !inB xs[i].2 0 2 then 7 else 0 := by unfold eL; rw [if_neg (fun h => h hf)]
        conv => whnf
        refine ⟨_, getI_nat hlt, ?_⟩
        conv => whnf
        refine byC (c69 gl _ _ _) op69 ?_
        conv => whnf
        refine bcase_iff.2 ⟨fun h8 => ?_, fun h8 => ?_⟩
        · skip
          have h8 : (!inB xs[i].2 0 2) = true := h8
          rw [h8, if_pos rfl] at he
          rw [he, if_pos (by decide)] at h2
          conv => whnf
          refine (hQ1 _ _ _).mpr ?_
          -- R:FTTT
          conv => whnf
          rw [hk, ← h2]
          rfl
        · skip
          have h8 : (!inB xs[i].2 0 2) = false := h8
          rw [h8, if_neg (by simp)] at he
          rw [he, if_neg (by simp), ← take_succ' hlt] at h2
          conv => whnf
          refine bcase_iff.2 ⟨fun h10 => ?_, fun h10 => ?_⟩
          · skip
            exfalso
            have h10 : (freE xs[i].1 ((xs.take i).map Prod.fst) != 0) = true := h10
            rw [hf] at h10
            cases h10 --done
          · skip
            conv => whnf
            refine ⟨_, getI_nat hlt, ?_⟩
            conv => whnf
            refine ⟨_, rfl, ?_⟩
            conv => whnf
            refine ⟨lim (by show ((xs.take i).map Prod.fst).length + 1 ≤ _; omega), ?_⟩
            -- Z5:TTFF
            conv => whnf
            refine ⟨⟨98, [55, 56], []⟩, ?_⟩
            conv => whnf
            have hs : (xs.take (i + 1)).map Prod.fst = (xs.take i).map Prod.fst ++ [xs[i].1] := by rw [take_succ' hlt, List.map_append]; rfl
            have := hZ1 (i + 1) ⟨hlt, h2⟩ (by omega)
            rw [hs] at this
            rw [hw]
            exact this
      · skip
        have hf : freE xs[i].1 ((xs.take i).map Prod.fst) ≠ 0 := beq_eq_false_iff_ne.1 g8_2
        have he : eL (xs.take i) xs[i] = freE xs[i].1 ((xs.take i).map Prod.fst) := by unfold eL; rw [if_pos hf]
        conv => whnf
        refine bcase_iff.2 ⟨fun h10 => ?_, fun h10 => ?_⟩
        · skip
          rw [he, if_pos hf] at h2
          conv => whnf
          refine (hQ1 _ _ _).mpr ?_
          -- R:FTFT
          conv => whnf
          rw [hk, ← h2]
          rfl
        · skip
          exfalso
          have h10 : (freE xs[i].1 ((xs.take i).map Prod.fst) != 0) = false := h10
          exact hf (by simpa using h10) --done
    · skip
      have hge : i = xs.length := by have := of_decide_eq_false h5; omega
      rw [List.drop_eq_nil_of_le (by omega), chkL] at h2
      rw [← h2] at hk
      simp only at hk
      conv => whnf
      refine (hQ1 _ _ _).mpr ?_
      conv => whnf
      refine byC (c69 gl _ _ _) op69 ?_
      conv => whnf
      refine bcase_iff.2 ⟨fun h13 => ?_, fun h13 => ?_⟩
      · skip
        have h13 : (!inB (cs.length : Int) 1 8) = true := h13
        rw [if_pos (by rw [in_out1, h13])] at hk
        -- R:FFT
        conv => whnf
        rw [hk]
        rfl
      · skip
        have h13 : (!inB (cs.length : Int) 1 8) = false := h13
        have hc8 : cs.length ≤ 8 := by simp [inB] at h13; omega
        rw [if_neg (by rw [in_out1, h13]; simp)] at hk
        conv => whnf
        refine loop_q fun Q2 hQ2 => ?_
        refine ⟨⟨290, [5], [900005]⟩, ?_⟩
        refine LoopW_ind _ (fun j : Nat => (({ tmps := [.undef, .own 1 [], .undef, .undef, .undef, .sl (S := S) U.str ((cs.take j).map Prod.fst) (some 900005), .undef, .undef, vI j, .undef, .undef, .undef, .undef, .undef, .undef, .undef, .undef, .undef, .undef, .undef, .undef, .undef, .undef, .undef, .undef, .undef, .undef, .undef, .undef, .undef, .undef, .undef, .undef, .undef, .undef, .undef, .undef, .undef, .undef, .undef, .undef, .undef, .undef, .undef, .undef, .undef, .undef, .undef, .undef, .undef, .undef, .undef, .undef, .undef, .undef, .undef, .undef, .undef, .undef, .undef, .undef, .undef, .undef, .undef, .undef, .undef, .undef, .undef, .undef, .undef, .undef, .undef, .undef, .undef, .undef, .undef, .undef, .undef, .undef, .undef, .undef, .undef, .undef, .undef, .undef, .undef, .undef, .undef, .undef, .undef, .undef, .undef, .undef, .undef, .undef, .undef, .undef, .undef, .undef, .undef, .undef, .undef, .undef, .undef, .undef, .undef, .undef, .undef, .undef, .undef, .undef, .undef, .undef, .undef, .undef, .undef], seg := [(1, .cells [lociV xs, copsV cs]), (900005, .row U.str false)], up := [] } : St S))) (fun j : Nat => (j ≤ cs.length ∧ chkC xs.length (cs.take j) (cs.drop j) j = chkC xs.length [] cs 0)) (fun j : Nat => (cs.length - j)) () ?_ 0 ⟨Nat.zero_le _, rfl⟩
        intro j hinv Z2 hZ2
        obtain ⟨hj, h3⟩ := hinv
        conv => whnf
        refine bcase_iff.2 ⟨fun h17 => ?_, fun h17 => ?_⟩
        · skip
          have hltc : j < cs.length := by have := of_decide_eq_true h17; omega
          have hwc : IntKind.i64.wrap ((j : Int) + 1) = ((j + 1 : Nat) : Int) := wrap_nat (by omega)
          rw [List.drop_eq_getElem_cons hltc, chkC_cons] at h3
          have hnl : ((cs.take j).map Prod.fst).length ≤ 100 := by simp; omega
          have hsl := hN.s _ (List.getElem_mem hltc)
          conv => whnf
          refine ⟨_, getI_nat hltc, ?_⟩
          conv => whnf
          refine byC (c70 gl cs[j].1 (hN.nc _ (List.getElem_mem hltc)) ((cs.take j).map Prod.fst) (by omega)) op70 ?_
          conv => whnf
          refine bcase_iff.2 ⟨fun g21_2 => ?_, fun g21_2 => ?_⟩
          · skip
            have hf : freE cs[j].1 ((cs.take j).map Prod.fst) = 0 := beq_iff_eq.1 g21_2
            have he : e0C xs.length (cs.take j) cs[j] = if (cs[j].2.length : Int) != xs.length then 3 else 0 := by unfold e0C; rw [if_neg (fun h => h hf)]
            conv => whnf
            refine bcase_iff.2 ⟨fun h21 => ?_, fun h21 => ?_⟩
            · skip
              have h21 : ((cs[j].2.length : Int) != xs.length) = true := h21
              have hE0 : (3 : Int) = e0C xs.length (cs.take j) cs[j] := by rw [he, h21]; rfl
              conv => whnf
              refine ⟨⟨3874, [2009], [2009]⟩, ?_⟩
              refine LoopW_ind _ (fun s : Int × Nat => match s with | (e, k) => (({ tmps := [.undef, .own 1 [], .undef, .undef, .undef, .sl (S := S) U.str ((cs.take j).map Prod.fst) (some 900005), .undef, .undef, vI j, .own 9 [], vI e, vI k, .undef, .undef, .undef, .undef, .undef, .undef, .undef, .undef, .undef, .undef, .undef, .undef, .undef, .undef, .undef, .undef, .undef, .undef, .undef, .undef, .undef, .undef, .undef, .undef, .undef, .undef, .undef, .undef, .undef, .undef, .undef, .undef, .undef, .undef, .undef, .undef, .undef, .undef, .undef, .undef, .undef, .undef, .undef, .undef, .undef, .undef, .undef, .undef, .undef, .undef, .undef, .undef, .undef, .undef, .undef, .undef, .undef, .undef, .undef, .undef, .undef, .undef, .undef, .undef, .undef, .undef, .undef, .undef, .undef, .undef, .undef, .undef, .undef, .undef, .undef, .undef, .undef, .undef, .undef, .undef, .undef, .undef, .undef, .undef, .undef, .undef, .undef, .undef, .undef, .undef, .undef, .undef, .undef, .undef, .undef, .undef, .undef, .undef, .undef, .undef, .undef, .undef, .undef, .undef], seg := [(1, .cells [lociV xs, copsV cs]), (9, .cells [.str cs[j].1, vL cs[j].2]), (900005, .row U.str false)], up := [] } : St S))) (fun s : Int × Nat => match s with | (e, k) => (k ≤ cs[j].2.length ∧ e = eK xs.length (cs.take j) cs[j] k)) (fun s : Int × Nat => match s with | (e, k) => (cs[j].2.length - k)) () ?_ (_, 0) ⟨Nat.zero_le _, hE0.trans (eK_zero _ _ _).symm⟩
              rintro ⟨e, k⟩ hinv Z3 hZ3
              dsimp only at hinv hZ3
              obtain ⟨hkl, hek⟩ := hinv
              conv => whnf
              refine bcase_iff.2 ⟨fun g24_5 => ?_, fun g24_5 => ?_⟩
              · skip
                have hltk : k < cs[j].2.length := by have := of_decide_eq_true g24_5; omega
                have hwk : IntKind.i64.wrap ((k : Int) + 1) = ((k + 1 : Nat) : Int) := wrap_nat (by omega)
                conv => whnf
                refine bcase_iff.2 ⟨fun h24 => ?_, fun h24 => ?_⟩
                · skip
                  have h24 : e = 0 := beq_iff_eq.1 h24
                  have hss := eK_succ hltk (hek.symm.trans h24)
                  conv => whnf
                  refine ⟨_, getI_nat hltk, ?_⟩
                  conv => whnf
                  refine byC (c69 gl _ _ _) op69 ?_
                  conv => whnf
                  refine bcase_iff.2 ⟨fun h26 => ?_, fun h26 => ?_⟩
                  · skip
                    have h26 : (!inB cs[j].2[k] 0 2) = true := h26
                    rw [h26, if_pos rfl] at hss
                    -- Z24:TTT
                    conv => whnf
                    refine ⟨⟨3874, [], []⟩, ?_⟩
                    conv => whnf
                    rw [hwk]
                    exact hZ3 (7, k + 1) ⟨hltk, hss.symm⟩ (by dsimp only; omega)
                  · skip
                    have h26 : (!inB cs[j].2[k] 0 2) = false := h26
                    rw [h26, if_neg (by simp)] at hss
                    -- Z24:TTF
                    conv => whnf
                    refine ⟨⟨3874, [], []⟩, ?_⟩
                    conv => whnf
                    rw [hwk]
                    exact hZ3 (e, k + 1) ⟨hltk, h24.trans hss.symm⟩ (by dsimp only; omega)
                · skip
                  have h24 : e ≠ 0 := beq_eq_false_iff_ne.1 h24
                  have hfin : e = eK xs.length (cs.take j) cs[j] cs[j].2.length := by rw [hek, eK_fin (by rw [← hek]; exact h24)]
                  conv => whnf
                  refine bcase_iff.2 ⟨fun h28 => ?_, fun h28 => ?_⟩
                  · skip
                    have h28 : e ≠ 0 := by have h28 : (e != 0) = true := h28; simpa using h28
                    rw [← hfin, if_pos h28] at h3
                    conv => whnf
                    refine (hQ2 _ _ _).mpr ?_
                    -- R:FFFTTTTFT
                    conv => whnf
                    rw [hk, ← h3]
                    rfl
                  · skip
                    have h28 : e = 0 := by have h28 : (e != 0) = false := h28; simpa using h28
                    rw [← hfin, if_neg (fun h => h h28), ← take_succ' hltc] at h3
                    conv => whnf
                    refine ⟨_, rfl, ?_⟩
                    conv => whnf
                    refine ⟨lim (by show ((cs.take j).map Prod.fst).length + 1 ≤ _; omega), ?_⟩
                    -- Z17:TTTTFF
                    conv => whnf
                    refine ⟨⟨290, [9, 114, 115, 1009, 2009, 3009, 4009], []⟩, ?_⟩
                    conv => whnf
                    have hs : (cs.take (j + 1)).map Prod.fst = (cs.take j).map Prod.fst ++ [cs[j].1] := by rw [take_succ' hltc, List.map_append]; rfl
                    have := hZ2 (j + 1) ⟨hltc, h3⟩ (by omega)
                    rw [hs] at this
                    rw [hwc]
                    exact this
              · skip
                have hgek : k = cs[j].2.length := by have := of_decide_eq_false g24_5; omega
                have hfin : e = eK xs.length (cs.take j) cs[j] cs[j].2.length := by rw [hek, hgek]
                conv => whnf
                refine bcase_iff.2 ⟨fun h28 => ?_, fun h28 => ?_⟩
                · skip
                  have h28 : e ≠ 0 := by have h28 : (e != 0) = true := h28; simpa using h28
                  rw [← hfin, if_pos h28] at h3
                  conv => whnf
                  refine (hQ2 _ _ _).mpr ?_
                  -- R:FFFTTTFT
                  conv => whnf
                  rw [hk, ← h3]
                  rfl
                · skip
                  have h28 : e = 0 := by have h28 : (e != 0) = false := h28; simpa using h28
                  rw [← hfin, if_neg (fun h => h h28), ← take_succ' hltc] at h3
                  conv => whnf
                  refine ⟨_, rfl, ?_⟩
                  conv => whnf
                  refine ⟨lim (by show ((cs.take j).map Prod.fst).length + 1 ≤ _; omega), ?_⟩
                  -- Z17:TTTFF
                  conv => whnf
                  refine ⟨⟨290, [9, 114, 115, 1009, 2009, 3009, 4009], []⟩, ?_⟩
                  conv => whnf
                  have hs : (cs.take (j + 1)).map Prod.fst = (cs.take j).map Prod.fst ++ [cs[j].1] := by rw [take_succ' hltc, List.map_append]; rfl
                  have := hZ2 (j + 1) ⟨hltc, h3⟩ (by omega)
                  rw [hs] at this
                  rw [hwc]
                  exact this
            · skip
              have h21 : ((cs[j].2.length : Int) != xs.length) = false := h21
              have hE0 : freE cs[j].1 ((cs.take j).map Prod.fst) = e0C xs.length (cs.take j) cs[j] := by rw [he, h21, hf]; rfl
              conv => whnf
              refine ⟨⟨3874, [2009], [2009]⟩, ?_⟩
              refine LoopW_ind _ (fun s : Int × Nat => match s with | (e, k) => (({ tmps := [.undef, .own 1 [], .undef, .undef, .undef, .sl (S := S) U.str ((cs.take j).map Prod.fst) (some 900005), .undef, .undef, vI j, .own 9 [], vI e, vI k, .undef, .undef, .undef, .undef, .undef, .undef, .undef, .undef, .undef, .undef, .undef, .undef, .undef, .undef, .undef, .undef, .undef, .undef, .undef, .undef, .undef, .undef, .undef, .undef, .undef, .undef, .undef, .undef, .undef, .undef, .undef, .undef, .undef, .undef, .undef, .undef, .undef, .undef, .undef, .undef, .undef, .undef, .undef, .undef, .undef, .undef, .undef, .undef, .undef, .undef, .undef, .undef, .undef, .undef, .undef, .undef, .undef, .undef, .undef, .undef, .undef, .undef, .undef, .undef, .undef, .undef, .undef, .undef, .undef, .undef, .undef, .undef, .undef, .undef, .undef, .undef, .undef, .undef, .undef, .undef, .undef, .undef, .undef, .undef, .undef, .undef, .undef, .undef, .undef, .undef, .undef, .undef, .undef, .undef, .undef, .undef, .undef, .undef, .undef, .undef, .undef, .undef, .undef, .undef], seg := [(1, .cells [lociV xs, copsV cs]), (9, .cells [.str cs[j].1, vL cs[j].2]), (900005, .row U.str false)], up := [] } : St S))) (fun s : Int × Nat => match s with | (e, k) => (k ≤ cs[j].2.length ∧ e = eK xs.length (cs.take j) cs[j] k)) (fun s : Int × Nat => match s with | (e, k) => (cs[j].2.length - k)) () ?_ (_, 0) ⟨Nat.zero_le _, hE0.trans (eK_zero _ _ _).symm⟩
              rintro ⟨e, k⟩ hinv Z3 hZ3
              dsimp only at hinv hZ3
              obtain ⟨hkl, hek⟩ := hinv
              conv => whnf
              refine bcase_iff.2 ⟨fun g24_5 => ?_, fun g24_5 => ?_⟩
              · skip
                have hltk : k < cs[j].2.length := by have := of_decide_eq_true g24_5; omega
                have hwk : IntKind.i64.wrap ((k : Int) + 1) = ((k + 1 : Nat) : Int) := wrap_nat (by omega)
                conv => whnf
                refine bcase_iff.2 ⟨fun h24 => ?_, fun h24 => ?_⟩
                · skip
                  have h24 : e = 0 := beq_iff_eq.1 h24
                  have hss := eK_succ hltk (hek.symm.trans h24)
                  conv => whnf
                  refine ⟨_, getI_nat hltk, ?_⟩
                  conv => whnf
                  refine byC (c69 gl _ _ _) op69 ?_
                  conv => whnf
                  refine bcase_iff.2 ⟨fun h26 => ?_, fun h26 => ?_⟩
                  · skip
                    have h26 : (!inB cs[j].2[k] 0 2) = true := h26
                    rw [h26, if_pos rfl] at hss
                    -- Z24:TTT
                    conv => whnf
                    refine ⟨⟨3874, [], []⟩, ?_⟩
                    conv => whnf
                    rw [hwk]
                    exact hZ3 (7, k + 1) ⟨hltk, hss.symm⟩ (by dsimp only; omega)
                  · skip
                    have h26 : (!inB cs[j].2[k] 0 2) = false := h26
                    rw [h26, if_neg (by simp)] at hss
                    -- Z24:TTF
                    conv => whnf
                    refine ⟨⟨3874, [], []⟩, ?_⟩
                    conv => whnf
                    rw [hwk]
                    exact hZ3 (e, k + 1) ⟨hltk, h24.trans hss.symm⟩ (by dsimp only; omega)
                · skip
                  have h24 : e ≠ 0 := beq_eq_false_iff_ne.1 h24
                  have hfin : e = eK xs.length (cs.take j) cs[j] cs[j].2.length := by rw [hek, eK_fin (by rw [← hek]; exact h24)]
                  conv => whnf
                  refine bcase_iff.2 ⟨fun h28 => ?_, fun h28 => ?_⟩
                  · skip
                    have h28 : e ≠ 0 := by have h28 : (e != 0) = true := h28; simpa using h28
                    rw [← hfin, if_pos h28] at h3
                    conv => whnf
                    refine (hQ2 _ _ _).mpr ?_
                    -- R:FFFTTFTFT
                    conv => whnf
                    rw [hk, ← h3]
                    rfl
                  · skip
                    have h28 : e = 0 := by have h28 : (e != 0) = false := h28; simpa using h28
                    rw [← hfin, if_neg (fun h => h h28), ← take_succ' hltc] at h3
                    conv => whnf
                    refine ⟨_, rfl, ?_⟩
                    conv => whnf
                    refine ⟨lim (by show ((cs.take j).map Prod.fst).length + 1 ≤ _; omega), ?_⟩
                    -- Z17:TTFTFF
                    conv => whnf
                    refine ⟨⟨290, [9, 114, 115, 1009, 2009, 3009, 4009], []⟩, ?_⟩
                    conv => whnf
                    have hs : (cs.take (j + 1)).map Prod.fst = (cs.take j).map Prod.fst ++ [cs[j].1] := by rw [take_succ' hltc, List.map_append]; rfl
                    have := hZ2 (j + 1) ⟨hltc, h3⟩ (by omega)
                    rw [hs] at this
                    rw [hwc]
                    exact this
              · skip
                have hgek : k = cs[j].2.length := by have := of_decide_eq_false g24_5; omega
                have hfin : e = eK xs.length (cs.take j) cs[j] cs[j].2.length := by rw [hek, hgek]
                conv => whnf
                refine bcase_iff.2 ⟨fun h28 => ?_, fun h28 => ?_⟩
                · skip
                  have h28 : e ≠ 0 := by have h28 : (e != 0) = true := h28; simpa using h28
                  rw [← hfin, if_pos h28] at h3
                  conv => whnf
                  refine (hQ2 _ _ _).mpr ?_
                  -- R:FFFTTFFT
                  conv => whnf
                  rw [hk, ← h3]
                  rfl
                · skip
                  have h28 : e = 0 := by have h28 : (e != 0) = false := h28; simpa using h28
                  rw [← hfin, if_neg (fun h => h h28), ← take_succ' hltc] at h3
                  conv => whnf
                  refine ⟨_, rfl, ?_⟩
                  conv => whnf
                  refine ⟨lim (by show ((cs.take j).map Prod.fst).length + 1 ≤ _; omega), ?_⟩
                  -- Z17:TTFFF
                  conv => whnf
                  refine ⟨⟨290, [9, 114, 115, 1009, 2009, 3009, 4009], []⟩, ?_⟩
                  conv => whnf
                  have hs : (cs.take (j + 1)).map Prod.fst = (cs.take j).map Prod.fst ++ [cs[j].1] := by rw [take_succ' hltc, List.map_append]; rfl
                  have := hZ2 (j + 1) ⟨hltc, h3⟩ (by omega)
                  rw [hs] at this
                  rw [hwc]
                  exact this
          · skip
            have hf : freE cs[j].1 ((cs.take j).map Prod.fst) ≠ 0 := beq_eq_false_iff_ne.1 g21_2
            have hE0 : freE cs[j].1 ((cs.take j).map Prod.fst) = e0C xs.length (cs.take j) cs[j] := by unfold e0C; rw [if_pos hf]
            conv => whnf
            refine ⟨⟨3874, [2009], [2009]⟩, ?_⟩
            refine LoopW_ind _ (fun s : Int × Nat => match s with | (e, k) => (({ tmps := [.undef, .own 1 [], .undef, .undef, .undef, .sl (S := S) U.str ((cs.take j).map Prod.fst) (some 900005), .undef, .undef, vI j, .own 9 [], vI e, vI k, .undef, .undef, .undef, .undef, .undef, .undef, .undef, .undef, .undef, .undef, .undef, .undef, .undef, .undef, .undef, .undef, .undef, .undef, .undef, .undef, .undef, .undef, .undef, .undef, .undef, .undef, .undef, .undef, .undef, .undef, .undef, .undef, .undef, .undef, .undef, .undef, .undef, .undef, .undef, .undef, .undef, .undef, .undef, .undef, .undef, .undef, .undef, .undef, .undef, .undef, .undef, .undef, .undef, .undef, .undef, .undef, .undef, .undef, .undef, .undef, .undef, .undef, .undef, .undef, .undef, .undef, .undef, .undef, .undef, .undef, .undef, .undef, .undef, .undef, .undef, .undef, .undef, .undef, .undef, .undef, .undef, .undef, .undef, .undef, .undef, .undef, .undef, .undef, .undef, .undef, .undef, .undef, .undef, .undef, .undef, .undef, .undef, .undef, .undef, .undef, .undef, .undef, .undef, .undef], seg := [(1, .cells [lociV xs, copsV cs]), (9, .cells [.str cs[j].1, vL cs[j].2]), (900005, .row U.str false)], up := [] } : St S))) (fun s : Int × Nat => match s with | (e, k) => (k ≤ cs[j].2.length ∧ e = eK xs.length (cs.take j) cs[j] k)) (fun s : Int × Nat => match s with | (e, k) => (cs[j].2.length - k)) () ?_ (_, 0) ⟨Nat.zero_le _, hE0.trans (eK_zero _ _ _).symm⟩
            rintro ⟨e, k⟩ hinv Z3 hZ3
            dsimp only at hinv hZ3
            obtain ⟨hkl, hek⟩ := hinv
            conv => whnf
            refine bcase_iff.2 ⟨fun g24_5 => ?_, fun g24_5 => ?_⟩
            · skip
              have hltk : k < cs[j].2.length := by have := of_decide_eq_true g24_5; omega
              have hwk : IntKind.i64.wrap ((k : Int) + 1) = ((k + 1 : Nat) : Int) := wrap_nat (by omega)
              conv => whnf
              refine bcase_iff.2 ⟨fun h24 => ?_, fun h24 => ?_⟩
              · skip
                have h24 : e = 0 := beq_iff_eq.1 h24
                have hss := eK_succ hltk (hek.symm.trans h24)
                conv => whnf
                refine ⟨_, getI_nat hltk, ?_⟩
                conv => whnf
                refine byC (c69 gl _ _ _) op69 ?_
                conv => whnf
                refine bcase_iff.2 ⟨fun h26 => ?_, fun h26 => ?_⟩
                · skip
                  have h26 : (!inB cs[j].2[k] 0 2) = true := h26
                  rw [h26, if_pos rfl] at hss
                  -- Z24:TTT
                  conv => whnf
                  refine ⟨⟨3874, [], []⟩, ?_⟩
                  conv => whnf
                  rw [hwk]
                  exact hZ3 (7, k + 1) ⟨hltk, hss.symm⟩ (by dsimp only; omega)
                · skip
                  have h26 : (!inB cs[j].2[k] 0 2) = false := h26
                  rw [h26, if_neg (by simp)] at hss
                  -- Z24:TTF
                  conv => whnf
                  refine ⟨⟨3874, [], []⟩, ?_⟩
                  conv => whnf
                  rw [hwk]
                  exact hZ3 (e, k + 1) ⟨hltk, h24.trans hss.symm⟩ (by dsimp only; omega)
              · skip
                have h24 : e ≠ 0 := beq_eq_false_iff_ne.1 h24
                have hfin : e = eK xs.length (cs.take j) cs[j] cs[j].2.length := by rw [hek, eK_fin (by rw [← hek]; exact h24)]
                conv => whnf
                refine bcase_iff.2 ⟨fun h28 => ?_, fun h28 => ?_⟩
                · skip
                  have h28 : e ≠ 0 := by have h28 : (e != 0) = true := h28; simpa using h28
                  rw [← hfin, if_pos h28] at h3
                  conv => whnf
                  refine (hQ2 _ _ _).mpr ?_
                  -- R:FFFTFTFT
                  conv => whnf
                  rw [hk, ← h3]
                  rfl
                · skip
                  have h28 : e = 0 := by have h28 : (e != 0) = false := h28; simpa using h28
                  rw [← hfin, if_neg (fun h => h h28), ← take_succ' hltc] at h3
                  conv => whnf
                  refine ⟨_, rfl, ?_⟩
                  conv => whnf
                  refine ⟨lim (by show ((cs.take j).map Prod.fst).length + 1 ≤ _; omega), ?_⟩
                  -- Z17:TFTFF
                  conv => whnf
                  refine ⟨⟨290, [9, 114, 115, 1009, 2009, 3009, 4009], []⟩, ?_⟩
                  conv => whnf
                  have hs : (cs.take (j + 1)).map Prod.fst = (cs.take j).map Prod.fst ++ [cs[j].1] := by rw [take_succ' hltc, List.map_append]; rfl
                  have := hZ2 (j + 1) ⟨hltc, h3⟩ (by omega)
                  rw [hs] at this
                  rw [hwc]
                  exact this
            · skip
              have hgek : k = cs[j].2.length := by have := of_decide_eq_false g24_5; omega
              have hfin : e = eK xs.length (cs.take j) cs[j] cs[j].2.length := by rw [hek, hgek]
              conv => whnf
              refine bcase_iff.2 ⟨fun h28 => ?_, fun h28 => ?_⟩
              · skip
                have h28 : e ≠ 0 := by have h28 : (e != 0) = true := h28; simpa using h28
                rw [← hfin, if_pos h28] at h3
                conv => whnf
                refine (hQ2 _ _ _).mpr ?_
                -- R:FFFTFFT
                conv => whnf
                rw [hk, ← h3]
                rfl
              · skip
                have h28 : e = 0 := by have h28 : (e != 0) = false := h28; simpa using h28
                rw [← hfin, if_neg (fun h => h h28), ← take_succ' hltc] at h3
                conv => whnf
                refine ⟨_, rfl, ?_⟩
                conv => whnf
                refine ⟨lim (by show ((cs.take j).map Prod.fst).length + 1 ≤ _; omega), ?_⟩
                -- Z17:TFFF
                conv => whnf
                refine ⟨⟨290, [9, 114, 115, 1009, 2009, 3009, 4009], []⟩, ?_⟩
                conv => whnf
                have hs : (cs.take (j + 1)).map Prod.fst = (cs.take j).map Prod.fst ++ [cs[j].1] := by rw [take_succ' hltc, List.map_append]; rfl
                have := hZ2 (j + 1) ⟨hltc, h3⟩ (by omega)
                rw [hs] at this
                rw [hwc]
                exact this
        · skip
          have hge2 : j = cs.length := by have := of_decide_eq_false h17; omega
          rw [List.drop_eq_nil_of_le (by omega), chkC] at h3
          conv => whnf
          refine (hQ2 _ _ _).mpr ?_
          -- R:FFFF
          conv => whnf
          rw [hk, ← h3]
          rfl

theorem op17 : Opens PR 17 := ⟨_, Tryd.func17, rfl, rfl⟩

end Go.Ab.StF

namespace Go.Ab.StF
open Go Go.Ab Go.Proofs
set_option maxHeartbeats 1000000
set_option maxRecDepth 100000

theorem getI_zero {α : Type} {xs : List α} (h : 0 < xs.length) : getI xs 0 = some xs[0] := getI_nat (i := 0) h

def askK (c : Int) (many : Int) (ns : List Int) (i : Nat) : Int := if c ≠ 0 then c else if (ns.take i).any (outB 0 (many - 1)) then 4 else 0

theorem askK_zero (c many : Int) (ns : List Int) : askK c many ns 0 = c := by
  unfold askK
  by_cases h : c = 0
  · rw [if_neg (by simpa using h), h]; rfl
  · rw [if_pos h]

theorem askK_fin {c many : Int} {ns : List Int} {i : Nat} (h : askK c many ns i ≠ 0) : askK c many ns i = askK c many ns ns.length := by
  unfold askK at *
  by_cases h0 : c ≠ 0
  · rw [if_pos h0, if_pos h0]
  · rw [if_neg h0] at h
    rw [if_neg h0, if_neg h0, List.take_length]
    cases ha : (ns.take i).any (outB 0 (many - 1)) with
    | false => rw [ha] at h; exact absurd rfl h
    | true => rw [any_take_all ha]

theorem askK_succ {c many : Int} {ns : List Int} {i : Nat} (hi : i < ns.length) (h : askK c many ns i = 0) : askK c many ns (i + 1) = if !inB ns[i] 0 (many - 1) then 4 else 0 := by
  unfold askK at *
  by_cases h0 : c ≠ 0
  · rw [if_pos h0] at h; exact absurd h h0
  · rw [if_neg h0] at h
    have ha : (ns.take i).any (outB 0 (many - 1)) = false := by
      cases ha : (ns.take i).any (outB 0 (many - 1)) with
      | false => rfl
      | true => rw [ha] at h; cases h
    rw [if_neg h0, take_succ' hi, List.any_append, ha, Bool.false_or]
    simp only [List.any_cons, List.any_nil, Bool.or_false, out_in]

theorem askR_K (xs : List (ByteArray × Int)) (cs : List (ByteArray × List Int)) (many : Int) (ns : List Int) : askR xs cs many ns = if askK (chk xs cs).2.2 many ns ns.length ≠ 0 then askK (chk xs cs).2.2 many ns ns.length else if (agrL xs cs).isEmpty then 9 else 0 := by
  unfold askR askK
  rw [List.take_length]
  by_cases h : (chk xs cs).2.2 = 0
  · have hn : ¬ ((chk xs cs).2.2 ≠ 0) := fun g => g h
    simp only [if_neg hn]
    cases ns.any (outB 0 (many - 1)) <;> rfl
  · rw [if_pos h, if_pos h, if_pos h]

theorem askK_chk {c many : Int} {ns : List Int} {i : Nat} (h : askK c many ns i = 0) : c = 0 := by
  unfold askK at h
  by_cases h0 : c = 0
  · exact h0
  · rw [if_pos h0] at h; exact h

theorem same_yes {α : Type} {L : List α} {f : α → Int} {z : Int} (h : 0 < L.length) (hs : ∀ k (hk : k < L.length), f L[k] = f L[0]) : sameL z (L.map f) = f L[0] := by
  cases L with
  | nil => simp at h
  | cons a l =>
    simp only [List.map_cons, sameL]
    rw [if_pos]
    · rfl
    · rw [List.all_eq_true]
      intro x hx
      obtain ⟨y, hy, rfl⟩ := List.mem_map.1 hx
      obtain ⟨k, hk, rfl⟩ := List.mem_iff_getElem.1 hy
      have := hs (k + 1) (by simpa using hk)
      simpa using this
theorem same_no {α : Type} {L : List α} {f : α → Int} {z : Int} {k : Nat} (h : 0 < L.length) (hk : k < L.length) (hs : f L[k] ≠ f L[0]) : sameL z (L.map f) = z := by
  cases L with
  | nil => simp at h
  | cons a l =>
    simp only [List.map_cons, sameL]
    rw [if_neg]
    intro ha
    rw [List.all_eq_true] at ha
    cases k with
    | zero => exact hs rfl
    | succ k =>
      have hk' : k < l.length := by simpa using hk
      have := ha (f l[k]) (List.mem_map_of_mem (List.getElem_mem hk'))
      exact hs (by simpa using this)

theorem headD_zero {α : Type} {L : List α} {d : α} (h : 0 < L.length) : L.headD d = L[0] := by
  cases L with
  | nil => simp at h
  | cons a l => rfl

theorem op86 : Opens PR 86 := ⟨_, Tryd.func86, rfl, rfl⟩
theorem op87 : Opens PR 87 := ⟨_, Tryd.func87, rfl, rfl⟩

/-- What 'asked' returns. -/
def askedV (xs : List (ByteArray × Int)) (cs : List (ByteArray × List Int)) (many : Int) (ns : List Int) : AV S := .tup [ordsV (if askR xs cs many ns = 0 then agrL xs cs else []), vI (askR xs cs many ns)]

theorem askedV_no {xs : List (ByteArray × Int)} {cs : List (ByteArray × List Int)} {many : Int} {ns : List Int} (h : askR xs cs many ns ≠ 0) : askedV xs cs many ns = .tup [ordsV [], vI (askR xs cs many ns)] := by unfold askedV; rw [if_neg h]
theorem askedV_ok {xs : List (ByteArray × Int)} {cs : List (ByteArray × List Int)} {many : Int} {ns : List Int} (h : askR xs cs many ns = 0) : askedV xs cs many ns = .tup [ordsV (agrL xs cs), vI 0] := by unfold askedV; rw [if_pos h, h]

theorem c78 (gl : Gl) (xs : List (ByteArray × Int)) (cs : List (ByteArray × List Int)) (hN : LensN xs cs) (many : Int) (hm0 : 0 ≤ many) (hm1 : many ≤ 9223372036854775807) (ns : List Int) (hn : ns.length ≤ 9223372036854775807) : PCalls PR gl 78 [.agg [lociV xs, copsV cs], vI many, vL ns] fun r => r = askedV xs cs many ns := by
  have hw1 : IntKind.i64.wrap (many - 1) = many - 1 := wrap_int (by omega) (by omega)
  have hask := askR_K xs cs many ns
  refine fnW_sound (par_ok gl) Tryd.func78 ?_
  conv => whnf
  refine byC (c17 gl xs cs hN) op17 ?_
  conv => whnf
  refine ⟨⟨3086, [6], [6]⟩, ?_⟩
  refine LoopW_ind _ (fun s : Int × Nat => match s with | (e, i) => (({ tmps := [.undef, vI many, vL ns, .own 3 [], .undef, .undef, .undef, .undef, .undef, .undef, vI e, vI i, .undef, .undef, .undef, .undef, .undef, .undef, .undef, .undef, .undef, .undef, .undef, .undef, .undef, .undef, .undef, .undef, .undef, .undef, .undef, .undef, .undef, .undef, .undef, .undef, .undef, .undef, .undef, .undef, .undef, .undef, .undef, .undef, .undef, .undef], seg := [(3, .cells [lociV xs, copsV cs])], up := [] } : St S))) (fun s : Int × Nat => match s with | (e, i) => (i ≤ ns.length ∧ e = askK (chk xs cs).2.2 many ns i)) (fun s : Int × Nat => match s with | (e, i) => (ns.length - i)) () ?_ (_, 0) ⟨Nat.zero_le _, (askK_zero _ _ _).symm⟩
  rintro ⟨e, i⟩ hinv Z1 hZ1
  dsimp only at hinv hZ1
  obtain ⟨hi, he⟩ := hinv
  conv => whnf
  refine bcase_iff.2 ⟨fun g3_4 => ?_, fun g3_4 => ?_⟩
  · skip
    have hlt : i < ns.length := by have := of_decide_eq_true g3_4; omega
    have hw : IntKind.i64.wrap ((i : Int) + 1) = ((i + 1 : Nat) : Int) := wrap_nat (by omega)
    conv => whnf
    refine bcase_iff.2 ⟨fun h3 => ?_, fun h3 => ?_⟩
    · skip
      have h3 : e = 0 := beq_iff_eq.1 h3
      have hss := askK_succ hlt (he.symm.trans h3)
      conv => whnf
      refine ⟨_, getI_nat hlt, ?_⟩
      conv => whnf
      refine byC (c69 gl _ _ _) op69 ?_
      conv => whnf
      refine bcase_iff.2 ⟨fun h5 => ?_, fun h5 => ?_⟩
      · skip
        have h5 : (!inB ns[i] 0 (IntKind.i64.wrap (many - 1))) = true := h5
        rw [hw1] at h5
        rw [h5, if_pos rfl] at hss
        -- Z3:TTT
        conv => whnf
        refine ⟨⟨3086, [], []⟩, ?_⟩
        conv => whnf
        rw [hw]
        exact hZ1 (4, i + 1) ⟨hlt, hss.symm⟩ (by dsimp only; omega)
      · skip
        have h5 : (!inB ns[i] 0 (IntKind.i64.wrap (many - 1))) = false := h5
        rw [hw1] at h5
        rw [h5, if_neg (by simp)] at hss
        -- Z3:TTF
        conv => whnf
        refine ⟨⟨3086, [], []⟩, ?_⟩
        conv => whnf
        rw [hw]
        exact hZ1 (e, i + 1) ⟨hlt, h3.trans hss.symm⟩ (by dsimp only; omega)
    · skip
      have h3 : e ≠ 0 := beq_eq_false_iff_ne.1 h3
      have hfin : e = askK (chk xs cs).2.2 many ns ns.length := by rw [he, askK_fin (by rw [← he]; exact h3)]
      conv => whnf
      refine bcase_iff.2 ⟨fun h7 => ?_, fun h7 => ?_⟩
      · skip
        have h7 : e ≠ 0 := by have h7 : (e != 0) = true := h7; simpa using h7
        rw [← hfin, if_pos h7] at hask
        -- R:TFT
        conv => whnf
        rw [askedV_no (by rw [hask]; exact h7), hask]
      · skip
        have h7 : e = 0 := by have h7 : (e != 0) = false := h7; simpa using h7
        rw [← hfin, if_neg (fun h => h h7)] at hask
        have hv := chk_valid (askK_chk (hfin.symm.trans h7))
        conv => whnf
        refine byC (c118 gl hv) op118 ?_
        conv => whnf
        refine bcase_iff.2 ⟨fun h10 => ?_, fun h10 => ?_⟩
        · skip
          have h10 : (agrL xs cs).isEmpty = true := by cases hA : agrL xs cs with
            | nil => rfl
            | cons a l => rw [hA] at h10; have h10 : (((a :: l).length : Int) == 0) = true := h10; simp at h10; omega
          rw [h10, if_pos rfl] at hask
          -- R:TFFT
          conv => whnf
          rw [askedV_no (by rw [hask]; decide), hask]
        · skip
          have h10 : (agrL xs cs).isEmpty = false := by cases hA : agrL xs cs with
            | nil => rw [hA] at h10; cases h10
            | cons a l => rfl
          rw [h10, if_neg (by simp)] at hask
          -- R:TFFF
          conv => whnf
          rw [askedV_ok hask]
  · skip
    have hge : i = ns.length := by have := of_decide_eq_false g3_4; omega
    have hfin : e = askK (chk xs cs).2.2 many ns ns.length := by rw [he, hge]
    conv => whnf
    refine bcase_iff.2 ⟨fun h7 => ?_, fun h7 => ?_⟩
    · skip
      have h7 : e ≠ 0 := by have h7 : (e != 0) = true := h7; simpa using h7
      rw [← hfin, if_pos h7] at hask
      -- R:FT
      conv => whnf
      rw [askedV_no (by rw [hask]; exact h7), hask]
    · skip
      have h7 : e = 0 := by have h7 : (e != 0) = false := h7; simpa using h7
      rw [← hfin, if_neg (fun h => h h7)] at hask
      have hv := chk_valid (askK_chk (hfin.symm.trans h7))
      conv => whnf
      refine byC (c118 gl hv) op118 ?_
      conv => whnf
      refine bcase_iff.2 ⟨fun h10 => ?_, fun h10 => ?_⟩
      · skip
        have h10 : (agrL xs cs).isEmpty = true := by cases hA : agrL xs cs with
          | nil => rfl
          | cons a l => rw [hA] at h10; have h10 : (((a :: l).length : Int) == 0) = true := h10; simp at h10; omega
        rw [h10, if_pos rfl] at hask
        -- R:FFT
        conv => whnf
        rw [askedV_no (by rw [hask]; decide), hask]
      · skip
        have h10 : (agrL xs cs).isEmpty = false := by cases hA : agrL xs cs with
          | nil => rw [hA] at h10; cases h10
          | cons a l => rfl
        rw [h10, if_neg (by simp)] at hask
        -- R:FFF
        conv => whnf
        rw [askedV_ok hask]

theorem op78 : Opens PR 78 := ⟨_, Tryd.func78, rfl, rfl⟩

theorem c19 (gl : Gl) (xs : List (ByteArray × Int)) (cs : List (ByteArray × List Int)) (hN : LensN xs cs) (fs os : List Int) : PCalls PR gl 19 [.agg [lociV xs, copsV cs], .agg [vL fs, vL os]] fun r => r = lstV (oddS xs cs fs os) := by
  refine fnW_sound (par_ok gl) Tryd.func19 ?_
  conv => whnf
  refine byC (c17 gl xs cs hN) op17 ?_
  conv => whnf
  refine bcase_iff.2 ⟨fun h2 => ?_, fun h2 => ?_⟩
  · skip
    have h2 : (chk xs cs).2.2 = 0 := beq_iff_eq.1 h2
    have hv := chk_valid h2
    have hR : oddS xs cs fs os = if ordE xs fs os ≠ 0 then ([], ordE xs fs os) else (natsV (amidL cs (fs, os)), 0) := by unfold oddS; rw [if_neg (fun h => h h2)]
    conv => whnf
    refine byC (c53 gl xs cs fs os hv.l1 hv.l5) op53 ?_
    conv => whnf
    refine bcase_iff.2 ⟨fun h4 => ?_, fun h4 => ?_⟩
    · skip
      have h4 : ordE xs fs os ≠ 0 := by have h4 : (ordE xs fs os != 0) = true := h4; simpa using h4
      rw [if_pos h4] at hR
      -- R:TT
      conv => whnf
      rw [hR]
    · skip
      have h4 : ordE xs fs os = 0 := by have h4 : (ordE xs fs os != 0) = false := h4; simpa using h4
      rw [if_neg (fun h => h h4)] at hR
      have ho := ord_is h4
      have hok : OkO xs.length (fs, os) := ⟨by have := congrArg List.length ho.fsE; rwa [bitsF_len] at this, by have := ho.perm.len; simpa using this, fun v hvv => by rw [ho.fsE] at hvv; simp only [bitsF, List.mem_map] at hvv; obtain ⟨j, _, rfl⟩ := hvv; split <;> omega, hv.l5⟩
      conv => whnf
      refine byC (c74 gl hv (fs, os) hok) op74 ?_
      -- R:TF
      conv => whnf
      rw [hR]
  · skip
    have h2 : (chk xs cs).2.2 ≠ 0 := beq_eq_false_iff_ne.1 h2
    conv => whnf
    refine bcase_iff.2 ⟨fun h4 => ?_, fun h4 => ?_⟩
    · skip
      -- R:FT
      conv => whnf
      unfold oddS
      rw [if_pos h2]
    · skip
      exfalso
      have h4 : ((chk xs cs).2.2 != 0) = false := h4
      exact h2 (by simpa using h4) --done

theorem op19 : Opens PR 19 := ⟨_, Tryd.func19, rfl, rfl⟩

theorem c22 (gl : Gl) (xs : List (ByteArray × Int)) (cs : List (ByteArray × List Int)) (hN : LensN xs cs) : PCalls PR gl 22 [.agg [lociV xs, copsV cs]] fun r => r = fstV (firstS xs cs) := by
  refine fnW_sound (par_ok gl) Tryd.func22 ?_
  conv => whnf
  refine byC (c78 gl xs cs hN 0 (by omega) (by omega) [] (by simp)) op78 ?_
  rcases Classical.em (askR xs cs 0 [] = 0) with hk | hk
  · skip
    rw [askedV_ok hk]
    obtain ⟨hv, hns, hne⟩ := ask_valid hk
    have h5 := hv.l5
    have hc8 := hv.c8
    have hLl : (agrL xs cs).length ≤ 100000 := Nat.le_trans (List.length_filter_le _ _) (allL_len h5)
    have hLo : ∀ o ∈ agrL xs cs, OkO xs.length o := fun o ho => allL_ok h5 (List.mem_filter.1 ho).1
    have hL0 : 0 < (agrL xs cs).length := List.length_pos_iff.2 hne
    conv => whnf
    refine ⟨_, getI_zero hL0, ?_⟩
    -- R:a
    conv => whnf
    unfold firstS
    rw [if_neg (fun h => h hk)]
    rw [headD_zero hL0]
  · skip
    rw [askedV_no hk]
    conv => whnf
    refine bcase_iff.2 ⟨fun h2 => ?_, fun h2 => ?_⟩
    · skip
      -- R:bT
      conv => whnf
      unfold firstS
      rw [if_pos hk]
    · skip
      exfalso
      have h2 : (askR xs cs 0 [] != 0) = false := h2
      exact hk (by simpa using h2) --done

theorem op22 : Opens PR 22 := ⟨_, Tryd.func22, rfl, rfl⟩

theorem c28 (gl : Gl) (xs : List (ByteArray × Int)) (cs : List (ByteArray × List Int)) (hN : LensN xs cs) (j : Int) : PCalls PR gl 28 [.agg [lociV xs, copsV cs], vI j] fun r => r = intV (readS xs cs j) := by
  have hx := hN.x
  refine fnW_sound (par_ok gl) Tryd.func28 ?_
  conv => whnf
  refine ⟨_, rfl, ?_⟩
  conv => whnf
  refine byC (c78 gl xs cs hN xs.length (by omega) (by omega) [j] (by simp)) op78 ?_
  rcases Classical.em (askR xs cs xs.length [j] = 0) with hk | hk
  · skip
    rw [askedV_ok hk]
    obtain ⟨hv, hns, hne⟩ := ask_valid hk
    have h5 := hv.l5
    have hc8 := hv.c8
    have hLl : (agrL xs cs).length ≤ 100000 := Nat.le_trans (List.length_filter_le _ _) (allL_len h5)
    have hLo : ∀ o ∈ agrL xs cs, OkO xs.length o := fun o ho => allL_ok h5 (List.mem_filter.1 ho).1
    have hL0 : 0 < (agrL xs cs).length := List.length_pos_iff.2 hne
    obtain ⟨hj0, hj1⟩ := hns j (by simp)
    have hR : readS xs cs j = (sameL 0 ((agrL xs cs).map fun o => o.1.getD j.toNat 0), 0) := by unfold readS; rw [if_neg (fun h => h hk)]
    generalize agrL xs cs = L at hLl hLo hL0 hne hR ⊢
    obtain ⟨j, rfl⟩ : ∃ k : Nat, j = k := ⟨j.toNat, by omega⟩
    rw [Int.toNat_natCast] at hR
    have hol : ∀ i (hi : i < L.length), L[i].1.length = xs.length := fun i hi => (hLo _ (List.getElem_mem hi)).l
    conv => whnf
    refine ⟨⟨322, [2, 15], []⟩, ?_⟩
    refine LoopW_ind _ (fun i : Nat => (({ tmps := [.undef, vI j, .undef, .undef, .undef, .undef, ordsV L, .undef, vI i, .undef, .undef, .undef, .undef, .undef, .undef, .undef, .undef, .undef, .undef, .undef, .undef, .undef, .undef, .undef, .undef, .undef, .undef, .undef, .undef, .undef, .undef, .undef, .undef, .undef, .undef, .undef, .undef, .undef, .undef, .undef, .undef, .undef, .undef, .undef, .undef, .undef, .undef, .undef, .undef, .undef, .undef], seg := [], up := [] } : St S))) (fun i : Nat => (i ≤ L.length ∧ ∀ k, k < i → (L.getD k ([], [])).1.getD j 0 = (L.getD 0 ([], [])).1.getD j 0)) (fun i : Nat => (L.length - i)) () ?_ 0 ⟨Nat.zero_le _, fun k h => absurd h (by omega)⟩
    intro i hinv Z1 hZ1
    obtain ⟨hi, hs⟩ := hinv
    conv => whnf
    refine bcase_iff.2 ⟨fun h5 => ?_, fun h5 => ?_⟩
    · skip
      have hlt : i < L.length := by have := of_decide_eq_true h5; omega
      have hw : IntKind.i64.wrap ((i : Int) + 1) = ((i + 1 : Nat) : Int) := wrap_nat (by omega)
      conv => whnf
      refine ⟨[0, 1, 2, 3, 4, 5, 6, 7, 8, 9, 10, 11, 12, 13, 14, 15], [], [], [], ⟨2251799813685247, [], []⟩, by decide +kernel, ?_⟩
      conv => whnf
      refine ⟨_, getI_nat hlt, ?_⟩
      conv => whnf
      refine ⟨_, getI_nat (show j < L[i].1.length by rw [hol i hlt]; omega), ?_⟩
      conv => whnf
      refine ⟨_, getI_zero hL0, ?_⟩
      conv => whnf
      refine ⟨_, getI_nat (show j < L[0].1.length by rw [hol 0 hL0]; omega), ?_⟩
      conv => whnf
      refine bcase_iff.2 ⟨fun h7 => ?_, fun h7 => ?_⟩
      · skip
        have hji : j < L[i].1.length := by rw [hol i hlt]; omega
        have hj00 : j < L[0].1.length := by rw [hol 0 hL0]; omega
        have h7 : L[i].1[j] ≠ L[0].1[j] := by have h7 : (L[i].1[j] != L[0].1[j]) = true := h7; simpa using h7
        -- R:aTT
        conv => whnf
        rw [hR, same_no hL0 hlt (by rw [getD_e hji, getD_e hj00]; exact h7)]
      · skip
        have hji : j < L[i].1.length := by rw [hol i hlt]; omega
        have hj00 : j < L[0].1.length := by rw [hol 0 hL0]; omega
        have h7 : L[i].1[j] = L[0].1[j] := by have h7 : (L[i].1[j] != L[0].1[j]) = false := h7; simpa using h7
        -- Z5:TF
        conv => whnf
        refine ⟨⟨322, [], []⟩, ?_⟩
        conv => whnf
        rw [hw]
        exact hZ1 (i + 1) ⟨hlt, up_succ hs (by rw [getD_e hlt, getD_e hL0, getD_e hji, getD_e hj00]; exact h7)⟩ (by omega)
    · skip
      have hge : i = L.length := by have := of_decide_eq_false h5; omega
      conv => whnf
      refine ⟨_, getI_zero hL0, ?_⟩
      conv => whnf
      refine ⟨_, getI_nat (show j < L[0].1.length by rw [hol 0 hL0]; omega), ?_⟩
      -- R:aF
      conv => whnf
      rw [hR, same_yes hL0 fun k hk => ?_]
      · show _ = intV (L[0].1.getD j 0, 0)
        rw [getD_e (show j < L[0].1.length by rw [hol 0 hL0]; omega)]
      · have := hs k (by omega)
        rwa [getD_e hk, getD_e hL0] at this
  · skip
    rw [askedV_no hk]
    conv => whnf
    refine bcase_iff.2 ⟨fun h2 => ?_, fun h2 => ?_⟩
    · skip
      -- R:bT
      conv => whnf
      unfold readS
      rw [if_pos hk]
    · skip
      exfalso
      have h2 : (askR xs cs xs.length [j] != 0) = false := h2
      exact hk (by simpa using h2) --done

theorem op28 : Opens PR 28 := ⟨_, Tryd.func28, rfl, rfl⟩

theorem c30 (gl : Gl) (xs : List (ByteArray × Int)) (cs : List (ByteArray × List Int)) (hN : LensN xs cs) (a b : Int) : PCalls PR gl 30 [.agg [lociV xs, copsV cs], vI a, vI b] fun r => r = intV (befS xs cs a b) := by
  have hx := hN.x
  have hw1 : IntKind.i64.wrap ((xs.length : Int) - 1) = (xs.length : Int) - 1 := wrap_int (by omega) (by omega)
  refine fnW_sound (par_ok gl) Tryd.func30 ?_
  conv => whnf
  refine byC (c17 gl xs cs hN) op17 ?_
  conv => whnf
  refine bcase_iff.2 ⟨fun g2_2 => ?_, fun g2_2 => ?_⟩
  · skip
    have hc : (chk xs cs).2.2 = 0 := beq_iff_eq.1 g2_2
    conv => whnf
    refine byC (c69 gl _ _ _) op69 ?_
    conv => whnf
    refine bcase_iff.2 ⟨fun g2_10 => ?_, fun g2_10 => ?_⟩
    · skip
      have hin : inB a 0 (IntKind.i64.wrap ((xs.length : Int) - 1)) = true := g2_10
      rw [hw1] at hin
      conv => whnf
      refine bcase_iff.2 ⟨fun h2 => ?_, fun h2 => ?_⟩
      · skip
        have h2 : a = b := beq_iff_eq.1 h2
        -- R:TTT
        conv => whnf
        unfold befS
        rw [if_pos ⟨hc, hin, h2⟩]
      · skip
        have h2 : a ≠ b := beq_eq_false_iff_ne.1 h2
        have hB : ¬ ((chk xs cs).2.2 = 0 ∧ inB a 0 ((xs.length : Int) - 1) = true ∧ a = b) := fun h => h2 h.2.2
        conv => whnf
        refine ⟨_, rfl, ?_⟩
        conv => whnf
        refine ⟨_, rfl, ?_⟩
        conv => whnf
        refine byC (c78 gl xs cs hN xs.length (by omega) (by omega) [a, b] (by simp)) op78 ?_
        rcases Classical.em (askR xs cs xs.length [a, b] = 0) with hk | hk
        · skip
          rw [askedV_ok hk]
          obtain ⟨hv, hns, hne⟩ := ask_valid hk
          have h5 := hv.l5
          have hc8 := hv.c8
          have hLl : (agrL xs cs).length ≤ 100000 := Nat.le_trans (List.length_filter_le _ _) (allL_len h5)
          have hLo : ∀ o ∈ agrL xs cs, OkO xs.length o := fun o ho => allL_ok h5 (List.mem_filter.1 ho).1
          have hL0 : 0 < (agrL xs cs).length := List.length_pos_iff.2 hne
          have hR : befS xs cs a b = (verd ((befN xs cs a b : Int) == (agrL xs cs).length) (((agrL xs cs).length : Int) - befN xs cs a b == (agrL xs cs).length), 0) := by unfold befS; rw [if_neg hB, if_neg (fun h => h hk)]
          unfold befN at hR
          generalize agrL xs cs = L at hLl hLo hL0 hne hR ⊢
          conv => whnf
          refine ⟨⟨14342, [3, 42], []⟩, ?_⟩
          refine LoopW_ind _ (fun i : Nat => (({ tmps := [.undef, vI a, vI b, .undef, .undef, .undef, .undef, .undef, .undef, .undef, .undef, ordsV L, vI ((L.take i).filter fun o => decide (plc o.2 a < plc o.2 b)).length, vI i, .undef, .undef, .undef, .undef, .undef, .undef, .undef, .undef, .undef, .undef, .undef, .undef, .undef, .undef, .undef, .undef, .undef, .undef, .undef, .undef, .undef, .undef, .undef, .undef, .undef, .undef, .undef, .undef, .undef, .undef, .undef, .undef, .undef, .undef, .undef, .undef, .undef, .undef, .undef, .undef, .undef, .undef, .undef, .undef, .undef, .undef, .undef, .undef, .undef, .undef, .undef, .undef, .undef, .undef, .undef, .undef, .undef, .undef, .undef, .undef, .undef, .undef, .undef, .undef, .undef, .undef], seg := [], up := [] } : St S))) (fun i : Nat => (i ≤ L.length)) (fun i : Nat => (L.length - i)) () ?_ 0 (Nat.zero_le _)
          intro i hi Z1 hZ1
          conv => whnf
          refine bcase_iff.2 ⟨fun h9 => ?_, fun h9 => ?_⟩
          · skip
            have hlt : i < L.length := by have := of_decide_eq_true h9; omega
            have hw : IntKind.i64.wrap ((i : Int) + 1) = ((i + 1 : Nat) : Int) := wrap_nat (by omega)
            conv => whnf
            refine ⟨[0, 1, 2, 3, 4, 5, 7, 8, 9, 10, 11, 12, 6, 13, 14], [], [], [], ⟨1208925819614629174706175, [], []⟩, by decide +kernel, ?_⟩
            conv => whnf
            refine ⟨_, getI_nat hlt, ?_⟩
            conv => whnf
            refine ⟨_, getI_nat hlt, ?_⟩
            conv => whnf
            refine byC (c85 gl L[i].2 (by have := (hLo _ (List.getElem_mem hlt)).m; omega) a) op85 ?_
            conv => whnf
            refine byC (c85 gl L[i].2 (by have := (hLo _ (List.getElem_mem hlt)).m; omega) b) op85 ?_
            conv => whnf
            refine bcase_iff.2 ⟨fun h11 => ?_, fun h11 => ?_⟩
            · skip
              have hs := ft_T (p := fun o : List Int × List Int => decide (plc o.2 a < plc o.2 b)) hlt (decide_eq_true (by have := of_decide_eq_true h11; omega))
              have hln := ft_len (fun o : List Int × List Int => decide (plc o.2 a < plc o.2 b)) L i
              have hw2 : IntKind.i64.wrap (((((L.take i).filter fun o => decide (plc o.2 a < plc o.2 b)).length : Nat) : Int) + 1) = ((((L.take (i + 1)).filter fun o => decide (plc o.2 a < plc o.2 b)).length : Nat) : Int) := by rw [hs, List.length_append]; exact wrap_nat (by omega)
              -- Z9:TT
              conv => whnf
              refine ⟨⟨14342, [], []⟩, ?_⟩
              conv => whnf
              rw [hw, hw2]
              exact hZ1 (i + 1) hlt (by omega)
            · skip
              have hs := ft_F (p := fun o : List Int × List Int => decide (plc o.2 a < plc o.2 b)) hlt (decide_eq_false (by have := of_decide_eq_false h11; omega))
              -- Z9:TF
              conv => whnf
              refine ⟨⟨14342, [], []⟩, ?_⟩
              conv => whnf
              rw [hw, ← hs]
              exact hZ1 (i + 1) hlt (by omega)
          · skip
            have hge : i = L.length := by have := of_decide_eq_false h9; omega
            conv => whnf
            have hln := ft_len (fun o : List Int × List Int => decide (plc o.2 a < plc o.2 b)) L i
            conv => whnf
            refine byC (c86 gl _ _ _) op86 ?_
            -- R:TTFaF
            conv => whnf
            rw [hge, List.take_length] at hln ⊢
            rw [hR, wrap_int (n := (L.length : Int) - _) (by omega) (by omega)]
        · skip
          rw [askedV_no hk]
          conv => whnf
          refine bcase_iff.2 ⟨fun h5 => ?_, fun h5 => ?_⟩
          · skip
            -- R:TTFbT
            conv => whnf
            unfold befS
            rw [if_neg hB, if_pos hk]
          · skip
            exfalso
            have h5 : (askR xs cs xs.length [a, b] != 0) = false := h5
            exact hk (by simpa using h5) --done
    · skip
      have hin : inB a 0 (IntKind.i64.wrap ((xs.length : Int) - 1)) = false := g2_10
      rw [hw1] at hin
      have hB : ¬ ((chk xs cs).2.2 = 0 ∧ inB a 0 ((xs.length : Int) - 1) = true ∧ a = b) := fun h => by rw [hin] at h; cases h.2.1
      conv => whnf
      refine ⟨_, rfl, ?_⟩
      conv => whnf
      refine ⟨_, rfl, ?_⟩
      conv => whnf
      refine byC (c78 gl xs cs hN xs.length (by omega) (by omega) [a, b] (by simp)) op78 ?_
      rcases Classical.em (askR xs cs xs.length [a, b] = 0) with hk | hk
      · skip
        rw [askedV_ok hk]
        obtain ⟨hv, hns, hne⟩ := ask_valid hk
        have h5 := hv.l5
        have hc8 := hv.c8
        have hLl : (agrL xs cs).length ≤ 100000 := Nat.le_trans (List.length_filter_le _ _) (allL_len h5)
        have hLo : ∀ o ∈ agrL xs cs, OkO xs.length o := fun o ho => allL_ok h5 (List.mem_filter.1 ho).1
        have hL0 : 0 < (agrL xs cs).length := List.length_pos_iff.2 hne
        have hR : befS xs cs a b = (verd ((befN xs cs a b : Int) == (agrL xs cs).length) (((agrL xs cs).length : Int) - befN xs cs a b == (agrL xs cs).length), 0) := by unfold befS; rw [if_neg hB, if_neg (fun h => h hk)]
        unfold befN at hR
        generalize agrL xs cs = L at hLl hLo hL0 hne hR ⊢
        conv => whnf
        refine ⟨⟨14342, [3, 42], []⟩, ?_⟩
        refine LoopW_ind _ (fun i : Nat => (({ tmps := [.undef, vI a, vI b, .undef, .undef, .undef, .undef, .undef, .undef, .undef, .undef, ordsV L, vI ((L.take i).filter fun o => decide (plc o.2 a < plc o.2 b)).length, vI i, .undef, .undef, .undef, .undef, .undef, .undef, .undef, .undef, .undef, .undef, .undef, .undef, .undef, .undef, .undef, .undef, .undef, .undef, .undef, .undef, .undef, .undef, .undef, .undef, .undef, .undef, .undef, .undef, .undef, .undef, .undef, .undef, .undef, .undef, .undef, .undef, .undef, .undef, .undef, .undef, .undef, .undef, .undef, .undef, .undef, .undef, .undef, .undef, .undef, .undef, .undef, .undef, .undef, .undef, .undef, .undef, .undef, .undef, .undef, .undef, .undef, .undef, .undef, .undef, .undef, .undef], seg := [], up := [] } : St S))) (fun i : Nat => (i ≤ L.length)) (fun i : Nat => (L.length - i)) () ?_ 0 (Nat.zero_le _)
        intro i hi Z1 hZ1
        conv => whnf
        refine bcase_iff.2 ⟨fun h9 => ?_, fun h9 => ?_⟩
        · skip
          have hlt : i < L.length := by have := of_decide_eq_true h9; omega
          have hw : IntKind.i64.wrap ((i : Int) + 1) = ((i + 1 : Nat) : Int) := wrap_nat (by omega)
          conv => whnf
          refine ⟨[0, 1, 2, 3, 4, 5, 7, 8, 9, 10, 11, 12, 6, 13, 14], [], [], [], ⟨1208925819614629174706175, [], []⟩, by decide +kernel, ?_⟩
          conv => whnf
          refine ⟨_, getI_nat hlt, ?_⟩
          conv => whnf
          refine ⟨_, getI_nat hlt, ?_⟩
          conv => whnf
          refine byC (c85 gl L[i].2 (by have := (hLo _ (List.getElem_mem hlt)).m; omega) a) op85 ?_
          conv => whnf
          refine byC (c85 gl L[i].2 (by have := (hLo _ (List.getElem_mem hlt)).m; omega) b) op85 ?_
          conv => whnf
          refine bcase_iff.2 ⟨fun h11 => ?_, fun h11 => ?_⟩
          · skip
            have hs := ft_T (p := fun o : List Int × List Int => decide (plc o.2 a < plc o.2 b)) hlt (decide_eq_true (by have := of_decide_eq_true h11; omega))
            have hln := ft_len (fun o : List Int × List Int => decide (plc o.2 a < plc o.2 b)) L i
            have hw2 : IntKind.i64.wrap (((((L.take i).filter fun o => decide (plc o.2 a < plc o.2 b)).length : Nat) : Int) + 1) = ((((L.take (i + 1)).filter fun o => decide (plc o.2 a < plc o.2 b)).length : Nat) : Int) := by rw [hs, List.length_append]; exact wrap_nat (by omega)
            -- Z9:TT
            conv => whnf
            refine ⟨⟨14342, [], []⟩, ?_⟩
            conv => whnf
            rw [hw, hw2]
            exact hZ1 (i + 1) hlt (by omega)
          · skip
            have hs := ft_F (p := fun o : List Int × List Int => decide (plc o.2 a < plc o.2 b)) hlt (decide_eq_false (by have := of_decide_eq_false h11; omega))
            -- Z9:TF
            conv => whnf
            refine ⟨⟨14342, [], []⟩, ?_⟩
            conv => whnf
            rw [hw, ← hs]
            exact hZ1 (i + 1) hlt (by omega)
        · skip
          have hge : i = L.length := by have := of_decide_eq_false h9; omega
          conv => whnf
          have hln := ft_len (fun o : List Int × List Int => decide (plc o.2 a < plc o.2 b)) L i
          conv => whnf
          refine byC (c86 gl _ _ _) op86 ?_
          -- R:TFaF
          conv => whnf
          rw [hge, List.take_length] at hln ⊢
          rw [hR, wrap_int (n := (L.length : Int) - _) (by omega) (by omega)]
      · skip
        rw [askedV_no hk]
        conv => whnf
        refine bcase_iff.2 ⟨fun h5 => ?_, fun h5 => ?_⟩
        · skip
          -- R:TFbT
          conv => whnf
          unfold befS
          rw [if_neg hB, if_pos hk]
        · skip
          exfalso
          have h5 : (askR xs cs xs.length [a, b] != 0) = false := h5
          exact hk (by simpa using h5) --done
  · skip
    have hc : (chk xs cs).2.2 ≠ 0 := beq_eq_false_iff_ne.1 g2_2
    have hB : ¬ ((chk xs cs).2.2 = 0 ∧ inB a 0 ((xs.length : Int) - 1) = true ∧ a = b) := fun h => hc h.1
    conv => whnf
    refine ⟨_, rfl, ?_⟩
    conv => whnf
    refine ⟨_, rfl, ?_⟩
    conv => whnf
    refine byC (c78 gl xs cs hN xs.length (by omega) (by omega) [a, b] (by simp)) op78 ?_
    rcases Classical.em (askR xs cs xs.length [a, b] = 0) with hk | hk
    · skip
      rw [askedV_ok hk]
      obtain ⟨hv, hns, hne⟩ := ask_valid hk
      have h5 := hv.l5
      have hc8 := hv.c8
      have hLl : (agrL xs cs).length ≤ 100000 := Nat.le_trans (List.length_filter_le _ _) (allL_len h5)
      have hLo : ∀ o ∈ agrL xs cs, OkO xs.length o := fun o ho => allL_ok h5 (List.mem_filter.1 ho).1
      have hL0 : 0 < (agrL xs cs).length := List.length_pos_iff.2 hne
      have hR : befS xs cs a b = (verd ((befN xs cs a b : Int) == (agrL xs cs).length) (((agrL xs cs).length : Int) - befN xs cs a b == (agrL xs cs).length), 0) := by unfold befS; rw [if_neg hB, if_neg (fun h => h hk)]
      unfold befN at hR
      generalize agrL xs cs = L at hLl hLo hL0 hne hR ⊢
      conv => whnf
      refine ⟨⟨14342, [3, 42], []⟩, ?_⟩
      refine LoopW_ind _ (fun i : Nat => (({ tmps := [.undef, vI a, vI b, .undef, .undef, .undef, .undef, .undef, .undef, .undef, .undef, ordsV L, vI ((L.take i).filter fun o => decide (plc o.2 a < plc o.2 b)).length, vI i, .undef, .undef, .undef, .undef, .undef, .undef, .undef, .undef, .undef, .undef, .undef, .undef, .undef, .undef, .undef, .undef, .undef, .undef, .undef, .undef, .undef, .undef, .undef, .undef, .undef, .undef, .undef, .undef, .undef, .undef, .undef, .undef, .undef, .undef, .undef, .undef, .undef, .undef, .undef, .undef, .undef, .undef, .undef, .undef, .undef, .undef, .undef, .undef, .undef, .undef, .undef, .undef, .undef, .undef, .undef, .undef, .undef, .undef, .undef, .undef, .undef, .undef, .undef, .undef, .undef, .undef], seg := [], up := [] } : St S))) (fun i : Nat => (i ≤ L.length)) (fun i : Nat => (L.length - i)) () ?_ 0 (Nat.zero_le _)
      intro i hi Z1 hZ1
      conv => whnf
      refine bcase_iff.2 ⟨fun h9 => ?_, fun h9 => ?_⟩
      · skip
        have hlt : i < L.length := by have := of_decide_eq_true h9; omega
        have hw : IntKind.i64.wrap ((i : Int) + 1) = ((i + 1 : Nat) : Int) := wrap_nat (by omega)
        conv => whnf
        refine ⟨[0, 1, 2, 3, 4, 5, 7, 8, 9, 10, 11, 12, 6, 13, 14], [], [], [], ⟨1208925819614629174706175, [], []⟩, by decide +kernel, ?_⟩
        conv => whnf
        refine ⟨_, getI_nat hlt, ?_⟩
        conv => whnf
        refine ⟨_, getI_nat hlt, ?_⟩
        conv => whnf
        refine byC (c85 gl L[i].2 (by have := (hLo _ (List.getElem_mem hlt)).m; omega) a) op85 ?_
        conv => whnf
        refine byC (c85 gl L[i].2 (by have := (hLo _ (List.getElem_mem hlt)).m; omega) b) op85 ?_
        conv => whnf
        refine bcase_iff.2 ⟨fun h11 => ?_, fun h11 => ?_⟩
        · skip
          have hs := ft_T (p := fun o : List Int × List Int => decide (plc o.2 a < plc o.2 b)) hlt (decide_eq_true (by have := of_decide_eq_true h11; omega))
          have hln := ft_len (fun o : List Int × List Int => decide (plc o.2 a < plc o.2 b)) L i
          have hw2 : IntKind.i64.wrap (((((L.take i).filter fun o => decide (plc o.2 a < plc o.2 b)).length : Nat) : Int) + 1) = ((((L.take (i + 1)).filter fun o => decide (plc o.2 a < plc o.2 b)).length : Nat) : Int) := by rw [hs, List.length_append]; exact wrap_nat (by omega)
          -- Z9:TT
          conv => whnf
          refine ⟨⟨14342, [], []⟩, ?_⟩
          conv => whnf
          rw [hw, hw2]
          exact hZ1 (i + 1) hlt (by omega)
        · skip
          have hs := ft_F (p := fun o : List Int × List Int => decide (plc o.2 a < plc o.2 b)) hlt (decide_eq_false (by have := of_decide_eq_false h11; omega))
          -- Z9:TF
          conv => whnf
          refine ⟨⟨14342, [], []⟩, ?_⟩
          conv => whnf
          rw [hw, ← hs]
          exact hZ1 (i + 1) hlt (by omega)
      · skip
        have hge : i = L.length := by have := of_decide_eq_false h9; omega
        conv => whnf
        have hln := ft_len (fun o : List Int × List Int => decide (plc o.2 a < plc o.2 b)) L i
        conv => whnf
        refine byC (c86 gl _ _ _) op86 ?_
        -- R:FaF
        conv => whnf
        rw [hge, List.take_length] at hln ⊢
        rw [hR, wrap_int (n := (L.length : Int) - _) (by omega) (by omega)]
    · skip
      rw [askedV_no hk]
      conv => whnf
      refine bcase_iff.2 ⟨fun h5 => ?_, fun h5 => ?_⟩
      · skip
        -- R:FbT
        conv => whnf
        unfold befS
        rw [if_neg hB, if_pos hk]
      · skip
        exfalso
        have h5 : (askR xs cs xs.length [a, b] != 0) = false := h5
        exact hk (by simpa using h5) --done

theorem op30 : Opens PR 30 := ⟨_, Tryd.func30, rfl, rfl⟩

end Go.Ab.StF

namespace Go.Ab.StF
open Go Go.Ab Go.Proofs
set_option maxHeartbeats 1000000
set_option maxRecDepth 100000

theorem c87L (gl : Gl) (l : List Nat) (hne : l ≠ []) (hl : l.length ≤ 9223372036854775807) : PCalls PR gl 87 [vL (natsV l)] fun r => r = .agg [vI (l.headD 0 : Nat), vI (l.getLastD 0 : Nat)] := by
  cases l with
  | nil => exact absurd rfl hne
  | cons a l =>
    have := c87 gl (a : Int) (natsV l) (by simp at hl ⊢; omega)
    refine this.mono fun r hr => ?_
    rw [hr]
    have e : ((a : Int) :: natsV l).getLast (by simp) = (((a :: l).getLastD 0 : Nat) : Int) := by
      have : ((a : Int) :: natsV l) = natsV (a :: l) := rfl
      simp only [this]
      simp only [natsV, List.getLast_map]
      rw [List.getLastD_eq_getLast?, List.getLast?_eq_some_getLast (by simp)]
      rfl
    rw [e]
    rfl

theorem stp_len {ss : List Int} {n : Nat} {o : List Int × List Int} (ho : OkO n o) : (stpL ss o.1 o.2).length ≤ 9223372036854775807 := by
  have h1 := ho.m
  have h2 := ho.n5
  refine Nat.le_trans (List.length_filter_le _ _) ?_
  simp; omega

/-- The least and the greatest number of corrections, of the first orders. -/
def aftU (cs : List (ByteArray × List Int)) (a : Nat) (L : List (List Int × List Int)) : Nat → Nat × Nat
  | 0 => (0, 0)
  | 1 => endsS cs a (L.getD 0 ([], []))
  | i + 2 => (min (aftU cs a L (i + 1)).1 (endsS cs a (L.getD (i + 1) ([], []))).1, max (aftU cs a L (i + 1)).2 (endsS cs a (L.getD (i + 1) ([], []))).2)

theorem aftU_succ (cs : List (ByteArray × List Int)) (a : Nat) (L : List (List Int × List Int)) {i : Nat} (h : 1 ≤ i) :
    aftU cs a L (i + 1) = (min (aftU cs a L i).1 (endsS cs a (L.getD i ([], []))).1, max (aftU cs a L i).2 (endsS cs a (L.getD i ([], []))).2) := by
  obtain ⟨k, rfl⟩ : ∃ k, i = k + 1 := ⟨i - 1, by omega⟩
  rfl

theorem aftU_all (cs : List (ByteArray × List Int)) (a : Nat) {L : List (List Int × List Int)} (h : 0 < L.length) :
    (L.map (endsS cs a)).tail.foldl (fun s e => (min s.1 e.1, max s.2 e.2)) ((L.map (endsS cs a)).headD (0, 0)) = aftU cs a L L.length := by
  cases L with
  | nil => simp at h
  | cons o l =>
    simp only [List.map_cons, List.tail_cons, List.headD_cons]
    have : ∀ (i : Nat), i ≤ l.length → ((l.map (endsS cs a)).take i).foldl (fun s e => (min s.1 e.1, max s.2 e.2)) (endsS cs a o) = aftU cs a (o :: l) (i + 1) := fun i => by
      induction i with
      | zero => intro _; rfl
      | succ i ih =>
        intro hi
        have hi' : i < (l.map (endsS cs a)).length := by simp; omega
        rw [take_succ' hi', List.foldl_append, ih (by omega), aftU_succ cs a (o :: l) (i := i + 1) (by omega)]
        simp only [List.foldl_cons, List.foldl_nil, List.getElem_map]
        have e : (o :: l).getD (i + 1) ([], []) = l[i]'(by omega) := by
          simp [List.getD_eq_getElem?_getD, show i < l.length by omega]
        rw [e]
    have := this l.length (Nat.le_refl _)
    rw [List.take_of_length_le (by simp)] at this
    rw [this]
    rfl

theorem ends_at {xs : List (ByteArray × Int)} {cs : List (ByteArray × List Int)} {a : Nat} (ha : a < cs.length) (o : List Int × List Int) :
    endsS cs a o = ((stpL cs[a].2 o.1 o.2).headD 0, (stpL cs[a].2 o.1 o.2).getLastD 0) := by unfold endsS; rw [showsOf_eq ha]

theorem min_i (a b : Nat) : (if (b : Int) < (a : Int) then (b : Int) else a) = ((min a b : Nat) : Int) := by split <;> omega
theorem max_i (a b : Nat) : (if (b : Int) > (a : Int) then (b : Int) else a) = ((max a b : Nat) : Int) := by split <;> omega

theorem c32 (gl : Gl) (xs : List (ByteArray × Int)) (cs : List (ByteArray × List Int)) (hN : LensN xs cs) (a : Int) : PCalls PR gl 32 [.agg [lociV xs, copsV cs], vI a] fun r => r = spanV (aftS xs cs a) := by
  have hc := hN.c
  refine fnW_sound (par_ok gl) Tryd.func32 ?_
  conv => whnf
  refine ⟨_, rfl, ?_⟩
  conv => whnf
  refine byC (c78 gl xs cs hN cs.length (by omega) (by omega) [a] (by simp)) op78 ?_
  rcases Classical.em (askR xs cs cs.length [a] = 0) with hk | hk
  · skip
    rw [askedV_ok hk]
    obtain ⟨hv, hns, hne⟩ := ask_valid hk
    have h5 := hv.l5
    have hc8 := hv.c8
    have hLl : (agrL xs cs).length ≤ 100000 := Nat.le_trans (List.length_filter_le _ _) (allL_len h5)
    have hLo : ∀ o ∈ agrL xs cs, OkO xs.length o := fun o ho => allL_ok h5 (List.mem_filter.1 ho).1
    have hL0 : 0 < (agrL xs cs).length := List.length_pos_iff.2 hne
    obtain ⟨ha0, ha1⟩ := hns a (by simp)
    have hR : aftS xs cs a = (let s := ((agrL xs cs).map (endsS cs a.toNat)).tail.foldl (fun s e => (min s.1 e.1, max s.2 e.2)) (((agrL xs cs).map (endsS cs a.toNat)).headD (0, 0)); ((((s.1 : Nat) : Int), ((s.2 : Nat) : Int)), (0 : Int))) := by unfold aftS; rw [if_neg (fun h => h hk)]
    rw [aftU_all cs a.toNat hL0] at hR
    have hst : ∀ o ∈ agrL xs cs, ∀ i, i < cs.length → stpL (showsOf cs i) o.1 o.2 ≠ [] := fun o ho i hi => agr_ok ho hi
    generalize agrL xs cs = L at hLl hLo hL0 hne hR hst ⊢
    obtain ⟨a, rfl⟩ : ∃ k : Nat, a = k := ⟨a.toNat, by omega⟩
    rw [Int.toNat_natCast] at hR
    have ha : a < cs.length := by omega
    have hcl := hv.len _ (List.getElem_mem ha)
    conv => whnf
    refine ⟨[0, 1, 2, 3, 4, 5, 6, 7, 8, 9, 10, 11], [10], [], [], ⟨18446744073709551615, [], []⟩, by decide +kernel, ?_⟩
    conv => whnf
    refine ⟨_, getI_nat ha, ?_⟩
    conv => whnf
    refine ⟨_, getI_zero hL0, ?_⟩
    conv => whnf
    refine byC (c88 gl cs[a].1 cs[a].2 L[0] (hLo _ (List.getElem_mem hL0)) hcl) op88 ?_
    conv => whnf
    refine byC (c87L gl (stpL cs[a].2 L[0].1 L[0].2) (by have := hst _ (List.getElem_mem hL0) a ha; rwa [showsOf_eq ha] at this) (stp_len (hLo _ (List.getElem_mem hL0)))) op87 ?_
    conv => whnf
    have he0 := ends_at (xs := xs) ha L[0]
    refine ⟨⟨854, [17], []⟩, ?_⟩
    refine LoopW_ind _ (fun s : Nat × Nat × Nat => match s with | (i, s) => (({ tmps := [.undef, vI a, .own 2 [], .undef, .own 4 [], .undef, ordsV L, .undef, .own 8 [], vI i, .undef, .undef, .undef, .undef, .undef, .undef, .undef, .undef, .undef, .undef, .undef, .undef, .undef, .undef, .undef, .undef, .undef, .undef, .undef, .undef, .undef, .undef, .undef, .undef, .undef, .undef, .undef, .undef, .undef, .undef, .undef, .undef, .undef, .undef, .undef, .undef, .undef, .undef, .undef, .undef, .undef, .undef, .undef, .undef, .undef, .undef, .undef, .undef, .undef, .undef, .undef, .undef, .undef, .undef], seg := [(2, .cells [lociV xs, copsV cs]), (4, .cells [vI 0, vI 0]), (8, .cells [vI s.1, vI s.2])], up := [] } : St S))) (fun s : Nat × Nat × Nat => match s with | (i, s) => (1 ≤ i ∧ i ≤ L.length ∧ s = aftU cs a L i)) (fun s : Nat × Nat × Nat => match s with | (i, s) => (L.length - i)) () ?_ (1, ((stpL cs[a].2 L[0].1 L[0].2).headD 0, (stpL cs[a].2 L[0].1 L[0].2).getLastD 0)) ⟨Nat.le_refl _, hL0, by show _ = endsS cs a (L.getD 0 ([], [])); rw [getD_e hL0, he0]⟩
    rintro ⟨i, s⟩ hinv Z1 hZ1
    dsimp only at hinv hZ1
    obtain ⟨hi1, hi, hs⟩ := hinv
    conv => whnf
    refine bcase_iff.2 ⟨fun h6 => ?_, fun h6 => ?_⟩
    · skip
      have hlt : i < L.length := by have := of_decide_eq_true h6; omega
      have hw : IntKind.i64.wrap ((i : Int) + 1) = ((i + 1 : Nat) : Int) := wrap_nat (by omega)
      conv => whnf
      refine ⟨[0, 1, 2, 3, 4, 5, 6, 7, 8, 9, 10, 11, 12], [11], [], [], ⟨18446744073709551615, [], []⟩, by decide +kernel, ?_⟩
      conv => whnf
      refine ⟨_, getI_nat ha, ?_⟩
      conv => whnf
      refine ⟨_, getI_nat hlt, ?_⟩
      conv => whnf
      refine byC (c88 gl cs[a].1 cs[a].2 L[i] (hLo _ (List.getElem_mem hlt)) hcl) op88 ?_
      conv => whnf
      refine byC (c87L gl (stpL cs[a].2 L[i].1 L[i].2) (by have := hst _ (List.getElem_mem hlt) a ha; rwa [showsOf_eq ha] at this) (stp_len (hLo _ (List.getElem_mem hlt)))) op87 ?_
      -- Z6:T
      conv => whnf
      refine ⟨⟨854, [10, 1010, 2010, 3010, 4010], []⟩, ?_⟩
      conv => whnf
      have hss := aftU_succ cs a L hi1
      rw [getD_e hlt, ← hs, ends_at (xs := xs) ha] at hss
      rw [hw, min_i, max_i]
      exact hZ1 (i + 1, _) ⟨by omega, hlt, hss.symm⟩ (by dsimp only; omega)
    · skip
      have hge : i = L.length := by have := of_decide_eq_false h6; omega
      -- R:aF
      conv => whnf
      rw [hR, hs, hge]
  · skip
    rw [askedV_no hk]
    conv => whnf
    refine bcase_iff.2 ⟨fun h2 => ?_, fun h2 => ?_⟩
    · skip
      -- R:bT
      conv => whnf
      unfold aftS
      rw [if_pos hk]
    · skip
      exfalso
      have h2 : (askR xs cs cs.length [a] != 0) = false := h2
      exact hk (by simpa using h2) --done

theorem op32 : Opens PR 32 := ⟨_, Tryd.func32, rfl, rfl⟩

theorem c34 (gl : Gl) (xs : List (ByteArray × Int)) (cs : List (ByteArray × List Int)) (hN : LensN xs cs) (a b : Int) : PCalls PR gl 34 [.agg [lociV xs, copsV cs], vI a, vI b] fun r => r = intV (earS xs cs a b) := by
  have hc := hN.c
  refine fnW_sound (par_ok gl) Tryd.func34 ?_
  conv => whnf
  refine ⟨_, rfl, ?_⟩
  conv => whnf
  refine ⟨_, rfl, ?_⟩
  conv => whnf
  refine byC (c78 gl xs cs hN cs.length (by omega) (by omega) [a, b] (by simp)) op78 ?_
  rcases Classical.em (askR xs cs cs.length [a, b] = 0) with hk | hk
  · skip
    rw [askedV_ok hk]
    obtain ⟨hv, hns, hne⟩ := ask_valid hk
    have h5 := hv.l5
    have hc8 := hv.c8
    have hLl : (agrL xs cs).length ≤ 100000 := Nat.le_trans (List.length_filter_le _ _) (allL_len h5)
    have hLo : ∀ o ∈ agrL xs cs, OkO xs.length o := fun o ho => allL_ok h5 (List.mem_filter.1 ho).1
    have hL0 : 0 < (agrL xs cs).length := List.length_pos_iff.2 hne
    obtain ⟨ha0, ha1⟩ := hns a (by simp)
    obtain ⟨hb0, hb1⟩ := hns b (by simp)
    have hR : earS xs cs a b = (verd ((earN xs cs a b : Int) == (agrL xs cs).length) ((earN xs cs b a : Int) == (agrL xs cs).length), 0) := by unfold earS; rw [if_neg (fun h => h hk)]
    unfold earN at hR
    have hst : ∀ o ∈ agrL xs cs, ∀ i, i < cs.length → stpL (showsOf cs i) o.1 o.2 ≠ [] := fun o ho i hi => agr_ok ho hi
    generalize agrL xs cs = L at hLl hLo hL0 hne hR hst ⊢
    obtain ⟨a, rfl⟩ : ∃ k : Nat, a = k := ⟨a.toNat, by omega⟩
    obtain ⟨b, rfl⟩ : ∃ k : Nat, b = k := ⟨b.toNat, by omega⟩
    rw [Int.toNat_natCast, Int.toNat_natCast] at hR
    have ha : a < cs.length := by omega
    have hcl := hv.len _ (List.getElem_mem ha)
    have hb : b < cs.length := by omega
    have hdl := hv.len _ (List.getElem_mem hb)
    conv => whnf
    refine ⟨⟨7438, [22], []⟩, ?_⟩
    refine LoopW_ind _ (fun i : Nat => (({ tmps := [.undef, vI a, vI b, .own 3 [], .undef, .undef, .undef, .undef, ordsV L, .undef, vI ((L.take i).filter fun o => decide ((endsS cs a o).2 < (endsS cs b o).1)).length, vI ((L.take i).filter fun o => decide ((endsS cs b o).2 < (endsS cs a o).1)).length, vI i, .undef, .undef, .undef, .undef, .undef, .undef, .undef, .undef, .undef, .undef, .undef, .undef, .undef, .undef, .undef, .undef, .undef, .undef, .undef, .undef, .undef, .undef, .undef, .undef, .undef, .undef, .undef, .undef, .undef, .undef, .undef, .undef, .undef, .undef, .undef, .undef, .undef, .undef, .undef, .undef, .undef, .undef, .undef, .undef, .undef, .undef, .undef, .undef, .undef, .undef, .undef, .undef, .undef, .undef, .undef, .undef, .undef, .undef, .undef, .undef, .undef, .undef, .undef], seg := [(3, .cells [lociV xs, copsV cs])], up := [] } : St S))) (fun i : Nat => (i ≤ L.length)) (fun i : Nat => (L.length - i)) () ?_ 0 (Nat.zero_le _)
    intro i hi Z1 hZ1
    conv => whnf
    refine bcase_iff.2 ⟨fun h6 => ?_, fun h6 => ?_⟩
    · skip
      have hlt : i < L.length := by have := of_decide_eq_true h6; omega
      have hw : IntKind.i64.wrap ((i : Int) + 1) = ((i + 1 : Nat) : Int) := wrap_nat (by omega)
      conv => whnf
      refine ⟨[0, 1, 2, 3, 4, 5, 6, 7, 8, 11, 12, 13, 14, 15, 16, 17, 18, 19, 9, 10, 20, 21, 22, 23, 24, 25], [22, 23], [], [], ⟨75557863725914323419135, [], []⟩, by decide +kernel, ?_⟩
      conv => whnf
      refine ⟨_, getI_nat ha, ?_⟩
      conv => whnf
      refine ⟨_, getI_nat hlt, ?_⟩
      conv => whnf
      refine ⟨_, getI_nat hb, ?_⟩
      conv => whnf
      refine ⟨_, getI_nat hlt, ?_⟩
      conv => whnf
      refine byC (c88 gl cs[a].1 cs[a].2 L[i] (hLo _ (List.getElem_mem hlt)) hcl) op88 ?_
      conv => whnf
      refine byC (c87L gl (stpL cs[a].2 L[i].1 L[i].2) (by have := hst _ (List.getElem_mem hlt) a ha; rwa [showsOf_eq ha] at this) (stp_len (hLo _ (List.getElem_mem hlt)))) op87 ?_
      conv => whnf
      refine byC (c88 gl cs[b].1 cs[b].2 L[i] (hLo _ (List.getElem_mem hlt)) hdl) op88 ?_
      conv => whnf
      refine byC (c87L gl (stpL cs[b].2 L[i].1 L[i].2) (by have := hst _ (List.getElem_mem hlt) b hb; rwa [showsOf_eq hb] at this) (stp_len (hLo _ (List.getElem_mem hlt)))) op87 ?_
      conv => whnf
      refine bcase_iff.2 ⟨fun h9 => ?_, fun h9 => ?_⟩
      · skip
        have hsa := ft_T (p := fun o : List Int × List Int => decide ((endsS cs a o).2 < (endsS cs b o).1)) hlt (decide_eq_true (by rw [ends_at (xs := xs) ha, ends_at (xs := xs) hb]; have := of_decide_eq_true h9; omega))
        have hlna := ft_len (fun o : List Int × List Int => decide ((endsS cs a o).2 < (endsS cs b o).1)) L i
        have hwa : IntKind.i64.wrap (((((L.take i).filter fun o => decide ((endsS cs a o).2 < (endsS cs b o).1)).length : Nat) : Int) + 1) = ((((L.take (i + 1)).filter fun o => decide ((endsS cs a o).2 < (endsS cs b o).1)).length : Nat) : Int) := by rw [hsa, List.length_append]; exact wrap_nat (by omega)
        conv => whnf
        refine bcase_iff.2 ⟨fun h11 => ?_, fun h11 => ?_⟩
        · skip
          have hsb := ft_T (p := fun o : List Int × List Int => decide ((endsS cs b o).2 < (endsS cs a o).1)) hlt (decide_eq_true (by rw [ends_at (xs := xs) ha, ends_at (xs := xs) hb]; have := of_decide_eq_true h11; omega))
          have hlnb := ft_len (fun o : List Int × List Int => decide ((endsS cs b o).2 < (endsS cs a o).1)) L i
          have hwb : IntKind.i64.wrap (((((L.take i).filter fun o => decide ((endsS cs b o).2 < (endsS cs a o).1)).length : Nat) : Int) + 1) = ((((L.take (i + 1)).filter fun o => decide ((endsS cs b o).2 < (endsS cs a o).1)).length : Nat) : Int) := by rw [hsb, List.length_append]; exact wrap_nat (by omega)
          -- Z6:TTT
          conv => whnf
          refine ⟨⟨7438, [13, 14, 1013, 1014, 2013, 2014, 3013, 3014, 4013, 4014], []⟩, ?_⟩
          conv => whnf
          rw [hw, hwa, hwb]
          exact hZ1 (i + 1) hlt (by omega)
        · skip
          have hsb := ft_F (p := fun o : List Int × List Int => decide ((endsS cs b o).2 < (endsS cs a o).1)) hlt (decide_eq_false (by rw [ends_at (xs := xs) ha, ends_at (xs := xs) hb]; have := of_decide_eq_false h11; omega))
          -- Z6:TTF
          conv => whnf
          refine ⟨⟨7438, [13, 14, 1013, 1014, 2013, 2014, 3013, 3014, 4013, 4014], []⟩, ?_⟩
          conv => whnf
          rw [hw, hwa, ← hsb]
          exact hZ1 (i + 1) hlt (by omega)
      · skip
        have hsa := ft_F (p := fun o : List Int × List Int => decide ((endsS cs a o).2 < (endsS cs b o).1)) hlt (decide_eq_false (by rw [ends_at (xs := xs) ha, ends_at (xs := xs) hb]; have := of_decide_eq_false h9; omega))
        conv => whnf
        refine bcase_iff.2 ⟨fun h11 => ?_, fun h11 => ?_⟩
        · skip
          have hsb := ft_T (p := fun o : List Int × List Int => decide ((endsS cs b o).2 < (endsS cs a o).1)) hlt (decide_eq_true (by rw [ends_at (xs := xs) ha, ends_at (xs := xs) hb]; have := of_decide_eq_true h11; omega))
          have hlnb := ft_len (fun o : List Int × List Int => decide ((endsS cs b o).2 < (endsS cs a o).1)) L i
          have hwb : IntKind.i64.wrap (((((L.take i).filter fun o => decide ((endsS cs b o).2 < (endsS cs a o).1)).length : Nat) : Int) + 1) = ((((L.take (i + 1)).filter fun o => decide ((endsS cs b o).2 < (endsS cs a o).1)).length : Nat) : Int) := by rw [hsb, List.length_append]; exact wrap_nat (by omega)
          -- Z6:TFT
          conv => whnf
          refine ⟨⟨7438, [13, 14, 1013, 1014, 2013, 2014, 3013, 3014, 4013, 4014], []⟩, ?_⟩
          conv => whnf
          rw [hw, ← hsa, hwb]
          exact hZ1 (i + 1) hlt (by omega)
        · skip
          have hsb := ft_F (p := fun o : List Int × List Int => decide ((endsS cs b o).2 < (endsS cs a o).1)) hlt (decide_eq_false (by rw [ends_at (xs := xs) ha, ends_at (xs := xs) hb]; have := of_decide_eq_false h11; omega))
          -- Z6:TFF
          conv => whnf
          refine ⟨⟨7438, [13, 14, 1013, 1014, 2013, 2014, 3013, 3014, 4013, 4014], []⟩, ?_⟩
          conv => whnf
          rw [hw, ← hsa, ← hsb]
          exact hZ1 (i + 1) hlt (by omega)
    · skip
      have hge : i = L.length := by have := of_decide_eq_false h6; omega
      conv => whnf
      refine byC (c86 gl _ _ _) op86 ?_
      -- R:aF
      conv => whnf
      rw [hge, List.take_length]
      rw [hR]
  · skip
    rw [askedV_no hk]
    conv => whnf
    refine bcase_iff.2 ⟨fun h2 => ?_, fun h2 => ?_⟩
    · skip
      -- R:bT
      conv => whnf
      unfold earS
      rw [if_pos hk]
    · skip
      exfalso
      have h2 : (askR xs cs cs.length [a, b] != 0) = false := h2
      exact hk (by simpa using h2) --done

theorem op34 : Opens PR 34 := ⟨_, Tryd.func34, rfl, rfl⟩

end Go.Ab.StF
