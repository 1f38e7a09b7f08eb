/-
  THE STATE FAMILY, PART ND: functions of the reference: Check, asked, Odd.
  THE STATE FAMILY, PART NE: functions of the reference: what is asked of a forme.
-/
import Derived.Test.YtmhbchljhnfahaaDoorRefA
namespace Go.Ab.StF
open Go Go.Ab Go.Proofs
set_option maxHeartbeats 1000000
set_option maxRecDepth 100000

/-- How long things are. -/
structure LensN (xs : List (ByteArray × Int)) (cs : List (ByteArray × List Int)) : Prop extends Lens xs cs where
  nx : ∀ x ∈ xs, x.1.size ≤ 9223372036854775807
  nc : ∀ x ∈ cs, x.1.size ≤ 9223372036854775807

def eL (pre : List (ByteArray × Int)) (x : ByteArray × Int) : Int := if freE x.1 (pre.map Prod.fst) ≠ 0 then freE x.1 (pre.map Prod.fst) else if !inB x.2 0 2 then 7 else 0
def e0C (n : Nat) (pre : List (ByteArray × List Int)) (x : ByteArray × List Int) : Int := if freE x.1 (pre.map Prod.fst) ≠ 0 then freE x.1 (pre.map Prod.fst) else if (x.2.length : Int) != n then 3 else 0
def eK (n : Nat) (pre : List (ByteArray × List Int)) (x : ByteArray × List Int) (k : Nat) : Int := if e0C n pre x ≠ 0 then e0C n pre x else if (x.2.take k).any (outB 0 2) then 7 else 0

theorem eK_zero (n : Nat) (pre : List (ByteArray × List Int)) (x : ByteArray × List Int) : eK n pre x 0 = e0C n pre x := by
  unfold eK
  by_cases h : e0C n pre x = 0
  · rw [if_neg (by simpa using h), h]; rfl
  · rw [if_pos h]

theorem freE_if {α : Type} (w : ByteArray) (pre : List (ByteArray × α)) : freE w (pre.map Prod.fst) = if !nameB w then 6 else if pre.any (fun p => strEq p.1 w) then 5 else 0 := by
  unfold freE; rw [List.any_map]; rfl

theorem chkL_cons (pre : List (ByteArray × Int)) (x : ByteArray × Int) (l : List (ByteArray × Int)) (i : Nat) : chkL pre (x :: l) i = if eL pre x ≠ 0 then some ((i : Int), eL pre x) else chkL (pre ++ [x]) l (i + 1) := by
  have ho : [x.2].any (outB 0 2) = !inB x.2 0 2 := by simp [out_in]
  simp only [chkL, eL, freE_if, ho]
  cases nameB x.1
  · rfl
  · cases pre.any fun p => strEq p.1 x.1
    · cases inB x.2 0 2 <;> rfl
    · rfl

theorem chkC_cons (n : Nat) (pre : List (ByteArray × List Int)) (x : ByteArray × List Int) (l : List (ByteArray × List Int)) (i : Nat) :
    chkC n pre (x :: l) i = if eK n pre x x.2.length ≠ 0 then some ((i : Int), eK n pre x x.2.length) else chkC n (pre ++ [x]) l (i + 1) := by
  simp only [chkC, eK, e0C, freE_if, List.take_length]
  cases nameB x.1
  · rfl
  · cases pre.any fun p => strEq p.1 x.1
    · cases hl : (x.2.length : Int) != n
      · cases x.2.any (outB 0 2) <;> rfl
      · rfl
    · rfl

theorem any_take_all {α : Type} {p : α → Bool} {l : List α} {k : Nat} (h : (l.take k).any p = true) : l.any p = true := by
  rw [List.any_eq_true] at h ⊢
  obtain ⟨x, hx, hp⟩ := h
  exact ⟨x, List.mem_of_mem_take hx, hp⟩

theorem eK_fin {n : Nat} {pre : List (ByteArray × List Int)} {x : ByteArray × List Int} {k : Nat} (h : eK n pre x k ≠ 0) : eK n pre x k = eK n pre x x.2.length := by
  unfold eK at *
  by_cases h0 : e0C n pre x ≠ 0
  · rw [if_pos h0, if_pos h0]
  · rw [if_neg h0] at h
    rw [if_neg h0, if_neg h0, List.take_length]
    cases ha : (x.2.take k).any (outB 0 2) with
    | false => rw [ha] at h; exact absurd rfl h
    | true => rw [any_take_all ha]

theorem eK_succ {n : Nat} {pre : List (ByteArray × List Int)} {x : ByteArray × List Int} {k : Nat} (hk : k < x.2.length) (h : eK n pre x k = 0) : eK n pre x (k + 1) = if !inB x.2[k] 0 2 then 7 else 0 := by
  unfold eK at *
  by_cases h0 : e0C n pre x ≠ 0
  · rw [if_pos h0] at h; exact absurd h h0
  · rw [if_neg h0] at h
    have ha : (x.2.take k).any (outB 0 2) = false := by
      cases ha : (x.2.take k).any (outB 0 2) with
      | false => rfl
      | true => rw [ha] at h; cases h
    rw [if_neg h0, take_succ' hk, List.any_append, ha, Bool.false_or]
    simp only [List.any_cons, List.any_nil, Bool.or_false, out_in]

theorem chk_F {xs : List (ByteArray × Int)} {cs : List (ByteArray × List Int)} (h : [(xs.length : Int)].any (outB 1 5) = false) : chk xs cs = match chkL [] xs 0 with
    | some (i, e) => (1, i, e)
    | none => if [(cs.length : Int)].any (outB 1 8) then (2, 0, 3) else match chkC xs.length [] cs 0 with
      | some (i, e) => (2, i, e)
      | none => (0, 0, 0) := by unfold chk; rw [if_neg (by rw [h]; simp)]; rfl

theorem in_out1 (lo hi x : Int) : [x].any (outB lo hi) = !inB x lo hi := by simp [out_in]

theorem c17 (gl : Gl) (xs : List (ByteArray × Int)) (cs : List (ByteArray × List Int)) (hN : LensN xs cs) : PCalls PR gl 17 [.agg [lociV xs, copsV cs]] fun r => r = tup3 (chk xs cs) := by
  refine fnW_sound (par_ok gl) Tryd.func17 ?_
  conv => whnf
  refine byC (c69 gl _ _ _) op69 ?_
  conv => whnf
  refine bcase_iff.2 ⟨fun h1 => ?_, fun h1 => ?_⟩
  · skip
    have h1 : (!inB (xs.length : Int) 1 5) = true := h1
    -- R:T
    conv => whnf
    unfold chk
    rw [if_pos (by rw [in_out1, h1])]
    rfl
  · skip
    have h1 : (!inB (xs.length : Int) 1 5) = false := h1
    have hx5 : xs.length ≤ 5 := by simp [inB] at h1; omega
    have hk := chk_F (cs := cs) (by rw [in_out1, h1])
    conv => whnf
    refine loop_q fun Q1 hQ1 => ?_
    refine ⟨⟨98, [], [5]⟩, ?_⟩
    refine LoopW_ind _ (fun i : Nat => (({ tmps := [.undef, .own 1 [], .undef, .undef, .undef, .sl (S := S) U.str ((xs.take i).map Prod.fst) (some 5), vI i, .undef, .undef, .undef, .undef, .undef, .undef, .undef, .undef, .undef, .undef, .undef, .undef, .undef, .undef, .undef, .undef, .undef, .undef, .undef, .undef, .undef, .undef, .undef, .undef, .undef, .undef, .undef, .undef, .undef, .undef, .undef, .undef, .undef, .undef, .undef, .undef, .undef, .undef, .undef, .undef, .undef, .undef, .undef, .undef, .undef, .undef, .undef, .undef, .undef, .undef, .undef, .undef, .undef, .undef, .undef, .undef, .undef, .undef, .undef, .undef, .undef, .undef, .undef, .undef, .undef, .undef, .undef, .undef, .undef, .undef, .undef, .undef, .undef, .undef, .undef, .undef, .undef, .undef, .undef, .undef, .undef, .undef, .undef, .undef, .undef, .undef, .undef, .undef, .undef, .undef, .undef, .undef, .undef, .undef, .undef, .undef, .undef, .undef, .undef, .undef, .undef, .undef, .undef, .undef, .undef, .undef, .undef, .undef, .undef], seg := [(1, .cells [lociV xs, copsV cs]), (5, .row U.str false)], up := [] } : St S))) (fun i : Nat => (i ≤ xs.length ∧ chkL (xs.take i) (xs.drop i) i = chkL [] xs 0)) (fun i : Nat => (xs.length - i)) () ?_ 0 ⟨Nat.zero_le _, rfl⟩
    intro i hinv Z1 hZ1
    obtain ⟨hi, h2⟩ := hinv
    conv => whnf
    refine bcase_iff.2 ⟨fun h5 => ?_, fun h5 => ?_⟩
    · skip
      have hlt : i < xs.length := by have := of_decide_eq_true h5; omega
      have hw : IntKind.i64.wrap ((i : Int) + 1) = ((i + 1 : Nat) : Int) := wrap_nat (by omega)
      rw [List.drop_eq_getElem_cons hlt, chkL_cons] at h2
      have hnl : ((xs.take i).map Prod.fst).length ≤ 100 := by simp; omega
      conv => whnf
      refine ⟨_, getI_nat hlt, ?_⟩
      conv => whnf
      refine byC (c70 gl xs[i].1 (hN.nx _ (List.getElem_mem hlt)) ((xs.take i).map Prod.fst) (by omega)) op70 ?_
      conv => whnf
      refine bcase_iff.2 ⟨fun g8_2 => ?_, fun g8_2 => ?_⟩
      · skip
        have hf : freE xs[i].1 ((xs.take i).map Prod.fst) = 0 := beq_iff_eq.1 g8_2
        have he : eL (xs.take i) xs[i] = if !inB xs[i].2 0 2 then 7 else 0 := by unfold eL; rw [if_neg (fun h => h hf)]
        conv => whnf
        refine ⟨_, getI_nat hlt, ?_⟩
        conv => whnf
        refine byC (c69 gl _ _ _) op69 ?_
        conv => whnf
        refine bcase_iff.2 ⟨fun h8 => ?_, fun h8 => ?_⟩
        · skip
          have h8 : (!inB xs[i].2 0 2) = true := h8
          rw [h8, if_pos rfl] at he
          rw [he, if_pos (by decide)] at h2
          conv => whnf
          refine (hQ1 _ _ _).mpr ?_
          -- R:FTTT
          conv => whnf
          rw [hk, ← h2]
          rfl
        · skip
          have h8 : (!inB xs[i].2 0 2) = false := h8
          rw [h8, if_neg (by simp)] at he
          rw [he, if_neg (by simp), ← take_succ' hlt] at h2
          conv => whnf
          refine bcase_iff.2 ⟨fun h10 => ?_, fun h10 => ?_⟩
          · skip
            exfalso
            have h10 : (freE xs[i].1 ((xs.take i).map Prod.fst) != 0) = true := h10
            rw [hf] at h10
            cases h10 --done
          · skip
            conv => whnf
            refine ⟨_, getI_nat hlt, ?_⟩
            conv => whnf
            refine ⟨_, rfl, ?_⟩
            conv => whnf
            refine ⟨lim (by show ((xs.take i).map Prod.fst).length + 1 ≤ _; omega), ?_⟩
            -- Z5:TTFF
            conv => whnf
            refine ⟨⟨98, [55, 56], []⟩, ?_⟩
            conv => whnf
            have hs : (xs.take (i + 1)).map Prod.fst = (xs.take i).map Prod.fst ++ [xs[i].1] := by rw [take_succ' hlt, List.map_append]; rfl
            have := hZ1 (i + 1) ⟨hlt, h2⟩ (by omega)
            rw [hs] at this
            rw [hw]
            exact this
      · skip
        have hf : freE xs[i].1 ((xs.take i).map Prod.fst) ≠ 0 := beq_eq_false_iff_ne.1 g8_2
        have he : eL (xs.take i) xs[i] = freE xs[i].1 ((xs.take i).map Prod.fst) := by unfold eL; rw [if_pos hf]
        conv => whnf
        refine bcase_iff.2 ⟨fun h10 => ?_, fun h10 => ?_⟩
        · skip
          rw [he, if_pos hf] at h2
          conv => whnf
          refine (hQ1 _ _ _).mpr ?_
          -- R:FTFT
          conv => whnf
          rw [hk, ← h2]
          rfl
        · skip
          exfalso
          have h10 : (freE xs[i].1 ((xs.take i).map Prod.fst) != 0) = false := h10
          exact hf (by simpa using h10) --done
    · skip
      have hge : i = xs.length := by have := of_decide_eq_false h5; omega
      rw [List.drop_eq_nil_of_le (by omega), chkL] at h2
      rw [← h2] at hk
      simp only at hk
      conv => whnf
      refine (hQ1 _ _ _).mpr ?_
      conv => whnf
      refine byC (c69 gl _ _ _) op69 ?_
      conv => whnf
      refine bcase_iff.2 ⟨fun h13 => ?_, fun h13 => ?_⟩
      · skip
        have h13 : (!inB (cs.length : Int) 1 8) = true := h13
        rw [if_pos (by rw [in_out1, h13])] at hk
        -- R:FFT
        conv => whnf
        rw [hk]
        rfl
      · skip
        have h13 : (!inB (cs.length : Int) 1 8) = false := h13
        have hc8 : cs.length ≤ 8 := by simp [inB] at h13; omega
        rw [if_neg (by rw [in_out1, h13]; simp)] at hk
        conv => whnf
        refine loop_q fun Q2 hQ2 => ?_
        refine ⟨⟨290, [5], [900005]⟩, ?_⟩
        refine LoopW_ind _ (fun j : Nat => (({ tmps := [.undef, .own 1 [], .undef, .undef, .undef, .sl (S := S) U.str ((cs.take j).map Prod.fst) (some 900005), .undef, .undef, vI j, .undef, .undef, .undef, .undef, .undef, .undef, .undef, .undef, .undef, .undef, .undef, .undef, .undef, .undef, .undef, .undef, .undef, .undef, .undef, .undef, .undef, .undef, .undef, .undef, .undef, .undef, .undef, .undef, .undef, .undef, .undef, .undef, .undef, .undef, .undef, .undef, .undef, .undef, .undef, .undef, .undef, .undef, .undef, .undef, .undef, .undef, .undef, .undef, .undef, .undef, .undef, .undef, .undef, .undef, .undef, .undef, .undef, .undef, .undef, .undef, .undef, .undef, .undef, .undef, .undef, .undef, .undef, .undef, .undef, .undef, .undef, .undef, .undef, .undef, .undef, .undef, .undef, .undef, .undef, .undef, .undef, .undef, .undef, .undef, .undef, .undef, .undef, .undef, .undef, .undef, .undef, .undef, .undef, .undef, .undef, .undef, .undef, .undef, .undef, .undef, .undef, .undef, .undef, .undef, .undef, .undef, .undef], seg := [(1, .cells [lociV xs, copsV cs]), (900005, .row U.str false)], up := [] } : St S))) (fun j : Nat => (j ≤ cs.length ∧ chkC xs.length (cs.take j) (cs.drop j) j = chkC xs.length [] cs 0)) (fun j : Nat => (cs.length - j)) () ?_ 0 ⟨Nat.zero_le _, rfl⟩
        intro j hinv Z2 hZ2
        obtain ⟨hj, h3⟩ := hinv
        conv => whnf
        refine bcase_iff.2 ⟨fun h17 => ?_, fun h17 => ?_⟩
        · skip
          have hltc : j < cs.length := by have := of_decide_eq_true h17; omega
          have hwc : IntKind.i64.wrap ((j : Int) + 1) = ((j + 1 : Nat) : Int) := wrap_nat (by omega)
          rw [List.drop_eq_getElem_cons hltc, chkC_cons] at h3
          have hnl : ((cs.take j).map Prod.fst).length ≤ 100 := by simp; omega
          have hsl := hN.s _ (List.getElem_mem hltc)
          conv => whnf
          refine ⟨_, getI_nat hltc, ?_⟩
          conv => whnf
          refine byC (c70 gl cs[j].1 (hN.nc _ (List.getElem_mem hltc)) ((cs.take j).map Prod.fst) (by omega)) op70 ?_
          conv => whnf
          refine bcase_iff.2 ⟨fun g21_2 => ?_, fun g21_2 => ?_⟩
          · skip
            have hf : freE cs[j].1 ((cs.take j).map Prod.fst) = 0 := beq_iff_eq.1 g21_2
            have he : e0C xs.length (cs.take j) cs[j] = if (cs[j].2.length : Int) != xs.length then 3 else 0 := by unfold e0C; rw [if_neg (fun h => h hf)]
            conv => whnf
            refine bcase_iff.2 ⟨fun h21 => ?_, fun h21 => ?_⟩
            · skip
              have h21 : ((cs[j].2.length : Int) != xs.length) = true := h21
              have hE0 : (3 : Int) = e0C xs.length (cs.take j) cs[j] := by rw [he, h21]; rfl
              conv => whnf
              refine ⟨⟨3874, [2009], [2009]⟩, ?_⟩
              refine LoopW_ind _ (fun s : Int × Nat => match s with | (e, k) => (({ tmps := [.undef, .own 1 [], .undef, .undef, .undef, .sl (S := S) U.str ((cs.take j).map Prod.fst) (some 900005), .undef, .undef, vI j, .own 9 [], vI e, vI k, .undef, .undef, .undef, .undef, .undef, .undef, .undef, .undef, .undef, .undef, .undef, .undef, .undef, .undef, .undef, .undef, .undef, .undef, .undef, .undef, .undef, .undef, .undef, .undef, .undef, .undef, .undef, .undef, .undef, .undef, .undef, .undef, .undef, .undef, .undef, .undef, .undef, .undef, .undef, .undef, .undef, .undef, .undef, .undef, .undef, .undef, .undef, .undef, .undef, .undef, .undef, .undef, .undef, .undef, .undef, .undef, .undef, .undef, .undef, .undef, .undef, .undef, .undef, .undef, .undef, .undef, .undef, .undef, .undef, .undef, .undef, .undef, .undef, .undef, .undef, .undef, .undef, .undef, .undef, .undef, .undef, .undef, .undef, .undef, .undef, .undef, .undef, .undef, .undef, .undef, .undef, .undef, .undef, .undef, .undef, .undef, .undef, .undef, .undef, .undef, .undef, .undef, .undef, .undef], seg := [(1, .cells [lociV xs, copsV cs]), (9, .cells [.str cs[j].1, vL cs[j].2]), (900005, .row U.str false)], up := [] } : St S))) (fun s : Int × Nat => match s with | (e, k) => (k ≤ cs[j].2.length ∧ e = eK xs.length (cs.take j) cs[j] k)) (fun s : Int × Nat => match s with | (e, k) => (cs[j].2.length - k)) () ?_ (_, 0) ⟨Nat.zero_le _, hE0.trans (eK_zero _ _ _).symm⟩
              rintro ⟨e, k⟩ hinv Z3 hZ3
              dsimp only at hinv hZ3
              obtain ⟨hkl, hek⟩ := hinv
              conv => whnf
              refine bcase_iff.2 ⟨fun g24_5 => ?_, fun g24_5 => ?_⟩
              · skip
                have hltk : k < cs[j].2.length := by have := of_decide_eq_true g24_5; omega
                have hwk : IntKind.i64.wrap ((k : Int) + 1) = ((k + 1 : Nat) : Int) := wrap_nat (by omega)
                conv => whnf
                refine bcase_iff.2 ⟨fun h24 => ?_, fun h24 => ?_⟩
                · skip
                  have h24 : e = 0 := beq_iff_eq.1 h24
                  have hss := eK_succ hltk (hek.symm.trans h24)
                  conv => whnf
                  refine ⟨_, getI_nat hltk, ?_⟩
                  conv => whnf
                  refine byC (c69 gl _ _ _) op69 ?_
                  conv => whnf
                  refine bcase_iff.2 ⟨fun h26 => ?_, fun h26 => ?_⟩
                  · skip
                    have h26 : (!inB cs[j].2[k] 0 2) = true := h26
                    rw [h26, if_pos rfl] at hss
                    -- Z24:TTT
                    conv => whnf
                    refine ⟨⟨3874, [], []⟩, ?_⟩
                    conv => whnf
                    rw [hwk]
                    exact hZ3 (7, k + 1) ⟨hltk, hss.symm⟩ (by dsimp only; omega)
                  · skip
                    have h26 : (!inB cs[j].2[k] 0 2) = false := h26
                    rw [h26, if_neg (by simp)] at hss
                    -- Z24:TTF
                    conv => whnf
                    refine ⟨⟨3874, [], []⟩, ?_⟩
                    conv => whnf
                    rw [hwk]
                    exact hZ3 (e, k + 1) ⟨hltk, h24.trans hss.symm⟩ (by dsimp only; omega)
                · skip
                  have h24 : e ≠ 0 := beq_eq_false_iff_ne.1 h24
                  have hfin : e = eK xs.length (cs.take j) cs[j] cs[j].2.length := by rw [hek, eK_fin (by rw [← hek]; exact h24)]
                  conv => whnf
                  refine bcase_iff.2 ⟨fun h28 => ?_, fun h28 => ?_⟩
                  · skip
                    have h28 : e ≠ 0 := by have h28 : (e != 0) = true := h28; simpa using h28
                    rw [← hfin, if_pos h28] at h3
                    conv => whnf
                    refine (hQ2 _ _ _).mpr ?_
                    -- R:FFFTTTTFT
                    conv => whnf
                    rw [hk, ← h3]
                    rfl
                  · skip
                    have h28 : e = 0 := by have h28 : (e != 0) = false := h28; simpa using h28
                    rw [← hfin, if_neg (fun h => h h28), ← take_succ' hltc] at h3
                    conv => whnf
                    refine ⟨_, rfl, ?_⟩
                    conv => whnf
                    refine ⟨lim (by show ((cs.take j).map Prod.fst).length + 1 ≤ _; omega), ?_⟩
                    -- Z17:TTTTFF
                    conv => whnf
                    refine ⟨⟨290, [9, 114, 115, 1009, 2009, 3009, 4009], []⟩, ?_⟩
                    conv => whnf
                    have hs : (cs.take (j + 1)).map Prod.fst = (cs.take j).map Prod.fst ++ [cs[j].1] := by rw [take_succ' hltc, List.map_append]; rfl
                    have := hZ2 (j + 1) ⟨hltc, h3⟩ (by omega)
                    rw [hs] at this
                    rw [hwc]
                    exact this
              · skip
                have hgek : k = cs[j].2.length := by have := of_decide_eq_false g24_5; omega
                have hfin : e = eK xs.length (cs.take j) cs[j] cs[j].2.length := by rw [hek, hgek]
                conv => whnf
                refine bcase_iff.2 ⟨fun h28 => ?_, fun h28 => ?_⟩
                · skip
                  have h28 : e ≠ 0 := by have h28 : (e != 0) = true := h28; simpa using h28
                  rw [← hfin, if_pos h28] at h3
                  conv => whnf
                  refine (hQ2 _ _ _).mpr ?_
                  -- R:FFFTTTFT
                  conv => whnf
                  rw [hk, ← h3]
                  rfl
                · skip
                  have h28 : e = 0 := by have h28 : (e != 0) = false := h28; simpa using h28
                  rw [← hfin, if_neg (fun h => h h28), ← take_succ' hltc] at h3
                  conv => whnf
                  refine ⟨_, rfl, ?_⟩
                  conv => whnf
                  refine ⟨lim (by show ((cs.take j).map Prod.fst).length + 1 ≤ _; omega), ?_⟩
                  -- Z17:TTTFF
                  conv => whnf
                  refine ⟨⟨290, [9, 114, 115, 1009, 2009, 3009, 4009], []⟩, ?_⟩
                  conv => whnf
                  have hs : (cs.take (j + 1)).map Prod.fst = (cs.take j).map Prod.fst ++ [cs[j].1] := by rw [take_succ' hltc, List.map_append]; rfl
                  have := hZ2 (j + 1) ⟨hltc, h3⟩ (by omega)
                  rw [hs] at this
                  rw [hwc]
                  exact this
            · skip
              have h21 : ((cs[j].2.length : Int) != xs.length) = false := h21
              have hE0 : freE cs[j].1 ((cs.take j).map Prod.fst) = e0C xs.length (cs.take j) cs[j] := by rw [he, h21, hf]; rfl
              conv => whnf
              refine ⟨⟨3874, [2009], [2009]⟩, ?_⟩
              refine LoopW_ind _ (fun s : Int × Nat => match s with | (e, k) => (({ tmps := [.undef, .own 1 [], .undef, .undef, .undef, .sl (S := S) U.str ((cs.take j).map Prod.fst) (some 900005), .undef, .undef, vI j, .own 9 [], vI e, vI k, .undef, .undef, .undef, .undef, .undef, .undef, .undef, .undef, .undef, .undef, .undef, .undef, .undef, .undef, .undef, .undef, .undef, .undef, .undef, .undef, .undef, .undef, .undef, .undef, .undef, .undef, .undef, .undef, .undef, .undef, .undef, .undef, .undef, .undef, .undef, .undef, .undef, .undef, .undef, .undef, .undef, .undef, .undef, .undef, .undef, .undef, .undef, .undef, .undef, .undef, .undef, .undef, .undef, .undef, .undef, .undef, .undef, .undef, .undef, .undef, .undef, .undef, .undef, .undef, .undef, .undef, .undef, .undef, .undef, .undef, .undef, .undef, .undef, .undef, .undef, .undef, .undef, .undef, .undef, .undef, .undef, .undef, .undef, .undef, .undef, .undef, .undef, .undef, .undef, .undef, .undef, .undef, .undef, .undef, .undef, .undef, .undef, .undef, .undef, .undef, .undef, .undef, .undef, .undef], seg := [(1, .cells [lociV xs, copsV cs]), (9, .cells [.str cs[j].1, vL cs[j].2]), (900005, .row U.str false)], up := [] } : St S))) (fun s : Int × Nat => match s with | (e, k) => (k ≤ cs[j].2.length ∧ e = eK xs.length (cs.take j) cs[j] k)) (fun s : Int × Nat => match s with | (e, k) => (cs[j].2.length - k)) () ?_ (_, 0) ⟨Nat.zero_le _, hE0.trans (eK_zero _ _ _).symm⟩
              rintro ⟨e, k⟩ hinv Z3 hZ3
              dsimp only at hinv hZ3
              obtain ⟨hkl, hek⟩ := hinv
              conv => whnf
              refine bcase_iff.2 ⟨fun g24_5 => ?_, fun g24_5 => ?_⟩
              · skip
                have hltk : k < cs[j].2.length := by have := of_decide_eq_true g24_5; omega
                have hwk : IntKind.i64.wrap ((k : Int) + 1) = ((k + 1 : Nat) : Int) := wrap_nat (by omega)
                conv => whnf
                refine bcase_iff.2 ⟨fun h24 => ?_, fun h24 => ?_⟩
                · skip
                  have h24 : e = 0 := beq_iff_eq.1 h24
                  have hss := eK_succ hltk (hek.symm.trans h24)
                  conv => whnf
                  refine ⟨_, getI_nat hltk, ?_⟩
                  conv => whnf
                  refine byC (c69 gl _ _ _) op69 ?_
                  conv => whnf
                  refine bcase_iff.2 ⟨fun h26 => ?_, fun h26 => ?_⟩
                  · skip
                    have h26 : (!inB cs[j].2[k] 0 2) = true := h26
                    rw [h26, if_pos rfl] at hss
                    -- Z24:TTT
                    conv => whnf
                    refine ⟨⟨3874, [], []⟩, ?_⟩
                    conv => whnf
                    rw [hwk]
                    exact hZ3 (7, k + 1) ⟨hltk, hss.symm⟩ (by dsimp only; omega)
                  · skip
                    have h26 : (!inB cs[j].2[k] 0 2) = false := h26
                    rw [h26, if_neg (by simp)] at hss
                    -- Z24:TTF
                    conv => whnf
                    refine ⟨⟨3874, [], []⟩, ?_⟩
                    conv => whnf
                    rw [hwk]
                    exact hZ3 (e, k + 1) ⟨hltk, h24.trans hss.symm⟩ (by dsimp only; omega)
                · skip
                  have h24 : e ≠ 0 := beq_eq_false_iff_ne.1 h24
                  have hfin : e = eK xs.length (cs.take j) cs[j] cs[j].2.length := by rw [hek, eK_fin (by rw [← hek]; exact h24)]
                  conv => whnf
                  refine bcase_iff.2 ⟨fun h28 => ?_, fun h28 => ?_⟩
                  · skip
                    have h28 : e ≠ 0 := by have h28 : (e != 0) = true := h28; simpa using h28
                    rw [← hfin, if_pos h28] at h3
                    conv => whnf
                    refine (hQ2 _ _ _).mpr ?_
                    -- R:FFFTTFTFT
                    conv => whnf
                    rw [hk, ← h3]
                    rfl
                  · skip
                    have h28 : e = 0 := by have h28 : (e != 0) = false := h28; simpa using h28
                    rw [← hfin, if_neg (fun h => h h28), ← take_succ' hltc] at h3
                    conv => whnf
                    refine ⟨_, rfl, ?_⟩
                    conv => whnf
                    refine ⟨lim (by show ((cs.take j).map Prod.fst).length + 1 ≤ _; omega), ?_⟩
                    -- Z17:TTFTFF
                    conv => whnf
                    refine ⟨⟨290, [9, 114, 115, 1009, 2009, 3009, 4009], []⟩, ?_⟩
                    conv => whnf
                    have hs : (cs.take (j + 1)).map Prod.fst = (cs.take j).map Prod.fst ++ [cs[j].1] := by rw [take_succ' hltc, List.map_append]; rfl
                    have := hZ2 (j + 1) ⟨hltc, h3⟩ (by omega)
                    rw [hs] at this
                    rw [hwc]
                    exact this
              · skip
                have hgek : k = cs[j].2.length := by have := of_decide_eq_false g24_5; omega
                have hfin : e = eK xs.length (cs.take j) cs[j] cs[j].2.length := by rw [hek, hgek]
                conv => whnf
                refine bcase_iff.2 ⟨fun h28 => ?_, fun h28 => ?_⟩
                · skip
                  have h28 : e ≠ 0 := by have h28 : (e != 0) = true := h28; simpa using h28
                  rw [← hfin, if_pos h28] at h3
                  conv => whnf
                  refine (hQ2 _ _ _).mpr ?_
                  -- R:FFFTTFFT
                  conv => whnf
                  rw [hk, ← h3]
                  rfl
                · skip
                  have h28 : e = 0 := by have h28 : (e != 0) = false := h28; simpa using h28
                  rw [← hfin, if_neg (fun h => h h28), ← take_succ' hltc] at h3
                  conv => whnf
                  refine ⟨_, rfl, ?_⟩
                  conv => whnf
                  refine ⟨lim (by show ((cs.take j).map Prod.fst).length + 1 ≤ _; omega), ?_⟩
                  -- Z17:TTFFF
                  conv => whnf
                  refine ⟨⟨290, [9, 114, 115, 1009, 2009, 3009, 4009], []⟩, ?_⟩
                  conv => whnf
                  have hs : (cs.take (j + 1)).map Prod.fst = (cs.take j).map Prod.fst ++ [cs[j].1] := by rw [take_succ' hltc, List.map_append]; rfl
                  have := hZ2 (j + 1) ⟨hltc, h3⟩ (by omega)
                  rw [hs] at this
                  rw [hwc]
                  exact this
          · skip
            have hf : freE cs[j].1 ((cs.take j).map Prod.fst) ≠ 0 := beq_eq_false_iff_ne.1 g21_2
            have hE0 : freE cs[j].1 ((cs.take j).map Prod.fst) = e0C xs.length (cs.take j) cs[j] := by unfold e0C; rw [if_pos hf]
            conv => whnf
            refine ⟨⟨3874, [2009], [2009]⟩, ?_⟩
            refine LoopW_ind _ (fun s : Int × Nat => match s with | (e, k) => (({ tmps := [.undef, .own 1 [], .undef, .undef, .undef, .sl (S := S) U.str ((cs.take j).map Prod.fst) (some 900005), .undef, .undef, vI j, .own 9 [], vI e, vI k, .undef, .undef, .undef, .undef, .undef, .undef, .undef, .undef, .undef, .undef, .undef, .undef, .undef, .undef, .undef, .undef, .undef, .undef, .undef, .undef, .undef, .undef, .undef, .undef, .undef, .undef, .undef, .undef, .undef, .undef, .undef, .undef, .undef, .undef, .undef, .undef, .undef, .undef, .undef, .undef, .undef, .undef, .undef, .undef, .undef, .undef, .undef, .undef, .undef, .undef, .undef, .undef, .undef, .undef, .undef, .undef, .undef, .undef, .undef, .undef, .undef, .undef, .undef, .undef, .undef, .undef, .undef, .undef, .undef, .undef, .undef, .undef, .undef, .undef, .undef, .undef, .undef, .undef, .undef, .undef, .undef, .undef, .undef, .undef, .undef, .undef, .undef, .undef, .undef, .undef, .undef, .undef, .undef, .undef, .undef, .undef, .undef, .undef, .undef, .undef, .undef, .undef, .undef, .undef], seg := [(1, .cells [lociV xs, copsV cs]), (9, .cells [.str cs[j].1, vL cs[j].2]), (900005, .row U.str false)], up := [] } : St S))) (fun s : Int × Nat => match s with | (e, k) => (k ≤ cs[j].2.length ∧ e = eK xs.length (cs.take j) cs[j] k)) (fun s : Int × Nat => match s with | (e, k) => (cs[j].2.length - k)) () ?_ (_, 0) ⟨Nat.zero_le _, hE0.trans (eK_zero _ _ _).symm⟩
            rintro ⟨e, k⟩ hinv Z3 hZ3
            dsimp only at hinv hZ3
            obtain ⟨hkl, hek⟩ := hinv
            conv => whnf
            refine bcase_iff.2 ⟨fun g24_5 => ?_, fun g24_5 => ?_⟩
            · skip
              have hltk : k < cs[j].2.length := by have := of_decide_eq_true g24_5; omega
              have hwk : IntKind.i64.wrap ((k : Int) + 1) = ((k + 1 : Nat) : Int) := wrap_nat (by omega)
              conv => whnf
              refine bcase_iff.2 ⟨fun h24 => ?_, fun h24 => ?_⟩
              · skip
                have h24 : e = 0 := beq_iff_eq.1 h24
                have hss := eK_succ hltk (hek.symm.trans h24)
                conv => whnf
                refine ⟨_, getI_nat hltk, ?_⟩
                conv => whnf
                refine byC (c69 gl _ _ _) op69 ?_
                conv => whnf
                refine bcase_iff.2 ⟨fun h26 => ?_, fun h26 => ?_⟩
                · skip
                  have h26 : (!inB cs[j].2[k] 0 2) = true := h26
                  rw [h26, if_pos rfl] at hss
                  -- Z24:TTT
                  conv => whnf
                  refine ⟨⟨3874, [], []⟩, ?_⟩
                  conv => whnf
                  rw [hwk]
                  exact hZ3 (7, k + 1) ⟨hltk, hss.symm⟩ (by dsimp only; omega)
                · skip
                  have h26 : (!inB cs[j].2[k] 0 2) = false := h26
                  rw [h26, if_neg (by simp)] at hss
                  -- Z24:TTF
                  conv => whnf
                  refine ⟨⟨3874, [], []⟩, ?_⟩
                  conv => whnf
                  rw [hwk]
                  exact hZ3 (e, k + 1) ⟨hltk, h24.trans hss.symm⟩ (by dsimp only; omega)
              · skip
                have h24 : e ≠ 0 := beq_eq_false_iff_ne.1 h24
                have hfin : e = eK xs.length (cs.take j) cs[j] cs[j].2.length := by rw [hek, eK_fin (by rw [← hek]; exact h24)]
                conv => whnf
                refine bcase_iff.2 ⟨fun h28 => ?_, fun h28 => ?_⟩
                · skip
                  have h28 : e ≠ 0 := by have h28 : (e != 0) = true := h28; simpa using h28
                  rw [← hfin, if_pos h28] at h3
                  conv => whnf
                  refine (hQ2 _ _ _).mpr ?_
                  -- R:FFFTFTFT
                  conv => whnf
                  rw [hk, ← h3]
                  rfl
                · skip
                  have h28 : e = 0 := by have h28 : (e != 0) = false := h28; simpa using h28
                  rw [← hfin, if_neg (fun h => h h28), ← take_succ' hltc] at h3
                  conv => whnf
                  refine ⟨_, rfl, ?_⟩
                  conv => whnf
                  refine ⟨lim (by show ((cs.take j).map Prod.fst).length + 1 ≤ _; omega), ?_⟩
                  -- Z17:TFTFF
                  conv => whnf
                  refine ⟨⟨290, [9, 114, 115, 1009, 2009, 3009, 4009], []⟩, ?_⟩
                  conv => whnf
                  have hs : (cs.take (j + 1)).map Prod.fst = (cs.take j).map Prod.fst ++ [cs[j].1] := by rw [take_succ' hltc, List.map_append]; rfl
                  have := hZ2 (j + 1) ⟨hltc, h3⟩ (by omega)
                  rw [hs] at this
                  rw [hwc]
                  exact this
            · skip
              have hgek : k = cs[j].2.length := by have := of_decide_eq_false g24_5; omega
              have hfin : e = eK xs.length (cs.take j) cs[j] cs[j].2.length := by rw [hek, hgek]
              conv => whnf
              refine bcase_iff.2 ⟨fun h28 => ?_, fun h28 => ?_⟩
              · skip
                have h28 : e ≠ 0 := by have h28 : (e != 0) = true := h28; simpa using h28
                rw [← hfin, if_pos h28] at h3
                conv => whnf
                refine (hQ2 _ _ _).mpr ?_
                -- R:FFFTFFT
                conv => whnf
                rw [hk, ← h3]
                rfl
              · skip
                have h28 : e = 0 := by have h28 : (e != 0) = false := h28; simpa using h28
                rw [← hfin, if_neg (fun h => h h28), ← take_succ' hltc] at h3
                conv => whnf
                refine ⟨_, rfl, ?_⟩
                conv => whnf
                refine ⟨lim (by show ((cs.take j).map Prod.fst).length + 1 ≤ _; omega), ?_⟩
                -- Z17:TFFF
                conv => whnf
                refine ⟨⟨290, [9, 114, 115, 1009, 2009, 3009, 4009], []⟩, ?_⟩
                conv => whnf
                have hs : (cs.take (j + 1)).map Prod.fst = (cs.take j).map Prod.fst ++ [cs[j].1] := by rw [take_succ' hltc, List.map_append]; rfl
                have := hZ2 (j + 1) ⟨hltc, h3⟩ (by omega)
                rw [hs] at this
                rw [hwc]
                exact this
        · skip
          have hge2 : j = cs.length := by have := of_decide_eq_false h17; omega
          rw [List.drop_eq_nil_of_le (by omega), chkC] at h3
          conv => whnf
          refine (hQ2 _ _ _).mpr ?_
          -- R:FFFF
          conv => whnf
          rw [hk, ← h3]
          rfl

theorem op17 : Opens PR 17 := ⟨_, Tryd.func17, rfl, rfl⟩

end Go.Ab.StF

namespace Go.Ab.StF
open Go Go.Ab Go.Proofs
set_option maxHeartbeats 1000000
set_option maxRecDepth 100000

theorem getI_zero {α : Type} {xs : List α} (h : 0 < xs.length) : getI xs 0 = some xs[0] := getI_nat (i := 0) h

def askK (c : Int) (many : Int) (ns : List Int) (i : Nat) : Int := if c ≠ 0 then c else if (ns.take i).any (outB 0 (many - 1)) then 4 else 0

theorem askK_zero (c many : Int) (ns : List Int) : askK c many ns 0 = c := by
  unfold askK
  by_cases h : c = 0
  · rw [if_neg (by simpa using h), h]; rfl
  · rw [if_pos h]

theorem askK_fin {c many : Int} {ns : List Int} {i : Nat} (h : askK c many ns i ≠ 0) : askK c many ns i = askK c many ns ns.length := by
  unfold askK at *
  by_cases h0 : c ≠ 0
  · rw [if_pos h0, if_pos h0]
  · rw [if_neg h0] at h
    rw [if_neg h0, if_neg h0, List.take_length]
    cases ha : (ns.take i).any (outB 0 (many - 1)) with
    | false => rw [ha] at h; exact absurd rfl h
    | true => rw [any_take_all ha]

theorem askK_succ {c many : Int} {ns : List Int} {i : Nat} (hi : i < ns.length) (h : askK c many ns i = 0) : askK c many ns (i + 1) = if !inB ns[i] 0 (many - 1) then 4 else 0 := by
  unfold askK at *
  by_cases h0 : c ≠ 0
  · rw [if_pos h0] at h; exact absurd h h0
  · rw [if_neg h0] at h
    have ha : (ns.take i).any (outB 0 (many - 1)) = false := by
      cases ha : (ns.take i).any (outB 0 (many - 1)) with
      | false => rfl
      | true => rw [ha] at h; cases h
    rw [if_neg h0, take_succ' hi, List.any_append, ha, Bool.false_or]
    simp only [List.any_cons, List.any_nil, Bool.or_false, out_in]

theorem askR_K (xs : List (ByteArray × Int)) (cs : List (ByteArray × List Int)) (many : Int) (ns : List Int) : askR xs cs many ns = if askK (chk xs cs).2.2 many ns ns.length ≠ 0 then askK (chk xs cs).2.2 many ns ns.length else if (agrL xs cs).isEmpty then 9 else 0 := by
  unfold askR askK
  rw [List.take_length]
  by_cases h : (chk xs cs).2.2 = 0
  · have hn : ¬ ((chk xs cs).2.2 ≠ 0) := fun g => g h
    simp only [if_neg hn]
    cases ns.any (outB 0 (many - 1)) <;> rfl
  · rw [if_pos h, if_pos h, if_pos h]

theorem askK_chk {c many : Int} {ns : List Int} {i : Nat} (h : askK c many ns i = 0) : c = 0 := by
  unfold askK at h
  by_cases h0 : c = 0
  · exact h0
  · rw [if_pos h0] at h; exact h

theorem headD_zero {α : Type} {L : List α} {d : α} (h : 0 < L.length) : L.headD d = L[0] := by
  cases L with
  | nil => simp at h
  | cons a l => rfl

/-- What 'asked' returns. -/
def askedV (xs : List (ByteArray × Int)) (cs : List (ByteArray × List Int)) (many : Int) (ns : List Int) : AV S := .tup [ordsV (if askR xs cs many ns = 0 then agrL xs cs else []), vI (askR xs cs many ns)]

theorem askedV_no {xs : List (ByteArray × Int)} {cs : List (ByteArray × List Int)} {many : Int} {ns : List Int} (h : askR xs cs many ns ≠ 0) : askedV xs cs many ns = .tup [ordsV [], vI (askR xs cs many ns)] := by unfold askedV; rw [if_neg h]
theorem askedV_ok {xs : List (ByteArray × Int)} {cs : List (ByteArray × List Int)} {many : Int} {ns : List Int} (h : askR xs cs many ns = 0) : askedV xs cs many ns = .tup [ordsV (agrL xs cs), vI 0] := by unfold askedV; rw [if_pos h, h]

theorem c78 (gl : Gl) (xs : List (ByteArray × Int)) (cs : List (ByteArray × List Int)) (hN : LensN xs cs) (many : Int) (hm0 : 0 ≤ many) (hm1 : many ≤ 9223372036854775807) (ns : List Int) (hn : ns.length ≤ 9223372036854775807) : PCalls PR gl 78 [.agg [lociV xs, copsV cs], vI many, vL ns] fun r => r = askedV xs cs many ns := by
  have hw1 : IntKind.i64.wrap (many - 1) = many - 1 := wrap_int (by omega) (by omega)
  have hask := askR_K xs cs many ns
  refine fnW_sound (par_ok gl) Tryd.func78 ?_
  conv => whnf
  refine byC (c17 gl xs cs hN) op17 ?_
  conv => whnf
  refine ⟨⟨3086, [6], [6]⟩, ?_⟩
  refine LoopW_ind _ (fun s : Int × Nat => match s with | (e, i) => (({ tmps := [.undef, vI many, vL ns, .own 3 [], .undef, .undef, .undef, .undef, .undef, .undef, vI e, vI i, .undef, .undef, .undef, .undef, .undef, .undef, .undef, .undef, .undef, .undef, .undef, .undef, .undef, .undef, .undef, .undef, .undef, .undef, .undef, .undef, .undef, .undef, .undef, .undef, .undef, .undef, .undef, .undef, .undef, .undef, .undef, .undef, .undef, .undef], seg := [(3, .cells [lociV xs, copsV cs])], up := [] } : St S))) (fun s : Int × Nat => match s with | (e, i) => (i ≤ ns.length ∧ e = askK (chk xs cs).2.2 many ns i)) (fun s : Int × Nat => match s with | (e, i) => (ns.length - i)) () ?_ (_, 0) ⟨Nat.zero_le _, (askK_zero _ _ _).symm⟩
  rintro ⟨e, i⟩ hinv Z1 hZ1
  dsimp only at hinv hZ1
  obtain ⟨hi, he⟩ := hinv
  conv => whnf
  refine bcase_iff.2 ⟨fun g3_4 => ?_, fun g3_4 => ?_⟩
  · skip
    have hlt : i < ns.length := by have := of_decide_eq_true g3_4; omega
    have hw : IntKind.i64.wrap ((i : Int) + 1) = ((i + 1 : Nat) : Int) := wrap_nat (by omega)
    conv => whnf
    refine bcase_iff.2 ⟨fun h3 => ?_, fun h3 => ?_⟩
    · skip
      have h3 : e = 0 := beq_iff_eq.1 h3
      have hss := askK_succ hlt (he.symm.trans h3)
      conv => whnf
      refine ⟨_, getI_nat hlt, ?_⟩
      conv => whnf
      refine byC (c69 gl _ _ _) op69 ?_
      conv => whnf
      refine bcase_iff.2 ⟨fun h5 => ?_, fun h5 => ?_⟩
      · skip
        have h5 : (!inB ns[i] 0 (IntKind.i64.wrap (many - 1))) = true := h5
        rw [hw1] at h5
        rw [h5, if_pos rfl] at hss
        -- Z3:TTT
        conv => whnf
        refine ⟨⟨3086, [], []⟩, ?_⟩
        conv => whnf
        rw [hw]
        exact hZ1 (4, i + 1) ⟨hlt, hss.symm⟩ (by dsimp only; omega)
      · skip
        have h5 : (!inB ns[i] 0 (IntKind.i64.wrap (many - 1))) = false := h5
        rw [hw1] at h5
        rw [h5, if_neg (by simp)] at hss
        -- Z3:TTF
        conv => whnf
        refine ⟨⟨3086, [], []⟩, ?_⟩
        conv => whnf
        rw [hw]
        exact hZ1 (e, i + 1) ⟨hlt, h3.trans hss.symm⟩ (by dsimp only; omega)
    · skip
      have h3 : e ≠ 0 := beq_eq_false_iff_ne.1 h3
      have hfin : e = askK (chk xs cs).2.2 many ns ns.length := by rw [he, askK_fin (by rw [← he]; exact h3)]
      conv => whnf
      refine bcase_iff.2 ⟨fun h7 => ?_, fun h7 => ?_⟩
      · skip
        have h7 : e ≠ 0 := by have h7 : (e != 0) = true := h7; simpa using h7
        rw [← hfin, if_pos h7] at hask
        -- R:TFT
        conv => whnf
        rw [askedV_no (by rw [hask]; exact h7), hask]
      · skip
        have h7 : e = 0 := by have h7 : (e != 0) = false := h7; simpa using h7
        rw [← hfin, if_neg (fun h => h h7)] at hask
        have hv := chk_valid (askK_chk (hfin.symm.trans h7))
        conv => whnf
        refine byC (c118 gl hv) op118 ?_
        conv => whnf
        refine bcase_iff.2 ⟨fun h10 => ?_, fun h10 => ?_⟩
        · skip
          have h10 : (agrL xs cs).isEmpty = true := by cases hA : agrL xs cs with
            | nil => rfl
            | cons a l => rw [hA] at h10; have h10 : (((a :: l).length : Int) == 0) = true := h10; simp at h10; omega
          rw [h10, if_pos rfl] at hask
          -- R:TFFT
          conv => whnf
          rw [askedV_no (by rw [hask]; decide), hask]
        · skip
          have h10 : (agrL xs cs).isEmpty = false := by cases hA : agrL xs cs with
            | nil => rw [hA] at h10; cases h10
            | cons a l => rfl
          rw [h10, if_neg (by simp)] at hask
          -- R:TFFF
          conv => whnf
          rw [askedV_ok hask]
  · skip
    have hge : i = ns.length := by have := of_decide_eq_false g3_4; omega
    have hfin : e = askK (chk xs cs).2.2 many ns ns.length := by rw [he, hge]
    conv => whnf
    refine bcase_iff.2 ⟨fun h7 => ?_, fun h7 => ?_⟩
    · skip
      have h7 : e ≠ 0 := by have h7 : (e != 0) = true := h7; simpa using h7
      rw [← hfin, if_pos h7] at hask
      -- R:FT
      conv => whnf
      rw [askedV_no (by rw [hask]; exact h7), hask]
    · skip
      have h7 : e = 0 := by have h7 : (e != 0) = false := h7; simpa using h7
      rw [← hfin, if_neg (fun h => h h7)] at hask
      have hv := chk_valid (askK_chk (hfin.symm.trans h7))
      conv => whnf
      refine byC (c118 gl hv) op118 ?_
      conv => whnf
      refine bcase_iff.2 ⟨fun h10 => ?_, fun h10 => ?_⟩
      · skip
        have h10 : (agrL xs cs).isEmpty = true := by cases hA : agrL xs cs with
          | nil => rfl
          | cons a l => rw [hA] at h10; have h10 : (((a :: l).length : Int) == 0) = true := h10; simp at h10; omega
        rw [h10, if_pos rfl] at hask
        -- R:FFT
        conv => whnf
        rw [askedV_no (by rw [hask]; decide), hask]
      · skip
        have h10 : (agrL xs cs).isEmpty = false := by cases hA : agrL xs cs with
          | nil => rw [hA] at h10; cases h10
          | cons a l => rfl
        rw [h10, if_neg (by simp)] at hask
        -- R:FFF
        conv => whnf
        rw [askedV_ok hask]

theorem op78 : Opens PR 78 := ⟨_, Tryd.func78, rfl, rfl⟩

theorem c19 (gl : Gl) (xs : List (ByteArray × Int)) (cs : List (ByteArray × List Int)) (hN : LensN xs cs) (fs os : List Int) : PCalls PR gl 19 [.agg [lociV xs, copsV cs], .agg [vL fs, vL os]] fun r => r = lstV (oddS xs cs fs os) := by
  refine fnW_sound (par_ok gl) Tryd.func19 ?_
  conv => whnf
  refine byC (c17 gl xs cs hN) op17 ?_
  conv => whnf
  refine bcase_iff.2 ⟨fun h2 => ?_, fun h2 => ?_⟩
  · skip
    have h2 : (chk xs cs).2.2 = 0 := beq_iff_eq.1 h2
    have hv := chk_valid h2
    have hR : oddS xs cs fs os = if ordE xs fs os ≠ 0 then ([], ordE xs fs os) else (natsV (amidL cs (fs, os)), 0) := by unfold oddS; rw [if_neg (fun h => h h2)]
    conv => whnf
    refine byC (c53 gl xs cs fs os hv.l1 hv.l5) op53 ?_
    conv => whnf
    refine bcase_iff.2 ⟨fun h4 => ?_, fun h4 => ?_⟩
    · skip
      have h4 : ordE xs fs os ≠ 0 := by have h4 : (ordE xs fs os != 0) = true := h4; simpa using h4
      rw [if_pos h4] at hR
      -- R:TT
      conv => whnf
      rw [hR]
    · skip
      have h4 : ordE xs fs os = 0 := by have h4 : (ordE xs fs os != 0) = false := h4; simpa using h4
      rw [if_neg (fun h => h h4)] at hR
      have ho := ord_is h4
      have hok : OkO xs.length (fs, os) := ⟨by have := congrArg List.length ho.fsE; rwa [bitsF_len] at this, by have := ho.perm.len; simpa using this, fun v hvv => by rw [ho.fsE] at hvv; simp only [bitsF, List.mem_map] at hvv; obtain ⟨j, _, rfl⟩ := hvv; split <;> omega, hv.l5⟩
      conv => whnf
      refine byC (c74 gl hv (fs, os) hok) op74 ?_
      -- R:TF
      conv => whnf
      rw [hR]
  · skip
    have h2 : (chk xs cs).2.2 ≠ 0 := beq_eq_false_iff_ne.1 h2
    conv => whnf
    refine bcase_iff.2 ⟨fun h4 => ?_, fun h4 => ?_⟩
    · skip
      -- R:FT
      conv => whnf
      unfold oddS
      rw [if_pos h2]
    · skip
      exfalso
      have h4 : ((chk xs cs).2.2 != 0) = false := h4
      exact h2 (by simpa using h4) --done

theorem op19 : Opens PR 19 := ⟨_, Tryd.func19, rfl, rfl⟩

theorem c22 (gl : Gl) (xs : List (ByteArray × Int)) (cs : List (ByteArray × List Int)) (hN : LensN xs cs) : PCalls PR gl 22 [.agg [lociV xs, copsV cs]] fun r => r = fstV (firstS xs cs) := by
  refine fnW_sound (par_ok gl) Tryd.func22 ?_
  conv => whnf
  refine byC (c78 gl xs cs hN 0 (by omega) (by omega) [] (by simp)) op78 ?_
  rcases Classical.em (askR xs cs 0 [] = 0) with hk | hk
  · skip
    rw [askedV_ok hk]
    obtain ⟨hv, hns, hne⟩ := ask_valid hk
    have h5 := hv.l5
    have hc8 := hv.c8
    have hLl : (agrL xs cs).length ≤ 100000 := Nat.le_trans (List.length_filter_le _ _) (allL_len h5)
    have hLo : ∀ o ∈ agrL xs cs, OkO xs.length o := fun o ho => allL_ok h5 (List.mem_filter.1 ho).1
    have hL0 : 0 < (agrL xs cs).length := List.length_pos_iff.2 hne
    conv => whnf
    refine ⟨_, getI_zero hL0, ?_⟩
    -- R:a
    conv => whnf
    unfold firstS
    rw [if_neg (fun h => h hk)]
    rw [headD_zero hL0]
  · skip
    rw [askedV_no hk]
    conv => whnf
    refine bcase_iff.2 ⟨fun h2 => ?_, fun h2 => ?_⟩
    · skip
      -- R:bT
      conv => whnf
      unfold firstS
      rw [if_pos hk]
    · skip
      exfalso
      have h2 : (askR xs cs 0 [] != 0) = false := h2
      exact hk (by simpa using h2) --done

theorem op22 : Opens PR 22 := ⟨_, Tryd.func22, rfl, rfl⟩

end Go.Ab.StF
