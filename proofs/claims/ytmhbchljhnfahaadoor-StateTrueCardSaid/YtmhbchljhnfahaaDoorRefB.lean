/-
  THE STATE FAMILY, PART ND: functions of the reference: Check, asked, Odd.
  THE STATE FAMILY, PART NE: functions of the reference: what is asked of a forme.
-/
import Derived.Test.YtmhbchljhnfahaaDoorRefA
namespace Go.Ab.StF
open Go Go.Ab Go.Proofs
set_option maxHeartbeats 1000000
set_option maxRecDepth 100000

/-- How long things are. -/
structure LensN (xs : List (ByteArray × Int)) (cs : List (ByteArray × List Int)) : Prop extends Lens xs cs where
  nx : ∀ x ∈ xs, x.1.size ≤ 9223372036854775807
  nc : ∀ x ∈ cs, x.1.size ≤ 9223372036854775807

def eL (pre : List (ByteArray × Int)) (x : ByteArray × Int) : Int := if freE x.1 (pre.map Prod.fst) ≠ 0 then freE x.1 (pre.map Prod.fst) else if !inB x.2 0 2 then 7 else 0
def e0C (n : Nat) (pre : List (ByteArray × List Int)) (x : ByteArray × List Int) : Int := if freE x.1 (pre.map Prod.fst) ≠ 0 then freE x.1 (pre.map Prod.fst) else if (x.2.length : Int) != n then 3 else 0
def eK (n : Nat) (pre : List (ByteArray × List Int)) (x : ByteArray × List Int) (k : Nat) : Int := if e0C n pre x ≠ 0 then e0C n pre x else if (x.2.take k).any (outB 0 2) then 7 else 0

theorem eK_zero (n : Nat) (pre : List (ByteArray × List Int)) (x : ByteArray × List Int) : eK n pre x 0 = e0C n pre x := by
  unfold eK
  by_cases h : e0C n pre x = 0
  · rw [if_neg (by simpa using h), h]; rfl
  · rw [if_pos h]

theorem freE_if {α : Type} (w : ByteArray) (pre : List (ByteArray × α)) : freE w (pre.map Prod.fst) = if !nameB w then 6 else if pre.any (fun p => strEq p.1 w) then 5 else 0 := by
  unfold freE; rw [List.any_map]; rfl

theorem chkL_cons (pre : List (ByteArray × Int)) (x : ByteArray × Int) (l : List (ByteArray × Int)) (i : Nat) : chkL pre (x :: l) i = if eL pre x ≠ 0 then some ((i : Int), eL pre x) else chkL (pre ++ [x]) l (i + 1) := by
  have ho : [x.2].any (outB 0 2) = !inB x.2 0 2 := by simp [out_in]
  simp only [chkL, eL, freE_if, ho]
  cases nameB x.1
  · rfl
  · cases pre.any fun p => strEq p.1 x.1
    · cases inB x.2 0 2 <;> rfl
    · rfl

theorem chkC_cons (n : Nat) (pre : List (ByteArray × List Int)) (x : ByteArray × List Int) (l : List (ByteArray × List Int)) (i : Nat) :
    chkC n pre (x :: l) i = if eK n pre x x.2.length ≠ 0 then some ((i : Int), eK n pre x x.2.length) else chkC n (pre ++ [x]) l (i + 1) := by
  simp only [chkC, eK, e0C, freE_if, List.take_length]
  cases nameB x.1
  · rfl
  · cases pre.any fun p => strEq p.1 x.1
    · cases hl : (x.2.length : Int) != n
      · cases x.2.any (outB 0 2) <;> rfl
      · rfl
    · rfl

theorem any_take_all {α : Type} {p : α → Bool} {l : List α} {k : Nat} (h : (l.take k).any p = true) : l.any p = true := by
  rw [List.any_eq_true] at h ⊢
  obtain ⟨x, hx, hp⟩ := h
  exact ⟨x, List.mem_of_mem_take hx, hp⟩

theorem eK_fin {n : Nat} {pre : List (ByteArray × List Int)} {x : ByteArray × List Int} {k : Nat} (h : eK n pre x k ≠ 0) : eK n pre x k = eK n pre x x.2.length := by
  unfold eK at *
  by_cases h0 : e0C n pre x ≠ 0
  · rw [if_pos h0, if_pos h0]
  · rw [if_neg h0] at h
    rw [if_neg h0, if_neg h0, List.take_length]
    cases ha : (x.2.take k).any (outB 0 2) with
    | false => rw [ha] at h; exact absurd rfl h
    | true => rw [any_take_all ha]

theorem eK_succ {n : Nat} {pre : List (ByteArray × List Int)} {x : ByteArray × List Int} {k : Nat} (hk : k < x.2.length) (h : eK n pre x k = 0) : eK n pre x (k + 1) = if !inB x.2[k] 0 2 then 7 else 0 := by
  unfold eK at *
  by_cases h0 : e0C n pre x ≠ 0
  · rw [if_pos h0] at h; exact absurd h h0
  · rw [if_neg h0] at h
    have ha : (x.2.take k).any (outB 0 2) = false := by
      cases ha : (x.2.take k).any (outB 0 2) with
      | false => rfl
      | true => rw [ha] at h; cases h
    rw [if_neg h0, take_succ' hk, List.any_append, ha, Bool.false_or]
    simp only [List.any_cons, List.any_nil, Bool.or_false, out_in]

theorem chk_F {xs : List (ByteArray × Int)} {cs : List (ByteArray × List Int)} (h : [(xs.length : Int)].any (outB 1 5) = false) : chk xs cs = match chkL [] xs 0 with
    | some (i, e) => (1, i, e)
    | none => if [(cs.length : Int)].any (outB 1 8) then (2, 0, 3) else match chkC xs.length [] cs 0 with
      | some (i, e) => (2, i, e)
      | none => (0, 0, 0) := by unfold chk; rw [if_neg (by rw [h]; simp)]; rfl

theorem in_out1 (lo hi x : Int) : [x].any (outB lo hi) = !inB x lo hi := by simp [out_in]

theorem c17 (gl : Gl) (xs : List (ByteArray × Int)) (cs : List (ByteArray × List Int)) (hN : LensN xs cs) : PCalls PR gl 17 [.agg [lociV xs, copsV cs]] fun r => r = tup3 (chk xs cs) := by
  refine fnW_sound (par_ok gl) Tryd.func17 ?_
  conv => whnf
  refine byC (c69 gl _ _ _) op69 ?_
  conv => whnf
  refine bcase_iff.2 ⟨fun h1 => ?_, fun h1 => ?_⟩
  · skip
    have h1 : (!inB (xs.length : Int) 1 5) = true := h1
    -- R:T
    conv => whnf
    unfold chk
    rw [if_pos (by rw [in_out1, h1])]
    rfl
  · skip
    have h1 : (!inB (xs.length : Int) 1 5) = false := h1
    have hx5 : xs.length ≤ 5 := by simp [inB] at h1; omega
    have hk := chk_F (cs := cs) (by rw [in_out1, h1])
    conv => whnf
    refine loop_q fun Q1 hQ1 => ?_
    refine ⟨⟨98, [], [5]⟩, ?_⟩
    refine LoopW_ind _ (fun i : Nat => (({ tmps := [.undef, .own 1 [], .undef, .undef, .undef, .sl (S := S) U.str ((xs.take i).map Prod.fst) (some 5), vI i, .undef, .undef, .undef, .undef, .undef, .undef, .undef, .undef, .undef, .undef, .undef, .undef, .undef, .undef, .undef, .undef, .undef, .undef, .undef, .undef, .undef, .undef, .undef, .undef, .undef, .undef, .undef, .undef, .undef, .undef, .undef, .undef, .undef, .undef, .undef, .undef, .undef, .undef, .undef, .undef, .undef, .undef, .undef, .undef, .undef, .undef, .undef, .undef, .undef, .undef, .undef, .undef, .undef, .undef, .undef, .undef, .undef, .undef, .undef, .undef, .undef, .undef, .undef, .undef, .undef, .undef, .undef, .undef, .undef, .undef, .undef, .undef, .undef, .undef, .undef, .undef, .undef, .undef, .undef, .undef, .undef, .undef, .undef, .undef, .undef, .undef, .undef, .undef, .undef, .undef, .undef, .undef, .undef, .undef, .undef, .undef, .undef, .undef, .undef, .undef, .undef, .undef, .undef, .undef, .undef, .undef, .undef, .undef, .undef], seg := [(1, .cells [lociV xs, copsV cs]), (5, .row U.str false)], up := [] } : St S))) (fun i : Nat => (i ≤ xs.length ∧ chkL (xs.take i) (xs.drop i) i = chkL [] xs 0)) (fun i : Nat => (xs.length - i)) () ?_ 0 ⟨Nat.zero_le _, rfl⟩
    intro i hinv Z1 hZ1
    obtain ⟨hi, h2⟩ := hinv
    conv => whnf
    refine bcase_iff.2 ⟨fun h5 => ?_, fun h5 => ?_⟩
    · skip
      have hlt : i < xs.length := by have := of_decide_eq_true h5; omega
      have hw : IntKind.i64.wrap ((i : Int) + 1) = ((i + 1 : Nat) : Int) := wrap_nat (by omega)
      rw [List.drop_eq_getElem_cons hlt, chkL_cons] at h2
      have hnl : ((xs.take i).map Prod.fst).length ≤ 100 := by simp; omega
      conv => whnf
      refine ⟨_, getI_nat hlt, ?_⟩
      conv => whnf
      refine byC (c70 gl xs[i].1 (hN.nx _ (List.getElem_mem hlt)) ((xs.take i).map Prod.fst) (by omega)) op70 ?_
      conv => whnf
      refine bcase_iff.2 ⟨fun g8_2 => ?_, fun g8_2 => ?_⟩
      · skip
        have hf : freE xs[i].1 ((xs.take i).map Prod.fst) = 0 := beq_iff_eq.1 g8_2
        have he : eL (xs.take i) xs[i] = if !inB xs[i].2 0 2 then 7 else 0 := by unfold eL; rw [if_neg (fun h => h hf)]
        conv => whnf
        refine ⟨_, getI_nat hlt, ?_⟩
        conv => whnf
        refine byC (c69 gl _ _ _) op69 ?_
        conv => whnf
        refine bcase_iff.2 ⟨fun h8 => ?_, fun h8 => ?_⟩
        · skip
          have h8 : (!inB xs[i].2 0 2) = true := h8
          rw [h8, if_pos rfl] at he
          rw [he, if_pos (by decide)] at h2
          conv => whnf
          refine (hQ1 _ _ _).mpr ?_
          -- R:FTTT
          conv => whnf
          rw [hk, ← h2]
          rfl
        · skip
          have h8 : (!inB xs[i].2 0 2) = false := h8
          rw [h8, if_neg (by simp)] at he
          rw [he, if_neg (by simp), ← take_succ' hlt] at h2
          conv => whnf
          refine bcase_iff.2 ⟨fun h10 => ?_, fun h10 => ?_⟩
          · skip
            exfalso
            have h10 : (freE xs[i].1 ((xs.take i).map Prod.fst) != 0) = true := h10
            rw [hf] at h10
            cases h10 --done
          · skip
            conv => whnf
            refine ⟨_, getI_nat hlt, ?_⟩
            conv => whnf
            refine ⟨_, rfl, ?_⟩
            conv => whnf
            refine ⟨lim (by show ((xs.take i).map Prod.fst).length + 1 ≤ _; omega), ?_⟩
            -- Z5:TTFF
            conv => whnf
            refine ⟨⟨98, [55, 56], []⟩, ?_⟩
            conv => whnf
            have hs : (xs.take (i + 1)).map Prod.fst = (xs.take i).map Prod.fst ++ [xs[i].1] := by rw [take_succ' hlt, List.map_append]; rfl
            have := hZ1 (i + 1) ⟨hlt, h2⟩ (by omega)
            rw [hs] at this
            rw [hw]
            exact this
      · skip
        have hf : freE xs[i].1 ((xs.take i).map Prod.fst) ≠ 0 := beq_eq_false_iff_ne.1 g8_2
        have he : eL (xs.take i) xs[i] = freE xs[i].1 ((xs.take i).map Prod.fst) := by unfold eL; rw [if_pos hf]
        conv => whnf
        refine bcase_iff.2 ⟨fun h10 => ?_, fun h10 => ?_⟩
        · skip
          rw [he, if_pos hf] at h2
          conv => whnf
          refine (hQ1 _ _ _).mpr ?_
          -- R:FTFT
          conv => whnf
          rw [hk, ← h2]
          rfl
        · skip
          exfalso
          have h10 : (freE xs[i].1 ((xs.take i).map Prod.fst) != 0) = false := h10
          exact hf (by simpa using h10) --done
    · skip
      have hge : i = xs.length := by have := of_decide_eq_false h5; omega
      rw [List.drop_eq_nil_of_le (by omega), chkL] at h2
      rw [← h2] at hk
      simp only at hk
      conv => whnf
      refine (hQ1 _ _ _).mpr ?_
      conv => whnf
      refine byC (c69 gl _ _ _) op69 ?_
      conv => whnf
      refine bcase_iff.2 ⟨fun h13 => ?_, fun h13 => ?_⟩
      · skip
        have h13 : (!inB (cs.length : Int) 1 8) = true := h13
        rw [if_pos (by rw [in_out1, h13])] at hk
        -- R:FFT
        conv => whnf
        rw [hk]
        rfl
      · skip
        have h13 : (!inB (cs.length : Int) 1 8) = false := h13
        have hc8 : cs.length ≤ 8 := by simp [inB] at h13; omega
        rw [if_neg (by rw [in_out1, h13]; simp)] at hk
        conv => whnf
        refine loop_q fun Q2 hQ2 => ?_
        refine ⟨⟨290, [5], [900005]⟩, ?_⟩
        refine LoopW_ind _ (fun j : Nat => (({ tmps := [.undef, .own 1 [], .undef, .undef, .undef, .sl (S := S) U.str ((cs.take j).map Prod.fst) (some 900005), .undef, .undef, vI j, .undef, .undef, .undef, .undef, .undef, .undef, .undef, .undef, .undef, .undef, .undef, .undef, .undef, .undef, .undef, .undef, .undef, .undef, .undef, .undef, .undef, .undef, .undef, .undef, .undef, .undef, .undef, .undef, .undef, .undef, .undef, .undef, .undef, .undef, .undef, .undef, .undef, .undef, .undef, .undef, .undef, .undef, .undef, .undef, .undef, .undef, .undef, .undef, .undef, .undef, .undef, .undef, .undef, .undef, .undef, .undef, .undef, .undef, .undef, .undef, .undef, .undef, .undef, .undef, .undef, .undef, .undef, .undef, .undef, .undef, .undef, .undef, .undef, .undef, .undef, .undef, .undef, .undef, .undef, .undef, .undef, .undef, .undef, .undef, .undef, .undef, .undef, .undef, .undef, .undef, .undef, .undef, .undef, .undef, .undef, .undef, .undef, .undef, .undef, .undef, .undef, .undef, .undef, .undef, .undef, .undef, .undef], seg := [(1, .cells [lociV xs, copsV cs]), (900005, .row U.str false)], up := [] } : St S))) (fun j : Nat => (j ≤ cs.length ∧ chkC xs.length (cs.take j) (cs.drop j) j = chkC xs.length [] cs 0)) (fun j : Nat => (cs.length - j)) () ?_ 0 ⟨Nat.zero_le _, rfl⟩
        intro j hinv Z2 hZ2
        obtain ⟨hj, h3⟩ := hinv
        conv => whnf
        refine bcase_iff.2 ⟨fun h17 => ?_, fun h17 => ?_⟩
        · skip
          have hltc : j < cs.length := by have := of_decide_eq_true h17; omega
          have hwc : IntKind.i64.wrap ((j : Int) + 1) = ((j + 1 : Nat) : Int) := wrap_nat (by omega)
          rw [List.drop_eq_getElem_cons hltc, chkC_cons] at h3
          have hnl : ((cs.take j).map Prod.fst).length ≤ 100 := by simp; omega
          have hsl := hN.s _ (List.getElem_mem hltc)
          conv => whnf
          refine ⟨_, getI_nat hltc, ?_⟩
          conv => whnf
          refine byC (c70 gl cs[j].1 (hN.nc _ (List.getElem_mem hltc)) ((cs.take j).map Prod.fst) (by omega)) op70 ?_
          conv => whnf
          refine bcase_iff.2 ⟨fun g21_2 => ?_, fun g21_2 => ?_⟩
          · skip
            have hf : freE cs[j].1 ((cs.take j).map Prod.fst) = 0 := beq_iff_eq.1 g21_2
            have he : e0C xs.length (cs.take j) cs[j] = if (cs[j].2.length : Int) != xs.length then 3 else 0 := by unfold e0C; rw [if_neg (fun h => h hf)]
            conv => whnf
            refine bcase_iff.2 ⟨fun h21 => ?_, fun h21 => ?_⟩
            · skip
              have h21 : ((cs[j].2.length : Int) != xs.length) = true := h21
              have hE0 : (3 : Int) = e0C xs.length (cs.take j) cs[j] := by rw [he, h21]; rfl
              conv => whnf
              refine ⟨⟨3874, [2009], [2009]⟩, ?_⟩
              refine LoopW_ind _ (fun s : Int × Nat => match s with | (e, k) => (({ tmps := [.undef, .own 1 [], .undef, .undef, .undef, .sl (S := S) U.str ((cs.take j).map Prod.fst) (some 900005), .undef, .undef, vI j, .own 9 [], vI e, vI k, .undef, .undef, .undef, .undef, .undef, .undef, .undef, .undef, .undef, .undef, .undef, .undef, .undef, .undef, .undef, .undef, .undef, .undef, .undef, .undef, .undef, .undef, .undef, .undef, .undef, .undef, .undef, .undef, .undef, .undef, .undef, .undef, .undef, .undef, .undef, .undef, .undef, .undef, .undef, .undef, .undef, .undef, .undef, .undef, .undef, .undef, .undef, .undef, .undef, .undef, .undef, .undef, .undef, .undef, .undef, .undef, .undef, .undef, .undef, .undef, .undef, .undef, .undef, .undef, .undef, .undef, .undef, .undef, .undef, .undef, .undef, .undef, .undef, .undef, .undef, .undef, .undef, .undef, .undef, .undef, .undef, .undef, .undef, .undef, .undef, .undef, .undef, .undef, .undef, .undef, .undef, .undef, .undef, .undef, .undef, .undef, .undef, .undef, .undef, .undef, .undef, .undef, .undef, .undef], seg := [(1, .cells [lociV xs, copsV cs]), (9, .cells [.str cs[j].1, vL cs[j].2]), (900005, .row U.str false)], up := [] } : St S))) (fun s : Int × Nat => match s with | (e, k) => (k ≤ cs[j].2.length ∧ e = eK xs.length (cs.take j) cs[j] k)) (fun s : Int × Nat => match s with | (e, k) => (cs[j].2.length - k)) () ?_ (_, 0) ⟨Nat.zero_le _, hE0.trans (eK_zero _ _ _).symm⟩
              rintro ⟨e, k⟩ hinv Z3 hZ3
              dsimp only at hinv hZ3
              obtain ⟨hkl, hek⟩ := hinv
              conv => whnf
              refine bcase_iff.2 ⟨fun g24_5 => ?_, fun g24_5 => ?_⟩
              · skip
                have hltk : k < cs[j].2.length := by have := of_decide_eq_true g24_5; omega
                have hwk : IntKind.i64.wrap ((k : Int) + 1) = ((k + 1 : Nat) : Int) := wrap_nat (by omega)
                conv => whnf
                refine bcase_iff.2 ⟨fun h24 => ?_, fun h24 => ?_⟩
                · skip
                  have h24 : e = 0 := beq_iff_eq.1 h24
                  have hss := eK_succ hltk (hek.symm.trans h24)
                  conv => whnf
                  refine ⟨_, getI_nat hltk, ?_⟩
                  conv => whnf
                  refine byC (c69 gl _ _ _) op69 ?_
                  conv => whnf
                  refine bcase_iff.2 ⟨fun h26 => ?_, fun h26 => ?_⟩
                  · skip
                    have h26 : (!inB cs[j].2[k] 0 2) = true := h26
                    rw [h26, if_pos rfl] at hss
                    -- Z24:TTT
                    conv => whnf
                    refine ⟨⟨3874, [], []⟩, ?_⟩
                    conv => whnf
                    rw [hwk]
                    exact hZ3 (7, k + 1) ⟨hltk, hss.symm⟩ (by dsimp only; omega)
                  · skip
                    have h26 : (!inB cs[j].2[k] 0 2) = false := h26
                    rw [h26, if_neg (by simp)] at hss
                    -- Z24:TTF
                    conv => whnf
                    refine ⟨⟨3874, [], []⟩, ?_⟩
                    conv => whnf
                    rw [hwk]
                    exact hZ3 (e, k + 1) ⟨hltk, h24.trans hss.symm⟩ (by dsimp only; omega)
                · skip
                  have h24 : e ≠ 0 := beq_eq_false_iff_ne.1 h24
                  have hfin : e = eK xs.length (cs.take j) cs[j] cs[j].2.length := by rw [hek, eK_fin (by rw [← hek]; exact h24)]
                  conv => whnf
                  refine bcase_iff.2 ⟨fun h28 => ?_, fun h28 => ?_⟩
                  · skip
                    have h28 : e ≠ 0 := by have h28 : (e != 0) = true := h28; simpa using h28
                    rw [← hfin, if_pos h28] at h3
                    conv => whnf
                    refine (hQ2 _ _ _).mpr ?_
                    -- R:FFFTTTTFT
                    conv => whnf
                    rw [hk, ← h3]
                    rfl
                  · skip
                    have h28 : e = 0 := by have h28 : (e != 0) = false := h28; simpa using h28
                    rw [← hfin, if_neg (fun h => h h28), ← take_succ' hltc] at h3
                    conv => whnf
                    refine ⟨_, rfl, ?_⟩
                    conv => whnf
                    refine ⟨lim (by show ((cs.take j).map Prod.fst).length + 1 ≤ _; omega), ?_⟩
                    -- Z17:TTTTFF
                    conv => whnf
                    refine ⟨⟨290, [9, 114, 115, 1009, 2009, 3009, 4009], []⟩, ?_⟩
                    conv => whnf
                    have hs : (cs.take (j + 1)).map Prod.fst = (cs.take j).map Prod.fst ++ [cs[j].1] := by rw [take_succ' hltc, List.map_append]; rfl
                    have := hZ2 (j + 1) ⟨hltc, h3⟩ (by omega)
                    rw [hs] at this
                    rw [hwc]
                    exact this
              · skip
                have hgek : k = cs[j].2.length := by have := of_decide_eq_false g24_5; omega
                have hfin : e = eK xs.length (cs.take j) cs[j] cs[j].2.length := by rw [hek, hgek]
                conv => whnf
                refine bcase_iff.2 ⟨fun h28 => ?_, fun h28 => ?_⟩
                · skip
                  have h28 : e ≠ 0 := by have h28 : (e != 0) = true := h28; simpa using h28
                  rw [← hfin, if_pos h28] at h3
                  conv => whnf
                  refine (hQ2 _ _ _).mpr ?_
                  -- R:FFFTTTFT
                  conv => whnf
                  rw [hk, ← h3]
                  rfl
                · skip
                  have h28 : e = 0 := by have h28 : (e != 0) = false := h28; simpa using h28
                  rw [← hfin, if_neg (fun h => h h28), ← take_succ' hltc] at h3
                  conv => whnf
                  refine ⟨_, rfl, ?_⟩
                  conv => whnf
                  refine ⟨lim (by show ((cs.take j).map Prod.fst).length + 1 ≤ _; omega), ?_⟩
                  -- Z17:TTTFF
                  conv => whnf
                  refine ⟨⟨290, [9, 114, 115, 1009, 2009, 3009, 4009], []⟩, ?_⟩
                  conv => whnf
                  have hs : (cs.take (j + 1)).map Prod.fst = (cs.take j).map Prod.fst ++ [cs[j].1] := by rw [take_succ' hltc, List.map_append]; rfl
                  have := hZ2 (j + 1) ⟨hltc, h3⟩ (by omega)
                  rw [hs] at this
                  rw [hwc]
                  exact this
            · skip
              have h21 : ((cs[j].2.length : Int) != xs.length) = false := h21
              have hE0 : freE cs[j].1 ((cs.take j).map Prod.fst) = e0C xs.length (cs.take j) cs[j] := by rw [he, h21, hf]; rfl
              conv => whnf
              refine ⟨⟨3874, [2009], [2009]⟩, ?_⟩
              refine LoopW_ind _ (fun s : Int × Nat => match s with | (e, k) => (({ tmps := [.undef, .own 1 [], .undef, .undef, .undef, .sl (S := S) U.str ((cs.take j).map Prod.fst) (some 900005), .undef, .undef, vI j, .own 9 [], vI e, vI k, .undef, .undef, .undef, .undef, .undef, .undef, .undef, .undef, .undef, .undef, .undef, .undef, .undef, .undef, .undef, .undef, .undef, .undef, .undef, .undef, .undef, .undef, .undef, .undef, .undef, .undef, .undef, .undef, .undef, .undef, .undef, .undef, .undef, .undef, .undef, .undef, .undef, .undef, .undef, .undef, .undef, .undef, .undef, .undef, .undef, .undef, .undef, .undef, .undef, .undef, .undef, .undef, .undef, .undef, .undef, .undef, .undef, .undef, .undef, .undef, .undef, .undef, .undef, .undef, .undef, .undef, .undef, .undef, .undef, .undef, .undef, .undef, .undef, .undef, .undef, .undef, .undef, .undef, .undef, .undef, .undef, .undef, .undef, .undef, .undef, .undef, .undef, .undef, .undef, .undef, .undef, .undef, .undef, .undef, .undef, .undef, .undef, .undef, .undef, .undef, .undef, .undef, .undef, .undef], seg := [(1, .cells [lociV xs, copsV cs]), (9, .cells [.str cs[j].1, vL cs[j].2]), (900005, .row U.str false)], up := [] } : St S))) (fun s : Int × Nat => match s with | (e, k) => (k ≤ cs[j].2.length ∧ e = eK xs.length (cs.take j) cs[j] k)) (fun s : Int × Nat => match s with | (e, k) => (cs[j].2.length - k)) () ?_ (_, 0) ⟨Nat.zero_le _, hE0.trans (eK_zero _ _ _).symm⟩
              rintro ⟨e, k⟩ hinv Z3 hZ3
              dsimp only at hinv hZ3
              obtain ⟨hkl, hek⟩ := hinv
              conv => whnf
              refine bcase_iff.2 ⟨fun g24_5 => ?_, fun g24_5 => ?_⟩
              · skip
                have hltk : k < cs[j].2.length := by have := of_decide_eq_true g24_5; omega
                have hwk : IntKind.i64.wrap ((k : Int) + 1) = ((k + 1 : Nat) : Int) := wrap_nat (by omega)
                conv => whnf
                refine bcase_iff.2 ⟨fun h24 => ?_, fun h24 => ?_⟩
                · skip
                  have h24 : e = 0 := beq_iff_eq.1 h24
                  have hss := eK_succ hltk (hek.symm.trans h24)
                  conv => whnf
                  refine ⟨_, getI_nat hltk, ?_⟩
                  conv => whnf
                  refine byC (c69 gl _ _ _) op69 ?_
                  conv => whnf
                  refine bcase_iff.2 ⟨fun h26 => ?_, fun h26 => ?_⟩
                  · skip
                    have h26 : (!inB cs[j].2[k] 0 2) = true := h26
                    rw [h26, if_pos rfl] at hss
                    -- Z24:TTT
                    conv => whnf
                    refine ⟨⟨3874, [], []⟩, ?_⟩
                    conv => whnf
                    rw [hwk]
                    exact hZ3 (7, k + 1) ⟨hltk, hss.symm⟩ (by dsimp only; omega)
                  · skip
                    have h26 : (!inB cs[j].2[k] 0 2) = false := h26
                    rw [h26, if_neg (by simp)] at hss
                    -- Z24:TTF
                    conv => whnf
                    refine ⟨⟨3874, [], []⟩, ?_⟩
                    conv => whnf
                    rw [hwk]
                    exact hZ3 (e, k + 1) ⟨hltk, h24.trans hss.symm⟩ (by dsimp only; omega)
                · skip
                  have h24 : e ≠ 0 := beq_eq_false_iff_ne.1 h24
                  have hfin : e = eK xs.length (cs.take j) cs[j] cs[j].2.length := by rw [hek, eK_fin (by rw [← hek]; exact h24)]
                  conv => whnf
                  refine bcase_iff.2 ⟨fun h28 => ?_, fun h28 => ?_⟩
                  · skip
                    have h28 : e ≠ 0 := by have h28 : (e != 0) = true := h28; simpa using h28
                    rw [← hfin, if_pos h28] at h3
                    conv => whnf
                    refine (hQ2 _ _ _).mpr ?_
                    -- R:FFFTTFTFT
                    conv => whnf
                    rw [hk, ← h3]
                    rfl
                  · skip
                    have h28 : e = 0 := by have h28 : (e != 0) = false := h28; simpa using h28
                    rw [← hfin, if_neg (fun h => h h28), ← take_succ' hltc] at h3
                    conv => whnf
                    refine ⟨_, rfl, ?_⟩
                    conv => whnf
                    refine ⟨lim (by show ((cs.take j).map Prod.fst).length + 1 ≤ _; omega), ?_⟩
                    -- Z17:TTFTFF
                    conv => whnf
                    refine ⟨⟨290, [9, 114, 115, 1009, 2009, 3009, 4009], []⟩, ?_⟩
                    conv => whnf
                    have hs : (cs.take (j + 1)).map Prod.fst = (cs.take j).map Prod.fst ++ [cs[j].1] := by rw [take_succ' hltc, List.map_append]; rfl
                    have := hZ2 (j + 1) ⟨hltc, h3⟩ (by omega)
                    rw [hs] at this
                    rw [hwc]
                    exact this
              · skip
                have hgek : k = cs[j].2.length := by have := of_decide_eq_false g24_5; omega
                have hfin : e = eK xs.length (cs.take j) cs[j] cs[j].2.length := by rw [hek, hgek]
                conv => whnf
                refine bcase_iff.2 ⟨fun h28 => ?_, fun h28 => ?_⟩
                · skip
                  have h28 : e ≠ 0 := by have h28 : (e != 0) = true := h28; simpa using h28
                  rw [← hfin, if_pos h28] at h3
                  conv => whnf
                  refine (hQ2 _ _ _).mpr ?_
                  -- R:FFFTTFFT
                  conv => whnf
                  rw [hk, ← h3]
                  rfl
                · skip
                  have h28 : e = 0 := by have h28 : (e != 0) = false := h28; simpa using h28
                  rw [← hfin, if_neg (fun h => h h28), ← take_succ' hltc] at h3
                  conv => whnf
                  refine ⟨_, rfl, ?_⟩
                  conv => whnf
                  refine ⟨lim (by show ((cs.take j).map Prod.fst).length + 1 ≤ _; omega), ?_⟩
                  -- Z17:TTFFF
                  conv => whnf
                  refine ⟨⟨290, [9, 114, 115, 1009, 2009, 3009, 4009], []⟩, ?_⟩
                  conv => whnf
                  have hs : (cs.take (j + 1)).map Prod.fst = (cs.take j).map Prod.fst ++ [cs[j].1] := by rw [take_succ' hltc, List.map_append]; rfl
                  have := hZ2 (j + 1) ⟨hltc, h3⟩ (by omega)
                  rw [hs] at this
                  rw [hwc]
                  exact this
          · skip
            have hf : freE cs[j].1 ((cs.take j).map Prod.fst) ≠ 0 := beq_eq_false_iff_ne.1 g21_2
            have hE0 : freE cs[j].1 ((cs.take j).map Prod.fst) = e0C xs.length (cs.take j) cs[j] := by unfold e0C; rw [if_pos hf]
            conv => whnf
            refine ⟨⟨3874, [2009], [2009]⟩, ?_⟩
            refine LoopW_ind _ (fun s : Int × Nat => match s with | (e, k) => (({ tmps := [.undef, .own 1 [], .undef, .undef, .undef, .sl (S := S) U.str ((cs.take j).map Prod.fst) (some 900005), .undef, .undef, vI j, .own 9 [], vI e, vI k, .undef, .undef, .undef, .undef, .undef, .undef, .undef, .undef, .undef, .undef, .undef, .undef, .undef, .undef, .undef, .undef, .undef, .undef, .undef, .undef, .undef, .undef, .undef, .undef, .undef, .undef, .undef, .undef, .undef, .undef, .undef, .undef, .undef, .undef, .undef, .undef, .undef, .undef, .undef, .undef, .undef, .undef, .undef, .undef, .undef, .undef, .undef, .undef, .undef, .undef, .undef, .undef, .undef, .undef, .undef, .undef, .undef, .undef, .undef, .undef, .undef, .undef, .undef, .undef, .undef, .undef, .undef, .undef, .undef, .undef, .undef, .undef, .undef, .undef, .undef, .undef, .undef, .undef, .undef, .undef, .undef, .undef, .undef, .undef, .undef, .undef, .undef, .undef, .undef, .undef, .undef, .undef, .undef, .undef, .undef, .undef, .undef, .undef, .undef, .undef, .undef, .undef, .undef, .undef], seg := [(1, .cells [lociV xs, copsV cs]), (9, .cells [.str cs[j].1, vL cs[j].2]), (900005, .row U.str false)], up := [] } : St S))) (fun s : Int × Nat => match s with | (e, k) => (k ≤ cs[j].2.length ∧ e = eK xs.length (cs.take j) cs[j] k)) (fun s : Int × Nat => match s with | (e, k) => (cs[j].2.length - k)) () ?_ (_, 0) ⟨Nat.zero_le _, hE0.trans (eK_zero _ _ _).symm⟩
            rintro ⟨e, k⟩ hinv Z3 hZ3
            dsimp only at hinv hZ3
            obtain ⟨hkl, hek⟩ := hinv
            conv => whnf
            refine bcase_iff.2 ⟨fun g24_5 => ?_, fun g24_5 => ?_⟩
            · skip
              have hltk : k < cs[j].2.length := by have := of_decide_eq_true g24_5; omega
              have hwk : IntKind.i64.wrap ((k : Int) + 1) = ((k + 1 : Nat) : Int) := wrap_nat (by omega)
              conv => whnf
              refine bcase_iff.2 ⟨fun h24 => ?_, fun h24 => ?_⟩
              · skip
                have h24 : e = 0 := beq_iff_eq.1 h24
                have hss := eK_succ hltk (hek.symm.trans h24)
                conv => whnf
                refine ⟨_, getI_nat hltk, ?_⟩
                conv => whnf
                refine byC (c69 gl _ _ _) op69 ?_
                conv => whnf
                refine bcase_iff.2 ⟨fun h26 => ?_, fun h26 => ?_⟩
                · skip
                  have h26 : (!inB cs[j].2[k] 0 2) = true := h26
                  rw [h26, if_pos rfl] at hss
                  -- Z24:TTT
                  conv => whnf
                  refine ⟨⟨3874, [], []⟩, ?_⟩
                  conv => whnf
                  rw [hwk]
                  exact hZ3 (7, k + 1) ⟨hltk, hss.symm⟩ (by dsimp only; omega)
                · skip
                  have h26 : (!inB cs[j].2[k] 0 2) = false := h26
                  rw [h26, if_neg (by simp)] at hss
                  -- Z24:TTF
                  conv => whnf
                  refine ⟨⟨3874, [], []⟩, ?_⟩
                  conv => whnf
                  rw [hwk]
                  exact hZ3 (e, k + 1) ⟨hltk, h24.trans hss.symm⟩ (by dsimp only; omega)
              · skip
                have h24 : e ≠ 0 := beq_eq_false_iff_ne.1 h24
                have hfin : e = eK xs.length (cs.take j) cs[j] cs[j].2.length := by rw [hek, eK_fin (by rw [← hek]; exact h24)]
                conv => whnf
                refine bcase_iff.2 ⟨fun h28 => ?_, fun h28 => ?_⟩
                · skip
                  have h28 : e ≠ 0 := by have h28 : (e != 0) = true := h28; simpa using h28
                  rw [← hfin, if_pos h28] at h3
                  conv => whnf
                  refine (hQ2 _ _ _).mpr ?_
                  -- R:FFFTFTFT
                  conv => whnf
                  rw [hk, ← h3]
                  rfl
                · skip
                  have h28 : e = 0 := by have h28 : (e != 0) = false := h28; simpa using h28
                  rw [← hfin, if_neg (fun h => h h28), ← take_succ' hltc] at h3
                  conv => whnf
                  refine ⟨_, rfl, ?_⟩
                  conv => whnf
                  refine ⟨lim (by show ((cs.take j).map Prod.fst).length + 1 ≤ _; omega), ?_⟩
                  -- Z17:TFTFF
                  conv => whnf
                  refine ⟨⟨290, [9, 114, 115, 1009, 2009, 3009, 4009], []⟩, ?_⟩
                  conv => whnf
                  have hs : (cs.take (j + 1)).map Prod.fst = (cs.take j).map Prod.fst ++ [cs[j].1] := by rw [take_succ' hltc, List.map_append]; rfl
                  have := hZ2 (j + 1) ⟨hltc, h3⟩ (by omega)
                  rw [hs] at this
                  rw [hwc]
                  exact this
            · skip
              have hgek : k = cs[j].2.length := by have := of_decide_eq_false g24_5; omega
              have hfin : e = eK xs.length (cs.take j) cs[j] cs[j].2.length := by rw [hek, hgek]
              conv => whnf
              refine bcase_iff.2 ⟨fun h28 => ?_, fun h28 => ?_⟩
              · skip
                have h28 : e ≠ 0 := by have h28 : (e != 0) = true := h28; simpa using h28
                rw [← hfin, if_pos h28] at h3
                conv => whnf
                refine (hQ2 _ _ _).mpr ?_
                -- R:FFFTFFT
                conv => whnf
                rw [hk, ← h3]
                rfl
              · skip
                have h28 : e = 0 := by have h28 : (e != 0) = false := h28; simpa using h28
                rw [← hfin, if_neg (fun h => h h28), ← take_succ' hltc] at h3
                conv => whnf
                refine ⟨_, rfl, ?_⟩
                conv => whnf
                refine ⟨lim (by show ((cs.take j).map Prod.fst).length + 1 ≤ _; omega), ?_⟩
                -- Z17:TFFF
                conv => whnf
                refine ⟨⟨290, [9, 114, 115, 1009, 2009, 3009, 4009], []⟩, ?_⟩
                conv => whnf
                have hs : (cs.take (j + 1)).map Prod.fst = (cs.take j).map Prod.fst ++ [cs[j].1] := by rw [take_succ' hltc, List.map_append]; rfl
                have := hZ2 (j + 1) ⟨hltc, h3⟩ (by omega)
                rw [hs] at this
                rw [hwc]
                exact this
        · skip
          have hge2 : j = cs.length := by have := of_decide_eq_false h17; omega
          rw [List.drop_eq_nil_of_le (by omega), chkC] at h3
          conv => whnf
          refine (hQ2 _ _ _).mpr ?_
          -- R:FFFF
          conv => whnf
          rw [hk, ← h3]
          rfl

theorem op17 : Opens PR 17 := ⟨_, Tryd.func17, rfl, rfl⟩

end Go.Ab.StF

namespace Go.Ab.StF
open Go Go.Ab Go.Proofs
set_option maxHeartbeats 1000000
set_option maxRecDepth 100000

def askK (c : Int) (many : Int) (ns : List Int) (i : Nat) : Int := if c ≠ 0 then c else if (ns.take i).any (outB 0 (many - 1)) then 4 else 0

/-- What 'asked' returns. -/
def askedV (xs : List (ByteArray × Int)) (cs : List (ByteArray × List Int)) (many : Int) (ns : List Int) : AV S := .tup [ordsV (if askR xs cs many ns = 0 then agrL xs cs else []), vI (askR xs cs many ns)]

end Go.Ab.StF
