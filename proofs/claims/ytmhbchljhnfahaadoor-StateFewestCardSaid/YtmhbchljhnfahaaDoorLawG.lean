/-
  THE STATE FAMILY, PART OG: a forme without some readings.
-/
import Derived.Test.YtmhbchljhnfahaaDoorLawB
import Derived.Test.YtmhbchljhnfahaaDoorPlainD
namespace Go.Ab.StF
open Go Go.Ab Go.Proofs
set_option maxHeartbeats 1000000
set_option maxRecDepth 100000

theorem blankC_nil (i : Nat) (ss : List Int) : blankC [] i ss = ss := by
  unfold blankC
  apply List.ext_getElem (by simp)
  intro j a b
  simp [List.getD_eq_getElem?_getD, b]
theorem blankC_len (l : List (Int × Int)) (i : Nat) (ss : List Int) : (blankC l i ss).length = ss.length := by simp [blankC]
theorem blankC_T {l : List (Int × Int)} {k i q : Nat} {ss : List Int} (hk : k < l.length) (h1 : l[k].1 = (i : Int)) (h2 : l[k].2 = (q : Int)) : (blankC (l.take k) i ss).set q 0 = blankC (l.take (k + 1)) i ss := by
  apply List.ext_getElem (by simp [blankC])
  intro j a b
  rw [List.getElem_set]
  have hj : j < ss.length := by simpa [blankC] using b
  have e : l[k] = ((i : Int), (q : Int)) := Prod.ext h1 h2
  simp only [blankC, List.getElem_map, List.getElem_range]
  rw [take_succ' hk, List.contains_append, e]
  by_cases c : q = j
  · subst c; simp
  · have : [((i : Int), (q : Int))].contains ((i : Int), (j : Int)) = false := by
      rw [Bool.eq_false_iff]; intro h
      have := List.mem_singleton.1 (List.contains_iff_mem.1 h)
      have := (Prod.mk.inj this).2
      omega
    rw [if_neg c, this, Bool.or_false]
theorem blankC_F {l : List (Int × Int)} {k i : Nat} {ss : List Int} (hk : k < l.length) (h1 : l[k].1 ≠ (i : Int)) : blankC (l.take k) i ss = blankC (l.take (k + 1)) i ss := by
  rw [take_succ' hk]
  unfold blankC
  apply List.map_congr_left
  intro j _
  have : [l[k]].contains ((i : Int), (j : Int)) = false := by
    rw [Bool.eq_false_iff]; intro h
    have := List.mem_singleton.1 (List.contains_iff_mem.1 h)
    exact h1 (by rw [← this])
  rw [List.contains_append, this, Bool.or_false]
theorem blankU_succ {cs : List (ByteArray × List Int)} {l : List (Int × Int)} {i : Nat} (h : i < cs.length) : (blankL cs l).take (i + 1) = (blankL cs l).take i ++ [(cs[i].1, blankC l i cs[i].2)] := by
  rw [take_succ' (by rw [blank_len]; exact h)]
  congr 2
  simp only [blankL, List.getElem_map, List.getElem_range, showsOf_eq h, getD_e h]
theorem blank_lens {xs : List (ByteArray × Int)} {cs : List (ByteArray × List Int)} (hN : LensN xs cs) (l : List (Int × Int)) : LensN xs (blankL cs l) := by
  have hm : ∀ c ∈ blankL cs l, ∃ d ∈ cs, c.1 = d.1 ∧ c.2.length = d.2.length := fun c hc => by
    obtain ⟨i, hi, rfl⟩ := List.mem_map.1 hc
    have hi := List.mem_range.1 hi
    exact ⟨cs[i], List.getElem_mem hi, by simp only [getD_e hi], by simp only [blankC_len, showsOf_eq hi]⟩
  refine ⟨⟨hN.x, by rw [blank_len]; exact hN.c, fun c hc => ?_⟩, hN.nx, fun c hc => ?_⟩
  · obtain ⟨d, hd, _, h⟩ := hm c hc; rw [h]; exact hN.s d hd
  · obtain ⟨d, hd, h, _⟩ := hm c hc; rw [h]; exact hN.nc d hd

theorem c59 (gl : Gl) (xs : List (ByteArray × Int)) (cs : List (ByteArray × List Int)) (n : Nat) (hn : n ≤ 5) (h8 : cs.length ≤ 8) (hcn : ∀ c ∈ cs, c.2.length = n) (l : List (Int × Int)) (hll : l.length ≤ 9223372036854775807) (hlv : ∀ p ∈ l, 0 ≤ p.2 ∧ p.2 < n) : PCalls PR gl 59 [.agg [lociV xs, copsV cs], rdgsV l] fun r => r = .agg [lociV xs, copsV (blankL cs l)] := by
  refine fnW_sound (par_ok gl) Tryd.func59 ?_
  conv => whnf
  refine loop_q fun Q1 hQ1 => ?_
  refine ⟨⟨118, [], [5]⟩, ?_⟩
  refine LoopW_ind _ (fun i : Nat => (({ tmps := [.undef, rdgsV l, .own 2 [], .undef, .own 4 [], .sl (S := S) U.copy ((blankL cs l).take i) (some 5), vI i, .undef, .undef, .undef, .undef, .undef, .undef, .undef, .undef, .undef, .undef, .undef, .undef, .undef, .undef, .undef, .undef, .undef, .undef, .undef, .undef, .undef, .undef, .undef, .undef, .undef, .undef, .undef, .undef, .undef, .undef, .undef, .undef, .undef, .undef, .undef, .undef, .undef, .undef, .undef, .undef, .undef, .undef, .undef, .undef, .undef, .undef, .undef], seg := [(2, .cells [lociV xs, copsV cs]), (4, .cells [.sl (S := S) U.locus [] (some 1004), .sl (S := S) U.copy [] (some 2004)]), (5, .row U.copy false), (1004, .row U.locus true), (2004, .row U.copy true)], up := [] } : St S))) (fun i : Nat => (i ≤ cs.length)) (fun i : Nat => (cs.length - i)) () ?_ 0 (Nat.zero_le _)
  intro i hi Z1 hZ1
  conv => whnf
  refine bcase_iff.2 ⟨fun h3 => ?_, fun h3 => ?_⟩
  · skip
    have hlt : i < cs.length := by have := of_decide_eq_true h3; omega
    have hw : IntKind.i64.wrap ((i : Int) + 1) = ((i + 1 : Nat) : Int) := wrap_nat (by omega)
    have hci := hcn _ (List.getElem_mem hlt)
    conv => whnf
    refine ⟨_, getI_nat hlt, ?_⟩
    conv => whnf
    refine ⟨lim (show cs[i].2.length ≤ _ by omega), true, ?_⟩
    conv => whnf
    refine loop_q fun Q2 hQ2 => ?_
    refine ⟨⟨502, [2007], [2007]⟩, ?_⟩
    refine LoopW_ind _ (fun s : Nat × List Int => match s with | (k, ss) => (({ tmps := [.undef, rdgsV l, .own 2 [], .undef, .own 4 [], .sl (S := S) U.copy ((blankL cs l).take i) (some 5), vI i, .own 7 [], vI k, .undef, .undef, .undef, .undef, .undef, .undef, .undef, .undef, .undef, .undef, .undef, .undef, .undef, .undef, .undef, .undef, .undef, .undef, .undef, .undef, .undef, .undef, .undef, .undef, .undef, .undef, .undef, .undef, .undef, .undef, .undef, .undef, .undef, .undef, .undef, .undef, .undef, .undef, .undef, .undef, .undef, .undef, .undef, .undef, .undef], seg := [(2, .cells [lociV xs, copsV cs]), (4, .cells [.sl (S := S) U.locus [] (some 1004), .sl (S := S) U.copy [] (some 2004)]), (5, .row U.copy false), (7, .cells [.str cs[i].1, .sl (S := S) U.int ss (some 24)]), (24, .row U.int true), (1004, .row U.locus true), (2004, .row U.copy true)], up := [] } : St S))) (fun s : Nat × List Int => match s with | (k, ss) => (k ≤ l.length ∧ ss = blankC (l.take k) i cs[i].2)) (fun s : Nat × List Int => match s with | (k, ss) => (l.length - k)) () ?_ (0, _) ⟨Nat.zero_le _, (blankC_nil i cs[i].2).symm⟩
    rintro ⟨k, ss⟩ hinv Z2 hZ2
    dsimp only at hinv hZ2
    obtain ⟨hk, hss⟩ := hinv
    have hsl : ss.length = n := by rw [hss, blankC_len, hci]
    conv => whnf
    refine bcase_iff.2 ⟨fun h8 => ?_, fun h8 => ?_⟩
    · skip
      have hltk : k < l.length := by have := of_decide_eq_true h8; omega
      have hwk : IntKind.i64.wrap ((k : Int) + 1) = ((k + 1 : Nat) : Int) := wrap_nat (by omega)
      have hlk := hlv _ (List.getElem_mem hltk)
      obtain ⟨q, hq⟩ : ∃ q : Nat, l[k].2 = q := ⟨l[k].2.toNat, by omega⟩
      have hqs : q < ss.length := by omega
      conv => whnf
      refine ⟨_, getI_nat hltk, ?_⟩
      conv => whnf
      refine bcase_iff.2 ⟨fun h10 => ?_, fun h10 => ?_⟩
      · skip
        have h10 : l[k].1 = (i : Int) := beq_iff_eq.1 h10
        conv => whnf
        refine ⟨[0, 1, 2, 3, 4, 5, 6, 7, 8], [7], [7], [], ⟨18014398509481983, [], []⟩, by decide +kernel, ?_⟩
        conv => whnf
        refine ⟨_, getI_nat hltk, ?_⟩
        conv => whnf
        refine ⟨_, getI_at hq hqs, ?_⟩
        conv => whnf
        refine ⟨_, rfl, ?_⟩
        -- Z8:TT
        conv => whnf
        refine ⟨⟨502, [], []⟩, ?_⟩
        conv => whnf
        rw [hwk, hq, Int.toNat_natCast]
        exact hZ2 (k + 1, _) ⟨hltk, by rw [hss, blankC_T hltk h10 hq]⟩ (by dsimp only; omega)
      · skip
        have h10 : l[k].1 ≠ (i : Int) := beq_eq_false_iff_ne.1 h10
        -- Z8:TF
        conv => whnf
        refine ⟨⟨502, [], []⟩, ?_⟩
        conv => whnf
        rw [hwk]
        exact hZ2 (k + 1, _) ⟨hltk, by rw [hss, blankC_F hltk h10]⟩ (by dsimp only; omega)
    · skip
      have hgk : k = l.length := by have := of_decide_eq_false h8; omega
      conv => whnf
      refine (hQ2 _ _ _).mpr ?_
      conv => whnf
      refine ⟨_, rfl, ?_⟩
      conv => whnf
      refine ⟨lim (by show ((blankL cs l).take i).length + 1 ≤ _; rw [List.length_take, blank_len]; omega), ?_⟩
      -- Z3:TF
      conv => whnf
      refine ⟨⟨118, [7, 24, 49, 50, 1007, 2007, 3007, 4007], []⟩, ?_⟩
      conv => whnf
      rw [hw]
      have := hZ1 (i + 1) hlt (by omega)
      rw [blankU_succ hlt] at this
      rw [hss, hgk, List.take_length]
      exact this
  · skip
    have hge : i = cs.length := by have := of_decide_eq_false h3; omega
    conv => whnf
    refine (hQ1 _ _ _).mpr ?_
    -- R:F
    conv => whnf
    rw [hge, List.take_of_length_le (by rw [blank_len]; exact Nat.le_refl _)]

theorem op59 : Opens PR 59 := ⟨_, Tryd.func59, rfl, rfl⟩

end Go.Ab.StF
