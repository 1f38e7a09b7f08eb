/-
  THE STATE FAMILY, PART OF: StateOrders; the reference's Last.
-/
import Derived.Test.YtmhbchljhnfahaaDoorLawB
import Derived.Test.YtmhbchljhnfahaaDoorRefB
import Derived.Test.YtmhbchljhnfahaaDoorEngC
namespace Go.Ab.StF
open Go Go.Ab Go.Proofs
set_option maxHeartbeats 1000000
set_option maxRecDepth 100000

theorem c51R (gl : Gl) {n : Nat} (o : List Int × List Int) (ho : OkO n o) (k e : Nat) : PCalls PR gl 51 [.agg [vL o.1, vL o.2], vI k] fun r => r = .sl (S := S) U.int (stateS k o) (some e) := by
  refine fnR_sound (e := e) (par_ok gl) Tryd.func51 ?_
  conv => whnf
  refine ⟨⟨102, [4], [4, 5]⟩, ?_⟩
  refine LoopW_ind _ (fun i : Nat => (({ tmps := [.undef, vI k, .own 2 [], .undef, .undef, .sl (S := S) U.int ((List.range i).map (atV o.1 o.2 k)) (some 5), vI i, .undef, .undef, .undef, .undef, .undef, .undef, .undef, .undef, .undef, .undef, .undef, .undef, .undef, .undef, .undef], seg := [(2, .cells [vL o.1, vL o.2]), (5, .row U.int false)], up := [] } : St S))) (fun i : Nat => (i ≤ o.1.length)) (fun i : Nat => (o.1.length - i)) () ?_ 0 (Nat.zero_le _)
  intro i hi Z1 hZ1
  have hn5 := ho.n5
  have hl := ho.l
  have hm := ho.m
  conv => whnf
  refine bcase_iff.2 ⟨fun h3 => ?_, fun h3 => ?_⟩
  · skip
    have hlt : i < o.1.length := by have := of_decide_eq_true h3; omega
    have hw : IntKind.i64.wrap ((i : Int) + 1) = ((i + 1 : Nat) : Int) := wrap_nat (by omega)
    conv => whnf
    refine byC (c107 gl o.1 o.2 (by omega) k i hlt ho.v) op107 ?_
    conv => whnf
    refine ⟨_, rfl, ?_⟩
    conv => whnf
    refine ⟨lim (by simp only [List.length_map, List.length_range, List.length_cons, List.length_nil]; omega), ?_⟩
    -- Z3:T
    conv => whnf
    refine ⟨⟨102, [19, 20], []⟩, ?_⟩
    conv => whnf
    rw [hw, ← rm_succ]
    exact hZ1 (i + 1) hlt (by omega)
  · skip
    have hge : i = o.1.length := by have := of_decide_eq_false h3; omega
    -- R:F
    conv => whnf
    refine ⟨fun _ => rfl, ?_⟩
    rw [hge]
    rfl


theorem sameL_snoc {l : List Int} (h : l ≠ []) (v : Int) : sameL 0 (l ++ [v]) = if v ≠ sameL 0 l then 0 else sameL 0 l := by
  cases l with
  | nil => exact absurd rfl h
  | cons x t =>
    show (if (t ++ [v]).all (· == x) then x else 0) = if v ≠ (if t.all (· == x) then x else 0) then 0 else (if t.all (· == x) then x else 0)
    rw [List.all_append]
    cases t.all (· == x) with
    | false => simp
    | true => by_cases e : v = x <;> simp [e]

/-- The last readings, of the first orders: some of the loci have one order more. -/
def lasU (n : Nat) (L : List (List Int × List Int)) (i k : Nat) : List Int := (List.range n).map fun j => sameL 0 ((L.take (if j < k then i + 1 else i)).map fun o => atV o.1 o.2 n j)
theorem lasU_len (n : Nat) (L : List (List Int × List Int)) (i k : Nat) : (lasU n L i k).length = n := by simp [lasU]
theorem lasU_at {n : Nat} {L : List (List Int × List Int)} {i k j : Nat} (h : j < (lasU n L i k).length) : (lasU n L i k)[j] = sameL 0 ((L.take (if j < k then i + 1 else i)).map fun o => atV o.1 o.2 n j) := by simp [lasU]
theorem lasU_new {n : Nat} {L : List (List Int × List Int)} {i k : Nat} (hi : i < L.length) (h1 : 1 ≤ i) (v : Int) (hv : v = atV L[i].1 L[i].2 n k) (hk : k < (lasU n L i k).length) :
    sameL 0 ((L.take (i + 1)).map fun o => atV o.1 o.2 n k) = if v ≠ (lasU n L i k)[k] then 0 else (lasU n L i k)[k] := by
  have hne : ((L.take i).map fun o => atV o.1 o.2 n k) ≠ [] := fun h => by
    have := congrArg List.length h
    rw [List.length_map, List.length_take, List.length_nil] at this
    omega
  rw [lasU_at hk, if_neg (Nat.lt_irrefl k), take_succ' hi, List.map_append, List.map_singleton, sameL_snoc hne, hv]
theorem lasU_T {n : Nat} {L : List (List Int × List Int)} {i k : Nat} (hi : i < L.length) (h1 : 1 ≤ i) {v : Int} (hv : v = atV L[i].1 L[i].2 n k) (hk : k < (lasU n L i k).length) (h : v ≠ (lasU n L i k)[k]) : (lasU n L i k).set k 0 = lasU n L i (k + 1) := by
  have hn := lasU_new hi h1 v hv hk
  rw [if_pos h] at hn
  apply List.ext_getElem (by rw [List.length_set, lasU_len, lasU_len])
  intro j a b
  rw [lasU_at b, List.getElem_set]
  by_cases e : k = j
  · subst e; rw [if_pos rfl, if_pos (Nat.lt_succ_self k), hn]
  · rw [if_neg e, lasU_at]
    congr 3
    by_cases c : j < k
    · rw [if_pos c, if_pos (by omega)]
    · rw [if_neg c, if_neg (by omega)]
theorem lasU_F {n : Nat} {L : List (List Int × List Int)} {i k : Nat} (hi : i < L.length) (h1 : 1 ≤ i) {v : Int} (hv : v = atV L[i].1 L[i].2 n k) (hk : k < (lasU n L i k).length) (h : v = (lasU n L i k)[k]) : lasU n L i k = lasU n L i (k + 1) := by
  have hn := lasU_new hi h1 v hv hk
  rw [if_neg (fun x => x h)] at hn
  apply List.ext_getElem (by rw [lasU_len, lasU_len])
  intro j a b
  rw [lasU_at b]
  by_cases e : k = j
  · subst e; rw [if_pos (Nat.lt_succ_self k), hn]
  · rw [lasU_at]
    congr 3
    by_cases c : j < k
    · rw [if_pos c, if_pos (by omega)]
    · rw [if_neg c, if_neg (by omega)]
theorem lasU_next {n : Nat} {L : List (List Int × List Int)} {i : Nat} : lasU n L i n = lasU n L (i + 1) 0 := by
  unfold lasU
  apply List.map_congr_left
  intro j hj
  rw [if_pos (List.mem_range.1 hj), if_neg (Nat.not_lt_zero j)]
theorem lasU_one {n : Nat} {L : List (List Int × List Int)} (h : 0 < L.length) (hl : L[0].1.length = n) : stateS n L[0] = lasU n L 1 0 := by
  unfold stateS lasU
  rw [hl]
  apply List.map_congr_left
  intro j _
  rw [if_neg (Nat.not_lt_zero j), take_succ' h]
  rfl
theorem lasU_all (n : Nat) (L : List (List Int × List Int)) : lasU n L L.length 0 = (List.range n).map fun j => sameL 0 (L.map fun o => atV o.1 o.2 n j) := by
  unfold lasU
  apply List.map_congr_left
  intro j _
  rw [if_neg (Nat.not_lt_zero j), List.take_length]
theorem state_at {n : Nat} {o : List Int × List Int} {k : Nat} (_hl : o.1.length = n) (h : k < (stateS n o).length) : (stateS n o)[k] = atV o.1 o.2 n k := by simp [stateS]

theorem c25 (gl : Gl) (xs : List (ByteArray × Int)) (cs : List (ByteArray × List Int)) (hN : LensN xs cs) : PCalls PR gl 25 [.agg [lociV xs, copsV cs]] fun r => r = lstV (lastS xs cs) := by
  refine fnW_sound (par_ok gl) Tryd.func25 ?_
  conv => whnf
  refine byC (c78 gl xs cs hN 0 (by omega) (by omega) [] (by simp)) op78 ?_
  rcases Classical.em (askR xs cs 0 [] = 0) with hk | hk
  · skip
    rw [askedV_ok hk]
    obtain ⟨hv, hns, hne⟩ := ask_valid hk
    have h5 := hv.l5
    have hc8 := hv.c8
    have hLl : (agrL xs cs).length ≤ 100000 := Nat.le_trans (List.length_filter_le _ _) (allL_len h5)
    have hLo : ∀ o ∈ agrL xs cs, OkO xs.length o := fun o ho => allL_ok h5 (List.mem_filter.1 ho).1
    have hL0 : 0 < (agrL xs cs).length := List.length_pos_iff.2 hne
    have hR : lastS xs cs = ((List.range xs.length).map fun j => sameL 0 ((agrL xs cs).map fun o => atV o.1 o.2 xs.length j), 0) := by unfold lastS; rw [if_neg (fun h => h hk)]
    generalize agrL xs cs = L at hLl hLo hL0 hne hR ⊢
    have hol : ∀ i (hi : i < L.length), L[i].1.length = xs.length := fun i hi => (hLo _ (List.getElem_mem hi)).l
    conv => whnf
    refine ⟨[0, 1, 2, 3, 4, 5, 6, 7], [6], [], [], ⟨288230376151711743, [], []⟩, by decide +kernel, ?_⟩
    conv => whnf
    refine ⟨_, getI_zero hL0, ?_⟩
    conv => whnf
    refine byC (c51R gl L[0] (hLo _ (List.getElem_mem hL0)) xs.length 24) op51 ?_
    conv => whnf
    rw [lasU_one hL0 (hol 0 hL0)]
    refine loop_q fun Q1 hQ1 => ?_
    refine ⟨⟨210, [2], [2]⟩, ?_⟩
    refine LoopW_ind _ (fun i : Nat => (({ tmps := [.undef, .own 1 [], .undef, .undef, ordsV L, .undef, .sl (S := S) U.int (lasU xs.length L i 0) (some 24), vI i, .undef, .undef, .undef, .undef, .undef, .undef, .undef, .undef, .undef, .undef, .undef, .undef, .undef, .undef, .undef, .undef, .undef, .undef, .undef, .undef, .undef, .undef, .undef, .undef, .undef, .undef, .undef, .undef, .undef, .undef, .undef, .undef, .undef, .undef, .undef, .undef, .undef, .undef, .undef, .undef, .undef, .undef, .undef, .undef, .undef, .undef, .undef, .undef, .undef, .undef], seg := [(1, .cells [lociV xs, copsV cs]), (24, .row U.int true)], up := [] } : St S))) (fun i : Nat => (1 ≤ i ∧ i ≤ L.length)) (fun i : Nat => (L.length - i)) () ?_ 1 ⟨Nat.le_refl _, hL0⟩
    intro i hinv Z1 hZ1
    obtain ⟨hi1, hi⟩ := hinv
    conv => whnf
    refine bcase_iff.2 ⟨fun h6 => ?_, fun h6 => ?_⟩
    · skip
      have hlt : i < L.length := by have := of_decide_eq_true h6; omega
      have hw : IntKind.i64.wrap ((i : Int) + 1) = ((i + 1 : Nat) : Int) := wrap_nat (by omega)
      conv => whnf
      refine ⟨[0, 1, 2, 3, 4, 5, 6, 7, 8], [], [], [], ⟨288230376151711743, [], []⟩, by decide +kernel, ?_⟩
      conv => whnf
      refine ⟨_, getI_nat hlt, ?_⟩
      conv => whnf
      refine byC (c51 gl L[i] (hLo _ (List.getElem_mem hlt)) xs.length) op51 ?_
      conv => whnf
      refine loop_q fun Q2 hQ2 => ?_
      refine ⟨⟨978, [], []⟩, ?_⟩
      refine LoopW_ind _ (fun k : Nat => (({ tmps := [.undef, .own 1 [], .undef, .undef, ordsV L, .undef, .sl (S := S) U.int (lasU xs.length L i k) (some 24), vI i, vL (stateS xs.length L[i]), vI k, .undef, .undef, .undef, .undef, .undef, .undef, .undef, .undef, .undef, .undef, .undef, .undef, .undef, .undef, .undef, .undef, .undef, .undef, .undef, .undef, .undef, .undef, .undef, .undef, .undef, .undef, .undef, .undef, .undef, .undef, .undef, .undef, .undef, .undef, .undef, .undef, .undef, .undef, .undef, .undef, .undef, .undef, .undef, .undef, .undef, .undef, .undef, .undef], seg := [(1, .cells [lociV xs, copsV cs]), (24, .row U.int true)], up := [] } : St S))) (fun k : Nat => (k ≤ xs.length)) (fun k : Nat => (xs.length - k)) () ?_ 0 (Nat.zero_le _)
      intro k hi Z2 hZ2
      have hsl : (stateS xs.length L[i]).length = xs.length := by rw [stateS_len, hol i hlt]
      have hll := lasU_len xs.length L i k
      conv => whnf
      refine bcase_iff.2 ⟨fun h10 => ?_, fun h10 => ?_⟩
      · skip
        have hltk : k < xs.length := by have := of_decide_eq_true h10; omega
        have hwk : IntKind.i64.wrap ((k : Int) + 1) = ((k + 1 : Nat) : Int) := wrap_nat (by omega)
        have hk1 : k < (stateS xs.length L[i]).length := by omega
        have hk2 : k < (lasU xs.length L i k).length := by omega
        have hsv := state_at (hol i hlt) hk1
        conv => whnf
        refine ⟨[0, 1, 2, 3, 4, 5, 6, 7, 8], [6, 7, 800006], [6, 7], [], ⟨288230376151711743, [], []⟩, by decide +kernel, ?_⟩
        conv => whnf
        refine ⟨_, getI_nat hk1, ?_⟩
        conv => whnf
        refine ⟨_, getI_nat hk2, ?_⟩
        conv => whnf
        refine ⟨_, getI_nat hk2, ?_⟩
        conv => whnf
        refine bcase_iff.2 ⟨fun h12 => ?_, fun h12 => ?_⟩
        · skip
          have h12 : (stateS xs.length L[i])[k] ≠ (lasU xs.length L i k)[k] := by have h12 : ((stateS xs.length L[i])[k] != (lasU xs.length L i k)[k]) = true := h12; simpa using h12
          conv => whnf
          refine ⟨true, ⟨_, getI_nat hk2, ?_⟩⟩
          conv => whnf
          refine ⟨_, rfl, ?_⟩
          -- Z10:TT
          conv => whnf
          refine ⟨⟨978, [], []⟩, ?_⟩
          conv => whnf
          have := hZ2 (k + 1) hltk (by omega)
          rw [← lasU_T hlt hi1 hsv hk2 h12] at this
          rw [hwk]
          exact this
        · skip
          have h12 : (stateS xs.length L[i])[k] = (lasU xs.length L i k)[k] := by have h12 : ((stateS xs.length L[i])[k] != (lasU xs.length L i k)[k]) = false := h12; simpa using h12
          -- Z10:TF
          conv => whnf
          refine ⟨⟨978, [], []⟩, ?_⟩
          conv => whnf
          have := hZ2 (k + 1) hltk (by omega)
          rw [← lasU_F hlt hi1 hsv hk2 h12] at this
          rw [hwk]
          exact this
      · skip
        have hgk : k = xs.length := by have := of_decide_eq_false h10; omega
        conv => whnf
        refine (hQ2 _ _ _).mpr ?_
        -- Z6:TF
        conv => whnf
        refine ⟨⟨210, [], []⟩, ?_⟩
        conv => whnf
        rw [hw, hgk, lasU_next]
        exact hZ1 (i + 1) ⟨by omega, hlt⟩ (by omega)
    · skip
      have hge : i = L.length := by have := of_decide_eq_false h6; omega
      conv => whnf
      refine (hQ1 _ _ _).mpr ?_
      -- R:aF
      conv => whnf
      rw [hR, hge, lasU_all]
  · skip
    rw [askedV_no hk]
    conv => whnf
    refine bcase_iff.2 ⟨fun h2 => ?_, fun h2 => ?_⟩
    · skip
      -- R:bT
      conv => whnf
      unfold lastS
      rw [if_pos hk]
    · skip
      exfalso
      have h2 : (askR xs cs 0 [] != 0) = false := h2
      exact hk (by simpa using h2) --done

theorem op25 : Opens PR 25 := ⟨_, Tryd.func25, rfl, rfl⟩


theorem bne_sf {a : Int} (h : (a != a) = true) : False := by simp at h
theorem beq_sf {a : Int} (h : (a == a) = false) : False := by simp at h
theorem odd_len (xs : List (ByteArray × Int)) (cs : List (ByteArray × List Int)) (fs os : List Int) (hc : cs.length ≤ 9223372036854775807) : (oddS xs cs fs os).1.length ≤ 9223372036854775807 := by
  have h : (natsV (amidL cs (fs, os))).length ≤ cs.length := nf_len _ _
  unfold oddS
  split
  · simp
  · split
    · simp
    · exact Nat.le_trans h hc
theorem last_len (xs : List (ByteArray × Int)) (cs : List (ByteArray × List Int)) (hx : xs.length ≤ 9223372036854775807) : (lastS xs cs).1.length ≤ 9223372036854775807 := by
  unfold lastS
  split
  · simp
  · simpa using hx
theorem firstS_len (xs : List (ByteArray × Int)) (cs : List (ByteArray × List Int)) : (firstS xs cs).1.1.length ≤ 9223372036854775807 ∧ (firstS xs cs).1.2.length ≤ 9223372036854775807 := by
  by_cases hc : (chk xs cs).2.2 = 0
  · by_cases ha : agrL xs cs = []
    · rw [first_no hc ha]; exact ⟨by simp, by simp⟩
    · obtain ⟨o, ho⟩ := List.exists_mem_of_ne_nil _ ha
      have hv := chk_valid hc
      have h := (ord_okO hv.l5 (agr_ord (head_first ho).1))
      have h1 := h.l
      have h2 := h.m
      have h5 := hv.l5
      rw [first_ok hc ha]
      simp only
      omega
  · rw [first_err hc]; exact ⟨by simp, by simp⟩

theorem c3 (xs : List (ByteArray × Int)) (cs : List (ByteArray × List Int)) (hN : LensN xs cs) (fs os : List Int) (hfs : fs.length ≤ 9223372036854775807) (hos : os.length ≤ 9223372036854775807) : PCalls PR glT 3 [.agg [lociV xs, copsV cs], .agg [vL fs, vL os]] fun r => r = vB true := by
  obtain ⟨O, hO⟩ : ∃ O, O = oddS xs cs fs os := ⟨_, rfl⟩
  obtain ⟨F, hF⟩ : ∃ F, F = firstS xs cs := ⟨_, rfl⟩
  obtain ⟨L, hL⟩ : ∃ L, L = lastS xs cs := ⟨_, rfl⟩
  have hOl := odd_len xs cs fs os hN.c
  have hFl := firstS_len xs cs
  have hLl := last_len xs cs hN.x
  rw [← hO] at hOl
  rw [← hF] at hFl
  rw [← hL] at hLl
  refine fnW_sound (par_ok glT) Tryd.func3 ?_
  conv => whnf
  refine byC (c16 glT xs cs hN.x hN.c hN.s) op16 ?_
  conv => whnf
  refine byC (c17 glT xs cs hN) op17 ?_
  conv => whnf
  refine bcase_iff.2 ⟨fun g3_3 => ?_, fun g3_3 => ?_⟩
  · skip
    exfalso
    exact bne_sf g3_3 --done
  · skip
    conv => whnf
    refine bcase_iff.2 ⟨fun g3_8 => ?_, fun g3_8 => ?_⟩
    · skip
      exfalso
      exact bne_sf g3_8 --done
    · skip
      conv => whnf
      refine bcase_iff.2 ⟨fun h3 => ?_, fun h3 => ?_⟩
      · skip
        exfalso
        exact bne_sf h3 --done
      · skip
        conv => whnf
        refine byC (to (c18 glT xs cs hN.toLens fs os hfs hos) (by rw [odd_eq, ← hO])) op18 ?_
        conv => whnf
        refine byC (to (c19 glT xs cs hN fs os) (by rw [← hO])) op19 ?_
        conv => whnf
        refine byC (to (c20 glT O.1 O.1 hOl) (congrArg _ (decide_eq_true rfl))) op20 ?_
        conv => whnf
        refine bcase_iff.2 ⟨fun h7 => ?_, fun h7 => ?_⟩
        · skip
          exfalso
          exact bne_sf h7 --done
        · skip
          conv => whnf
          refine byC (to (c21 glT xs cs hN.toLens) (by rw [first_eq, ← hF])) op21 ?_
          conv => whnf
          refine byC (to (c22 glT xs cs hN) (by rw [← hF])) op22 ?_
          conv => whnf
          refine byC (to (c23 glT F.1 F.1 hFl.1 hFl.2) (congrArg _ (decide_eq_true rfl))) op23 ?_
          conv => whnf
          refine bcase_iff.2 ⟨fun g11_9 => ?_, fun g11_9 => ?_⟩
          · skip
            exfalso
            exact bne_sf g11_9 --done
          · skip
            conv => whnf
            refine bcase_iff.2 ⟨fun h11 => ?_, fun h11 => ?_⟩
            · skip
              exfalso
              exact bne_sf h11 --done
            · skip
              conv => whnf
              refine byC (to (c24 glT xs cs hN.toLens) (by rw [last_eq, ← hL])) op24 ?_
              conv => whnf
              refine byC (to (c25 glT xs cs hN) (by rw [← hL])) op25 ?_
              conv => whnf
              refine byC (to (c20 glT L.1 L.1 hLl) (congrArg _ (decide_eq_true rfl))) op20 ?_
              conv => whnf
              refine bcase_iff.2 ⟨fun g15_8 => ?_, fun g15_8 => ?_⟩
              · skip
                conv => whnf
                refine byC ((c26)) op26 ?_
                -- R:FFFFFFT
                conv => whnf
                first | done | rfl
              · skip
                exfalso
                exact beq_sf g15_8 --done

end Go.Ab.StF
