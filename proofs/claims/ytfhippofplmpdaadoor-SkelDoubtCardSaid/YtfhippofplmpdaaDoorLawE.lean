/-
  THE SKELETON FAMILY, PART PV: jobs with some of the sightings, and what agrees: plain.
  THE SKELETON FAMILY, PART LH: the law SkelDoubt.
-/
import Derived.Test.YtfhippofplmpdaaDoorLawD
namespace Go.Ab.SkF
open Go Go.Ab Go.Ab.Pln

/-- Sightings that are in order: each is, and no two tell of the same. -/
structure SiOk (n nt : Nat) (ss : Sgs) : Prop where
  each : ∀ s ∈ ss, 0 ≤ s.1 ∧ s.1 < n ∧ 0 ≤ s.2.1 ∧ s.2.1 < nt ∧ 0 ≤ s.2.2 ∧ s.2.2 ≤ 2
  two : ss.Pairwise fun a b => ¬ (a.1 = b.1 ∧ a.2.1 = b.2.1)
theorem si_ok {n nt : Nat} {ss : Sgs} (h : SiOk n nt ss) {i : Nat} (hi : i < ss.length) : siF n nt ss i = 0 := by
  obtain ⟨h1, h2, h3, h4, h5, h6⟩ := h.each _ (List.getElem_mem hi)
  unfold siF siE
  rw [getD_at hi, if_neg, if_neg, if_neg]
  · rw [List.any_eq_true]
    rintro ⟨y, hy, he⟩
    obtain ⟨j, hj, rfl⟩ := List.mem_take_iff_getElem.1 hy
    rw [Bool.and_eq_true, beq_iff_eq, beq_iff_eq] at he
    exact List.pairwise_iff_getElem.1 h.two j i (by omega) hi (by omega) he
  · rw [Bool.not_eq_true]; exact (out1 _ _ _).2 ⟨h5, h6⟩
  · rw [Bool.not_eq_true, Bool.or_eq_false_iff]; exact ⟨(out1 _ _ _).2 (by omega), (out1 _ _ _).2 (by omega)⟩
theorem Valid.ok {ts : List ByteArray} {fs : Fms} {ss : Sgs} (v : Valid ts fs ss) : SiOk fs.length ts.length ss := by
  refine ⟨fun s hs => ?_, List.pairwise_iff_getElem.2 fun i j hi hj hij he => ?_⟩
  · obtain ⟨i, hi, rfl⟩ := List.getElem_of_mem hs
    obtain ⟨h1, h2, h3, h4, h5, h6, _⟩ := v.sight hi
    exact ⟨h1, h2, h3, h4, h5, h6⟩
  · exact (v.sight hj).2.2.2.2.2.2 i hij he.1 he.2
theorem Valid.with {ts : List ByteArray} {fs : Fms} {ss ss' : Sgs} (v : Valid ts fs ss) (h : SiOk fs.length ts.length ss') (hl : ss'.length ≤ 12) : Valid ts fs ss' :=
  ⟨v.t6, v.tn, v.n1, v.n7, v.fo, hl, fun _ hi => si_ok h hi⟩
theorem SiOk.sub {n nt : Nat} {ss ss' : Sgs} (h : SiOk n nt ss) (hs : ss'.Sublist ss) : SiOk n nt ss' := ⟨fun s hm => h.each s (hs.subset hm), h.two.sublist hs⟩
theorem pick_sublist (ss : Sgs) (p : Nat → Bool) : (pickS ss p).Sublist ss := by
  unfold pickS pickU
  have h : (List.range ss.length).map (fun i => ss.getD i s0) = ss := by
    apply List.ext_getElem
    · simp
    · intro i h1 h2; rw [List.getElem_map, List.getElem_range, getD_at h2]
  conv => rhs; rw [← h]
  exact List.Sublist.map _ List.filter_sublist
theorem Valid.pick {ts : List ByteArray} {fs : Fms} {ss : Sgs} (v : Valid ts fs ss) (p : Nat → Bool) : Valid ts fs (pickS ss p) :=
  v.with (v.ok.sub (pick_sublist ss p)) (Nat.le_trans (pick_sublist ss p).length_le v.s12)

theorem crackR_ok {ts : List ByteArray} {fs : Fms} {ss : Sgs} (hk : chE ts fs ss = 0) {t : Nat} (ht : t < ts.length) : crackR ts fs ss t = if (crackS fs ss t).1 > (crackS fs ss t).2 then (0, 0, 8) else ((crackS fs ss t).1, (crackS fs ss t).2, 0) := by
  unfold crackR
  rw [if_neg (fun h => h hk), if_neg (by rw [(out1 _ _ _).2 (by omega)]; simp)]
/-- Can a type have cracked? -/
def okC (fs : Fms) (ss : Sgs) (t : Nat) : Bool := decide ((crackS fs ss t).1 ≤ (crackS fs ss t).2)
theorem crackR_e {ts : List ByteArray} {fs : Fms} {ss : Sgs} (hk : chE ts fs ss = 0) {t : Nat} (ht : t < ts.length) : ((crackR ts fs ss t).2.2 != 0) = !okC fs ss t := by
  rw [crackR_ok hk ht]
  unfold okC
  split
  · rename_i h; rw [decide_eq_false (by omega)]; rfl
  · rename_i h; rw [decide_eq_true (by omega)]; rfl
theorem agree_all {nt : Nat} {fs : Fms} {ss : Sgs} (hJ : clashJ fs ss = none) : agreeB nt fs ss = (List.range nt).all (okC fs ss) := by unfold agreeB; rw [hJ]; rfl
theorem less_nil {nt : Nat} {fs : Fms} {ss : Sgs} : lessP nt fs ss [] = agreeB nt fs ss := by
  unfold lessP
  rw [pick_all (ss := ss) (p := fun i => !([] : List Nat).contains i) fun i _ => rfl]
theorem doubt_nil {nt : Nat} {fs : Fms} {ss : Sgs} {l : List Nat} (h : LeastL ss.length (lessP nt fs ss) l) : (l.length == 0) = agreeB nt fs ss := by
  cases hA : agreeB nt fs ss with
  | true =>
    have := h.least [] ⟨.nil, fun x hx => by cases hx⟩ (by rw [less_nil]; exact hA)
    simp at this; simp [this]
  | false =>
    rw [beq_eq_false_iff_ne]
    intro e
    have e := List.eq_nil_of_length_eq_zero e
    have := h.does
    rw [e, less_nil, hA] at this
    cases this
/-- The bit of a number, as the law asks for it. -/
theorem bitR {b i : Nat} (hi : i < 64) : ((shrI .i64 (b : Int) (i : Int)).tmod 2 == 1) = b.testBit i := by
  rw [shr_nat hi, Nat.testBit_eq_decide_div_mod_eq]
  generalize b / 2 ^ i = q
  rw [Int.tmod_eq_emod_of_nonneg (Int.natCast_nonneg q), Bool.eq_iff_iff, beq_iff_eq, decide_eq_true_eq]
  omega
theorem asc_get {c : Nat} {l : List Nat} (h : Asc 0 c l) {i : Nat} (hi : i < l.length) : l.getD i 0 < c := by rw [getD_at hi]; exact (h.2 _ (List.getElem_mem hi)).2
theorem asc_next {c : Nat} {l : List Nat} (h : Asc 0 c l) {i : Nat} (hi : i < l.length) (h0 : 0 < i) : l.getD (i - 1) 0 < l.getD i 0 := by
  rw [getD_at hi, getD_at (by omega)]
  exact List.pairwise_iff_getElem.1 h.1 _ _ _ _ (by omega)
end Go.Ab.SkF

namespace Go.Ab.SkF
open Go Go.Ab Go.Ab.Pln Go.Proofs
set_option maxHeartbeats 1000000
set_option maxRecDepth 100000

theorem lens_pick {ts : List ByteArray} {fs : Fms} {ss : Sgs} (h : LensJ ts fs ss) (p : Nat → Bool) : LensJ ts fs (pickS ss p) := ⟨h.t, h.f, Nat.le_trans (pick_sublist ss p).length_le h.s, h.tn, h.fn⟩

theorem c50 (ts : List ByteArray) (fs : List Fm) (ss : List Sg) (hL : LensJ ts fs ss) (hk : chE ts fs ss = 0) : PCalls PR glT 50 [.agg [strsV ts, fmsV fs, sgsV ss]] fun r => r = vB (agreeB ts.length fs ss) := by
  have hV := chk_valid.1 hk
  have hv := hV.job
  have ht6 := hv.t6
  have h21 := c21 ts fs ss hL
  refine fnW_sound (par_ok glT) Tryd.func50 ?_
  conv => whnf
  rcases hJ : clashJ fs ss with _ | ⟨a, b⟩
  · skip
    rw [clashR_none hk hJ] at h21
    refine byC h21 op21 ?_
    conv => whnf
    refine ⟨⟨66, [], []⟩, ?_⟩
    refine LoopW_ind _ (fun i : Nat => (({ tmps := [.undef, .own 1 [], .undef, .undef, .undef, .undef, vI i, .undef, .undef, .undef, .undef, .undef, .undef, .undef, .undef, .undef, .undef, .undef, .undef, .undef, .undef, .undef, .undef, .undef, .undef, .undef, .undef, .undef, .undef, .undef, .undef, .undef], seg := [(1, .cells [strsV ts, fmsV fs, sgsV ss])], up := [] } : St S))) (fun i : Nat => (i ≤ ts.length ∧ (List.range i).all (okC fs ss) = true)) (fun i : Nat => (ts.length - i)) () ?_ 0 ⟨Nat.zero_le _, rfl⟩
    intro i hinv Z1 hZ1
    obtain ⟨hi, hn⟩ := hinv
    conv => whnf
    refine bcase_iff.2 ⟨fun h5 => ?_, fun h5 => ?_⟩
    · skip
      have hlt : i < ts.length := by have := of_decide_eq_true h5; omega
      have hw : IntKind.i64.wrap ((i : Int) + 1) = ((i + 1 : Nat) : Int) := wrap_nat (by omega)
      conv => whnf
      refine byC (c23 glT ts fs ss hL i) op23 ?_
      conv => whnf
      refine bcase_iff.2 ⟨fun h8 => ?_, fun h8 => ?_⟩
      · skip
        have q : okC fs ss i = false := by have g : ((crackR ts fs ss i).2.2 != 0) = true := h8; rw [crackR_e hk hlt] at g; simpa using g
        -- R:aTT
        conv => whnf
        rw [agree_all hJ, rall_miss hlt q]
      · skip
        have q : okC fs ss i = true := by have g : ((crackR ts fs ss i).2.2 != 0) = false := h8; rw [crackR_e hk hlt] at g; simpa using g
        -- Z5:TF
        conv => whnf
        refine ⟨⟨66, [7, 1007, 2007, 3007, 4007], []⟩, ?_⟩
        conv => whnf
        rw [hw]
        exact hZ1 (i + 1) ⟨hlt, rall_succ hn q⟩ (by omega)
    · skip
      have hge : i = ts.length := by have := of_decide_eq_false h5; omega
      -- R:aF
      conv => whnf
      rw [hge] at hn
      rw [agree_all hJ, hn]
  · skip
    rw [clashR_some hk hJ] at h21
    refine byC h21 op21 ?_
    -- R:b
    conv => whnf
    rw [agree_cl hJ]

theorem op50 : Opens PR 50 := ⟨_, Tryd.func50, rfl, rfl⟩

theorem c10 (ts : List ByteArray) (fs : List Fm) (ss : List Sg) (hL : LensJ ts fs ss) (bits : Int) (hbits : 0 ≤ bits ∧ bits ≤ 65535) : PCalls PR glT 10 [.agg [strsV ts, fmsV fs, sgsV ss], .int .u16 bits] fun r => r = vB true := by
  have hwb : IntKind.i64.wrap bits = ((bits.toNat : Nat) : Int) := by rw [wrap_int (by omega) (by omega)]; omega
  generalize bits.toNat = B at hwb
  refine fnW_sound (par_ok glT) Tryd.func10 ?_
  conv => whnf
  have h25 := c25 ts fs ss hL
  rcases Classical.em (chE ts fs ss = 0) with hk | hk
  · skip
    have hV := chk_valid.1 hk
    have hv := hV.job
    have h8 := hv.n8
    have hs6 := hv.s6
    have hf7 := hV.n7
    have h12 := hV.s12
    have h41 := c41t glT ts fs ss hL hk
    have hD := (doubt_find hv (by omega)).2.2
    have hR : doubtR ts fs ss = (natsV (doubtL ts.length fs ss), 0) := by unfold doubtR; rw [if_neg (fun h => h hk)]
    rw [hR] at h25
    generalize doubtL ts.length fs ss = D at hD h25
    have hDl := asc_le hD.asc
    have hDn := natsV_length D
    have hD0 := doubt_nil hD
    have h51 := c51 glT ts fs ss (by omega) D (by omega)
    have hpv := hV.pick (fun i => !D.contains i)
    have h50 := c50 ts fs (pickS ss fun i => !D.contains i) (lens_pick hL _) (chk_valid.2 hpv)
    rw [show agreeB ts.length fs (pickS ss fun i => !D.contains i) = true from hD.does] at h50
    have h50a := c50 ts fs ss hL hk
    refine byC h25 op25 ?_
    conv => whnf
    refine byC h41 op41 ?_
    conv => whnf
    refine byC h51 op51 ?_
    conv => whnf
    refine byC h50 op50 ?_
    conv => whnf
    refine byC h50a op50 ?_
    conv => whnf
    refine bcase_iff.2 ⟨fun h4 => ?_, fun h4 => ?_⟩
    · skip
      exfalso
      have g : ((((natsV D).length : Int) == 0) != agreeB ts.length fs ss) = true := h4
      rw [hDn, ← hD0, show (((D.length : Nat) : Int) == 0) = (D.length == 0) from eqN] at g
      simp at g --done
    · skip
      conv => whnf
      refine ⟨⟨422, [], [7]⟩, ?_⟩
      refine LoopW_ind _ (fun i : Nat => (({ tmps := [.undef, .int .u16 bits, .own 2 [], .undef, .undef, vL (natsV D), .undef, .sl (S := S) U.int (natsV ((List.range i).filter B.testBit)) (some 7), vI i, .undef, .undef, .undef, .undef, .undef, .undef, .undef, .undef, .undef, .undef, .undef, .undef, .undef, .undef, .undef, .undef, .undef, .undef, .undef, .undef, .undef, .undef, .undef, .undef, .undef, .undef, .undef, .undef, .undef, .undef, .undef, .undef, .undef, .undef, .undef, .undef, .undef, .undef, .undef, .undef, .undef, .undef, .undef, .undef, .undef, .undef, .undef, .undef, .undef, .undef, .undef, .undef, .undef, .undef, .undef, .undef, .undef, .undef, .undef, .undef, .undef, .undef, .undef, .undef, .undef, .undef, .undef, .undef, .undef, .undef, .undef, .undef, .undef, .undef, .undef, .undef, .undef, .undef, .undef, .undef, .undef, .undef, .undef, .undef, .undef, .undef, .undef, .undef, .undef, .undef, .undef, .undef, .undef, .undef, .undef, .undef, .undef, .undef, .undef, .undef, .undef, .undef, .undef, .undef, .undef], seg := [(2, .cells [strsV ts, fmsV fs, sgsV ss]), (7, .row U.int false)], up := [] } : St S))) (fun i : Nat => (i ≤ ss.length)) (fun i : Nat => (ss.length - i)) () ?_ 0 (Nat.zero_le _)
      intro i hi Z1 hZ1
      conv => whnf
      refine bcase_iff.2 ⟨fun h8x => ?_, fun h8x => ?_⟩
      · skip
        have hlt : i < ss.length := by have := of_decide_eq_true h8x; omega
        have hw : IntKind.i64.wrap ((i : Int) + 1) = ((i + 1 : Nat) : Int) := wrap_nat (by omega)
        conv => whnf
        refine ⟨by omega, ?_⟩
        conv => whnf
        refine ⟨by decide, ?_⟩
        conv => whnf
        refine bcase_iff.2 ⟨fun h10 => ?_, fun h10 => ?_⟩
        · skip
          have q : B.testBit i = true := by have g : ((shrI .i64 (IntKind.i64.wrap bits) (i : Int)).tmod 2 == 1) = true := h10; rw [hwb, bitR (by omega)] at g; exact g
          conv => whnf
          refine ⟨_, rfl, ?_⟩
          conv => whnf
          have hfl := filt_len B.testBit i
          conv => whnf
          refine ⟨Pln.lim (by show (natsV ((List.range i).filter B.testBit)).length + 1 ≤ _; omega), ?_⟩
          -- Z8:TT
          conv => whnf
          refine ⟨⟨422, [60, 61], []⟩, ?_⟩
          conv => whnf
          rw [hw, filt_T q]
          exact hZ1 (i + 1) hlt (by omega)
        · skip
          have q : B.testBit i = false := by have g : ((shrI .i64 (IntKind.i64.wrap bits) (i : Int)).tmod 2 == 1) = false := h10; rw [hwb, bitR (by omega)] at g; exact g
          -- Z8:TF
          conv => whnf
          refine ⟨⟨422, [60, 61], []⟩, ?_⟩
          conv => whnf
          rw [hw, filt_F q]
          exact hZ1 (i + 1) hlt (by omega)
      · skip
        have hge : i = ss.length := by have := of_decide_eq_false h8x; omega
        subst hge
        have hOa := filter_asc (c := ss.length) B.testBit
        have hOl := asc_le hOa
        have hOn := natsV_length ((List.range ss.length).filter B.testBit)
        conv => whnf
        refine ⟨⟨676, [], []⟩, ?_⟩
        refine LoopW_ind _ (fun k : Nat => (({ tmps := [.undef, .undef, .own 2 [], .undef, .undef, vL (natsV D), .undef, .sl (S := S) U.int (natsV ((List.range ss.length).filter B.testBit)) (some 7), .undef, vI k, .undef, .undef, .undef, .undef, .undef, .undef, .undef, .undef, .undef, .undef, .undef, .undef, .undef, .undef, .undef, .undef, .undef, .undef, .undef, .undef, .undef, .undef, .undef, .undef, .undef, .undef, .undef, .undef, .undef, .undef, .undef, .undef, .undef, .undef, .undef, .undef, .undef, .undef, .undef, .undef, .undef, .undef, .undef, .undef, .undef, .undef, .undef, .undef, .undef, .undef, .undef, .undef, .undef, .undef, .undef, .undef, .undef, .undef, .undef, .undef, .undef, .undef, .undef, .undef, .undef, .undef, .undef, .undef, .undef, .undef, .undef, .undef, .undef, .undef, .undef, .undef, .undef, .undef, .undef, .undef, .undef, .undef, .undef, .undef, .undef, .undef, .undef, .undef, .undef, .undef, .undef, .undef, .undef, .undef, .undef, .undef, .undef, .undef, .undef, .undef, .undef, .undef, .undef, .undef], seg := [(2, .cells [strsV ts, fmsV fs, sgsV ss]), (7, .row U.int false)], up := [] } : St S))) (fun k : Nat => (k ≤ D.length)) (fun k : Nat => (D.length - k)) () ?_ 0 (Nat.zero_le _)
        intro k hkd Z2 hZ2
        conv => whnf
        refine bcase_iff.2 ⟨fun h13 => ?_, fun h13 => ?_⟩
        · skip
          have hltk : k < D.length := by have := of_decide_eq_true h13; rw [hDn] at this; omega
          have hwk : IntKind.i64.wrap ((k : Int) + 1) = ((k + 1 : Nat) : Int) := wrap_nat (by omega)
          have hgk := asc_get hD.asc hltk
          conv => whnf
          refine ⟨[0, 1, 2, 3, 4, 5, 6, 7, 8, 9, 10, 11, 12, 13, 14, 15, 16, 17, 18, 19, 20, 21, 22, 23, 24, 25, 26, 27, 28, 29, 30], [], [], [], ⟨20769187434139310514121985316880383, [], []⟩, by decide +kernel, ?_⟩
          conv => whnf
          refine ⟨_, getI_natsD hltk, ?_⟩
          conv => whnf
          refine ⟨_, getI_natsD hltk, ?_⟩
          conv => whnf
          refine bcase_iff.2 ⟨fun g15_15 => ?_, fun g15_15 => ?_⟩
          · skip
            exfalso
            have g := of_decide_eq_true g15_15; omega --done
          · skip
            conv => whnf
            refine bcase_iff.2 ⟨fun g15_18 => ?_, fun g15_18 => ?_⟩
            · skip
              have hk0 : 0 < k := by have g := of_decide_eq_true g15_18; omega
              have hwm : IntKind.i64.wrap ((k : Int) - 1) = ((k - 1 : Nat) : Int) := by rw [wrap_int (by omega) (by omega)]; omega
              have hnx := asc_next hD.asc hltk hk0
              conv => whnf
              refine ⟨_, getI_natsD hltk, ?_⟩
              conv => whnf
              refine ⟨_, (by rw [hwm]; exact getI_natsD (by omega)), ?_⟩
              conv => whnf
              refine bcase_iff.2 ⟨fun h15 => ?_, fun h15 => ?_⟩
              · skip
                exfalso
                have g := of_decide_eq_true h15; omega --done
              · skip
                -- Z13:TFTF
                conv => whnf
                refine ⟨⟨676, [], []⟩, ?_⟩
                conv => whnf
                rw [hwk]
                exact hZ2 (k + 1) hltk (by omega)
            · skip
              -- Z13:TFF
              conv => whnf
              refine ⟨⟨676, [], []⟩, ?_⟩
              conv => whnf
              rw [hwk]
              exact hZ2 (k + 1) hltk (by omega)
        · skip
          conv => whnf
          refine bcase_iff.2 ⟨fun g17_5 => ?_, fun g17_5 => ?_⟩
          · skip
            conv => whnf
            refine byC ((c27)) op27 ?_
            -- R:aFFFT
            conv => whnf
            rfl
          · skip
            have hlt2 : ((List.range ss.length).filter B.testBit).length < D.length := by have g := of_decide_eq_false g17_5; rw [hOn, hDn] at g; omega
            have hno : agreeB ts.length fs (pickS ss fun i => !((List.range ss.length).filter B.testBit).contains i) = false := by
              cases hq : agreeB ts.length fs (pickS ss fun i => !((List.range ss.length).filter B.testBit).contains i) with
              | false => rfl
              | true => have := hD.least _ hOa hq; omega
            have h51o := c51 glT ts fs ss (by omega) ((List.range ss.length).filter B.testBit) (by omega)
            have hpo := hV.pick (fun i => !((List.range ss.length).filter B.testBit).contains i)
            have h50o := c50 ts fs (pickS ss fun i => !((List.range ss.length).filter B.testBit).contains i) (lens_pick hL _) (chk_valid.2 hpo)
            rw [hno] at h50o
            conv => whnf
            refine byC h51o op51 ?_
            conv => whnf
            refine byC h50o op50 ?_
            conv => whnf
            refine byC ((c27)) op27 ?_
            -- R:aFFFF
            conv => whnf
            rfl
  · skip
    obtain ⟨e, he⟩ : ∃ e, chE ts fs ss = e := ⟨_, rfl⟩
    have he0 : e ≠ 0 := by rw [← he]; exact hk
    have hR : doubtR ts fs ss = ([], e) := by unfold doubtR; rw [he, if_pos he0]
    rw [hR] at h25
    have h41 := c41f glT ts fs ss hL hk
    refine byC h25 op25 ?_
    conv => whnf
    refine byC h41 op41 ?_
    conv => whnf
    refine bcase_iff.2 ⟨fun g3_2 => ?_, fun g3_2 => ?_⟩
    · skip
      conv => whnf
      refine byC ((c27)) op27 ?_
      -- R:bT
      conv => whnf
      rfl
    · skip
      exfalso
      have g : (e != 0) = false := g3_2
      exact he0 (by simpa using g) --done

end Go.Ab.SkF
