/-
  THE SKELETON FAMILY, PART PT: whether two formes have the same skeleton: plain.
  THE SKELETON FAMILY, PART LF: the law SkelShared.
-/
import Derived.Test.YtfhippofplmpdaaDoorLawB
namespace Go.Ab.SkF
open Go Go.Ab Go.Ab.Pln

theorem nat_beq_comm (a b : Nat) : (a == b) = (b == a) := by rw [Bool.eq_iff_iff, beq_iff_eq, beq_iff_eq]; exact ⟨Eq.symm, Eq.symm⟩
theorem shareV_symm (W : List (List Nat)) (a b : Nat) : shareV W a b = shareV W b a := by
  have e1 : (fun x : List Nat => x.getD a 0 == x.getD b 0) = fun x => x.getD b 0 == x.getD a 0 := funext fun x => nat_beq_comm _ _
  have e2 : (fun x : List Nat => x.getD a 0 != x.getD b 0) = fun x => x.getD b 0 != x.getD a 0 := funext fun x => by unfold bne; rw [nat_beq_comm]
  unfold shareV; rw [e1, e2]
theorem all_fits {fs : Fms} {ss : Sgs} (h8 : fs.length ≤ 8) (hs : SsOk fs.length 6 ss) {y : List Nat} (h : y ∈ allJ fs ss) : Fits fs ss fun i => y.getD i 0 := by
  unfold allJ at h
  obtain ⟨⟨z, u⟩, hz, rfl⟩ := List.mem_map.1 h
  exact (fits_iff h8 hs _).2 (mem_ways.1 hz).1.fit
structure ShareF (fs : Fms) (ss : Sgs) (x : List Nat) (a b : Nat) (v : Int) : Prop where
  lo : 0 ≤ v
  hi : v ≤ 2
  same : lab fs.length ss a = lab fs.length ss b → v = 1
  never : stN fs a b = true → v = 2
  eq : v = 1 → x.getD a 0 = x.getD b 0
  ne : v = 2 → x.getD a 0 ≠ x.getD b 0
theorem share_facts {fs : Fms} {ss : Sgs} (h8 : fs.length ≤ 8) (hs : SsOk fs.length 6 ss) {x : List Nat} {u : Nat} (h : Skel fs ss x u) {a b : Nat} (ha : a < fs.length) (hb : b < fs.length) : ShareF fs ss x a b (shareV (allJ fs ss) a b) := by
  obtain ⟨r, hr⟩ := all_head h
  have hx : x ∈ allJ fs ss := by rw [hr]; exact List.mem_cons_self
  have hA : (∀ y ∈ allJ fs ss, y.getD a 0 = y.getD b 0) ↔ ((allJ fs ss).all fun y => y.getD a 0 == y.getD b 0) = true := by
    rw [List.all_eq_true]
    exact ⟨fun h y hy => by simpa using h y hy, fun h y hy => by simpa using h y hy⟩
  have hN : (∀ y ∈ allJ fs ss, y.getD a 0 ≠ y.getD b 0) ↔ ((allJ fs ss).all fun y => y.getD a 0 != y.getD b 0) = true := by
    rw [List.all_eq_true]
    exact ⟨fun h y hy => by simpa using h y hy, fun h y hy => by simpa using h y hy⟩
  have hv : (shareV (allJ fs ss) a b = 1 ∧ ∀ y ∈ allJ fs ss, y.getD a 0 = y.getD b 0) ∨ (shareV (allJ fs ss) a b = 2 ∧ ∀ y ∈ allJ fs ss, y.getD a 0 ≠ y.getD b 0) ∨ (shareV (allJ fs ss) a b = 0 ∧ (¬ ∀ y ∈ allJ fs ss, y.getD a 0 = y.getD b 0) ∧ ¬ ∀ y ∈ allJ fs ss, y.getD a 0 ≠ y.getD b 0) := by
    unfold shareV
    by_cases c1 : ((allJ fs ss).all fun y => y.getD a 0 == y.getD b 0) = true
    · left; rw [if_pos c1]; exact ⟨rfl, hA.2 c1⟩
    · right; rw [if_neg c1]
      by_cases c2 : ((allJ fs ss).all fun y => y.getD a 0 != y.getD b 0) = true
      · left; rw [if_pos c2]; exact ⟨rfl, hN.2 c2⟩
      · right; rw [if_neg c2]; exact ⟨rfl, fun h => c1 (hA.1 h), fun h => c2 (hN.1 h)⟩
  have hS : lab fs.length ss a = lab fs.length ss b → ∀ y ∈ allJ fs ss, y.getD a 0 = y.getD b 0 := fun e y hy => fits_conn hs (all_fits h8 hs hy) ((lab_iff h8 hs ha hb).1 e)
  have hD : stN fs a b = true → ∀ y ∈ allJ fs ss, y.getD a 0 ≠ y.getD b 0 := fun e y hy => (all_fits h8 hs hy).diff a b ha hb e
  rcases hv with ⟨hv, hy⟩ | ⟨hv, hy⟩ | ⟨hv, hy, hz⟩ <;> rw [hv]
  · exact ⟨by decide, by decide, fun _ => rfl, fun e => absurd (hy x hx) (hD e x hx), fun _ => hy x hx, fun h => absurd h (by decide)⟩
  · exact ⟨by decide, by decide, fun e => absurd (hS e x hx) (hy x hx), fun _ => rfl, fun h => absurd h (by decide), fun _ => hy x hx⟩
  · exact ⟨by decide, by decide, fun e => absurd (hS e) hy, fun e => absurd (hD e) hz, fun h => absurd h (by decide), fun h => absurd h (by decide)⟩
theorem shareR_no {ts : List ByteArray} {fs : Fms} {ss : Sgs} {e : Int} (he : e ≠ 0) (hk : chE ts fs ss = e) (a b : Int) : shareR ts fs ss a b = (0, e) := by unfold shareR; rw [hk, if_pos he]
theorem share_in {fs : Fms} {a b : Nat} (ha : a < fs.length) (hb : b < fs.length) : [(a : Int), (b : Int)].any (outB 0 ((fs.length : Int) - 1)) = false := by
  simp [outB]; omega
theorem shareR_cl {ts : List ByteArray} {fs : Fms} {ss : Sgs} (hk : chE ts fs ss = 0) {p : Nat × Nat} (hJ : clashJ fs ss = some p) {a b : Nat} (ha : a < fs.length) (hb : b < fs.length) : shareR ts fs ss a b = (0, 9) := by
  unfold shareR; rw [if_neg (fun h => h hk), if_neg (by rw [share_in ha hb]; simp), ask_cl hk hJ, if_pos (by decide)]
theorem shareR_ok {ts : List ByteArray} {fs : Fms} {ss : Sgs} (hk : chE ts fs ss = 0) (hJ : clashJ fs ss = none) {a b : Nat} (ha : a < fs.length) (hb : b < fs.length) : shareR ts fs ss a b = (shareV (allJ fs ss) a b, 0) := by
  unfold shareR; rw [if_neg (fun h => h hk), if_neg (by rw [share_in ha hb]; simp), ask_ok hk hJ, if_neg (fun h => h rfl), Int.toNat_natCast, Int.toNat_natCast]
theorem groupsS_ok {ts : List ByteArray} {fs : Fms} {ss : Sgs} (hk : chE ts fs ss = 0) : groupsS ts fs ss = (natsV (labL fs.length ss), 0) := by unfold groupsS; rw [if_neg (fun h => h hk)]; rfl
/-- A number of a byte, by turns. -/
theorem mod_byte {a : Int} (ha : 0 ≤ a ∧ a ≤ 255) (n : Nat) : (IntKind.i64.wrap a).tmod (n : Int) = ((a.toNat % n : Nat) : Int) := by
  rw [wrap_int (by omega) (by omega)]
  obtain ⟨k, rfl⟩ : ∃ k : Nat, a = k := ⟨a.toNat, by omega⟩
  rw [Int.tmod_eq_emod_of_nonneg (by omega)]; rfl
end Go.Ab.SkF

namespace Go.Ab.SkF
open Go Go.Ab Go.Ab.Pln Go.Proofs
set_option maxHeartbeats 1000000
set_option maxRecDepth 100000

theorem c12 (ts : List ByteArray) (fs : List Fm) (ss : List Sg) (hL : LensJ ts fs ss) (a b : Int) (ha : 0 ≤ a ∧ a ≤ 255) (hb : 0 ≤ b ∧ b ≤ 255) : PCalls PR glT 12 [.agg [strsV ts, fmsV fs, sgsV ss], .agg [.arr (S := S) U.u8 2 [a, b]]] fun r => r = vB true := by
  refine fnW_sound (par_ok glT) Tryd.func12 ?_
  conv => whnf
  have h28 := c28 ts fs ss hL
  rcases job3 ts fs ss with ⟨e, he0, hk, hR⟩ | ⟨hk, p, q, hJ, hR⟩ | ⟨hk, hJ, x, u, hsk, hR⟩
  all_goals rw [hR] at h28
  · skip
    have h32 := c32 ts fs ss hL 0 0
    rw [shareR_no he0 hk] at h32
    refine byC (c41f glT ts fs ss hL (by rw [hk]; exact he0)) op41 ?_
    conv => whnf
    refine byC h32 op32 ?_
    conv => whnf
    refine bcase_iff.2 ⟨fun g3_2 => ?_, fun g3_2 => ?_⟩
    · skip
      conv => whnf
      refine byC ((c27)) op27 ?_
      -- R:aT
      conv => whnf
      rfl
    · skip
      exfalso
      have g : (e != 0) = false := g3_2
      exact he0 (by simpa using g) --done
  · skip
    have hV := chk_valid.1 hk
    have hv := hV.job
    have h8 := hv.n8
    have hs6 := hv.s6
    have hf7 := hV.n7
    have h12 := hV.s12
    have h41 := c41t glT ts fs ss hL hk
    have hma := mod_byte ha fs.length
    have hmb := mod_byte hb fs.length
    have han : a.toNat % fs.length < fs.length := Nat.mod_lt _ hv.n0
    have hbn : b.toNat % fs.length < fs.length := Nat.mod_lt _ hv.n0
    generalize hA : a.toNat % fs.length = an at hma han
    generalize hB : b.toNat % fs.length = bn at hmb hbn
    have hz : (fs.length : Int) ≠ 0 := by have := hv.n0; omega
    have h32a : PCalls PR glT 32 [jobV ts fs ss, vI ((IntKind.i64.wrap a).tmod (fs.length : Int)), vI ((IntKind.i64.wrap b).tmod (fs.length : Int))] fun r => r = .tup [vI 0, vI 9] := by
      have h := c32 ts fs ss hL ((an : Nat) : Int) ((bn : Nat) : Int)
      rw [shareR_cl hk hJ han hbn, ← hma, ← hmb] at h; exact h
    have h32b : PCalls PR glT 32 [jobV ts fs ss, vI ((IntKind.i64.wrap b).tmod (fs.length : Int)), vI ((IntKind.i64.wrap a).tmod (fs.length : Int))] fun r => r = .tup [vI 0, vI 9] := by
      have h := c32 ts fs ss hL ((bn : Nat) : Int) ((an : Nat) : Int)
      rw [shareR_cl hk hJ hbn han, ← hmb, ← hma] at h; exact h
    refine byC h41 op41 ?_
    conv => whnf
    refine ⟨[0, 1, 2, 3, 4, 5, 6, 7, 8, 9, 10, 11, 12, 13, 14, 15], [], [], [], ⟨49039857307708443467467104868809893875799651909875269631, [], []⟩, by decide +kernel, ?_⟩
    conv => whnf
    refine ⟨by omega, by omega, ?_⟩
    conv => whnf
    refine ⟨_, rfl, ?_⟩
    conv => whnf
    refine ⟨hz, ?_⟩
    conv => whnf
    refine ⟨by omega, by omega, ?_⟩
    conv => whnf
    refine ⟨_, rfl, ?_⟩
    conv => whnf
    refine ⟨hz, ?_⟩
    conv => whnf
    refine byC h32a op32 ?_
    conv => whnf
    refine byC h32b op32 ?_
    conv => whnf
    refine byC h28 op28 ?_
    conv => whnf
    refine byC ((c27)) op27 ?_
    -- R:b
    conv => whnf
    rfl
  · skip
    have hV := chk_valid.1 hk
    have hv := hV.job
    have h8 := hv.n8
    have hs6 := hv.s6
    have hf7 := hV.n7
    have h12 := hV.s12
    have h41 := c41t glT ts fs ss hL hk
    have hxl := hsk.few.way.len
    have hxm := skel_many hsk
    have hule := hsk.few.le
    have hxn := natsV_length x
    have hma := mod_byte ha fs.length
    have hmb := mod_byte hb fs.length
    have han : a.toNat % fs.length < fs.length := Nat.mod_lt _ hv.n0
    have hbn : b.toNat % fs.length < fs.length := Nat.mod_lt _ hv.n0
    generalize hA : a.toNat % fs.length = an at hma han
    generalize hB : b.toNat % fs.length = bn at hmb hbn
    have hz : (fs.length : Int) ≠ 0 := by have := hv.n0; omega
    have hfa := share_facts h8 hs6 hsk han hbn
    have hsy := shareV_symm (allJ fs ss) bn an
    have h32a : PCalls PR glT 32 [jobV ts fs ss, vI ((IntKind.i64.wrap a).tmod (fs.length : Int)), vI ((IntKind.i64.wrap b).tmod (fs.length : Int))] fun r => r = .tup [vI (shareV (allJ fs ss) an bn), vI 0] := by
      have h := c32 ts fs ss hL ((an : Nat) : Int) ((bn : Nat) : Int)
      rw [shareR_ok hk hJ han hbn, ← hma, ← hmb] at h; exact h
    have h32b : PCalls PR glT 32 [jobV ts fs ss, vI ((IntKind.i64.wrap b).tmod (fs.length : Int)), vI ((IntKind.i64.wrap a).tmod (fs.length : Int))] fun r => r = .tup [vI (shareV (allJ fs ss) an bn), vI 0] := by
      have h := c32 ts fs ss hL ((bn : Nat) : Int) ((an : Nat) : Int)
      rw [shareR_ok hk hJ hbn han, hsy, ← hmb, ← hma] at h; exact h
    generalize shareV (allJ fs ss) an bn = v at hfa h32a h32b
    have h18 := c18 ts fs ss hL
    rw [groupsS_ok hk] at h18
    have hll := labL_len fs.length ss
    have hlv := natsV_length (labL fs.length ss)
    refine byC h41 op41 ?_
    conv => whnf
    refine ⟨[0, 1, 2, 3, 4, 5, 6, 7, 8, 9, 10, 11, 12, 13, 14, 15], [], [], [], ⟨49039857307708443467467104868809893875799651909875269631, [], []⟩, by decide +kernel, ?_⟩
    conv => whnf
    refine ⟨by omega, by omega, ?_⟩
    conv => whnf
    refine ⟨_, rfl, ?_⟩
    conv => whnf
    refine ⟨hz, ?_⟩
    conv => whnf
    refine ⟨by omega, by omega, ?_⟩
    conv => whnf
    refine ⟨_, rfl, ?_⟩
    conv => whnf
    refine ⟨hz, ?_⟩
    conv => whnf
    refine byC h32a op32 ?_
    conv => whnf
    refine byC h32b op32 ?_
    conv => whnf
    refine byC h28 op28 ?_
    conv => whnf
    refine bcase_iff.2 ⟨fun g8_3 => ?_, fun g8_3 => ?_⟩
    · skip
      exact neqX g8_3 --done
    · skip
      conv => whnf
      refine byC h18 op18 ?_
      conv => whnf
      refine bcase_iff.2 ⟨fun g13_10 => ?_, fun g13_10 => ?_⟩
      · skip
        exfalso
        have g : (((natsV (labL fs.length ss)).length : Int) != (fs.length : Int)) = true := g13_10
        rw [hlv, hll] at g; simp at g --done
      · skip
        conv => whnf
        refine bcase_iff.2 ⟨fun h13 => ?_, fun h13 => ?_⟩
        · skip
          exfalso
          have g : (((natsV x).length : Int) != ((natsV (labL fs.length ss)).length : Int)) = true := h13
          rw [hlv, hll, hxn, hxl] at g; simp at g --done
        · skip
          rw [hma, hmb]
          conv => whnf
          refine ⟨[0, 1, 2, 3, 4, 5, 6, 7, 8, 9, 10, 11, 12, 13, 14, 15, 16, 17, 18, 19, 20, 21, 22, 23, 24, 25, 26, 27, 28, 29, 30, 31, 32, 33, 34], [], [], [], ⟨49039857307708443467467104868809893875799651909875269631, [], []⟩, by decide +kernel, ?_⟩
          conv => whnf
          refine ⟨_, getI_natsD (by omega), ?_⟩
          conv => whnf
          refine ⟨_, getI_natsD (by omega), ?_⟩
          conv => whnf
          refine bcase_iff.2 ⟨fun g15_9 => ?_, fun g15_9 => ?_⟩
          · skip
            have q : lab fs.length ss an = lab fs.length ss bn := by have g := eN g15_9; rw [labL_get han, labL_get hbn] at g; simpa using g
            have q1 := hfa.same q
            conv => whnf
            refine bcase_iff.2 ⟨fun g15_13 => ?_, fun g15_13 => ?_⟩
            · skip
              exfalso
              have g : (v != 1) = true := g15_13
              rw [q1] at g; cases g --done
            · skip
              conv => whnf
              refine bcase_iff.2 ⟨fun g15_17 => ?_, fun g15_17 => ?_⟩
              · skip
                have hne : (an != bn) = true := nN g15_17
                conv => whnf
                refine ⟨_, getI_nat han, ?_⟩
                conv => whnf
                refine ⟨_, getI_nat hbn, ?_⟩
                conv => whnf
                refine byC (c47 glT fs[an] fs[bn]) op47 ?_
                conv => whnf
                refine bcase_iff.2 ⟨fun g15_30 => ?_, fun g15_30 => ?_⟩
                · skip
                  have q2 := hfa.never (by unfold stN; rw [hne, getD_at han, getD_at hbn, Bool.true_and]; exact g15_30)
                  conv => whnf
                  refine bcase_iff.2 ⟨fun h15 => ?_, fun h15 => ?_⟩
                  · skip
                    exfalso
                    have g : (v != 2) = true := h15
                    rw [q2] at g; cases g --done
                  · skip
                    conv => whnf
                    refine ⟨[0, 1, 2, 3, 4, 5, 6, 7, 8, 9, 10, 11, 12, 13, 14, 15, 16, 17, 18, 19, 20, 21, 22, 23, 24, 25, 26, 27, 28, 29, 30, 31, 32, 33, 34, 35, 36, 37, 38, 39], [], [], [], ⟨49039857307708443467467104868809893875799651909875269631, [], []⟩, by decide +kernel, ?_⟩
                    conv => whnf
                    refine bcase_iff.2 ⟨fun g17_2 => ?_, fun g17_2 => ?_⟩
                    · skip
                      conv => whnf
                      refine bcase_iff.2 ⟨fun g17_16 => ?_, fun g17_16 => ?_⟩
                      · skip
                        conv => whnf
                        refine bcase_iff.2 ⟨fun g17_32 => ?_, fun g17_32 => ?_⟩
                        · skip
                          conv => whnf
                          refine bcase_iff.2 ⟨fun g17_36 => ?_, fun g17_36 => ?_⟩
                          · skip
                            conv => whnf
                            refine byC ((c27)) op27 ?_
                            -- R:cFFFTFTTFTTTT
                            conv => whnf
                            rfl
                          · skip
                            exfalso
                            have g : decide (v ≤ 2) = false := g17_36
                            have g := of_decide_eq_false g
                            have := hfa.hi; omega --done
                        · skip
                          exfalso
                          have g : decide (v ≥ 0) = false := g17_32
                          have g := of_decide_eq_false g
                          have := hfa.lo; omega --done
                      · skip
                        have r2 : v = 2 := by have g : (v != 2) = false := g17_16; simpa using g
                        conv => whnf
                        refine ⟨_, getI_natsD (by omega), ?_⟩
                        conv => whnf
                        refine ⟨_, getI_natsD (by omega), ?_⟩
                        conv => whnf
                        refine bcase_iff.2 ⟨fun g17_28 => ?_, fun g17_28 => ?_⟩
                        · skip
                          conv => whnf
                          refine bcase_iff.2 ⟨fun g17_32 => ?_, fun g17_32 => ?_⟩
                          · skip
                            conv => whnf
                            refine bcase_iff.2 ⟨fun g17_36 => ?_, fun g17_36 => ?_⟩
                            · skip
                              conv => whnf
                              refine byC ((c27)) op27 ?_
                              -- R:cFFFTFTTFTFTTT
                              conv => whnf
                              rfl
                            · skip
                              exfalso
                              have g : decide (v ≤ 2) = false := g17_36
                              have g := of_decide_eq_false g
                              have := hfa.hi; omega --done
                          · skip
                            exfalso
                            have g : decide (v ≥ 0) = false := g17_32
                            have g := of_decide_eq_false g
                            have := hfa.lo; omega --done
                        · skip
                          exfalso
                          have g := nN g17_28
                          exact hfa.ne r2 (by simpa using g) --done
                    · skip
                      have r1 : v = 1 := by have g : (v != 1) = false := g17_2; simpa using g
                      conv => whnf
                      refine ⟨_, getI_natsD (by omega), ?_⟩
                      conv => whnf
                      refine ⟨_, getI_natsD (by omega), ?_⟩
                      conv => whnf
                      refine bcase_iff.2 ⟨fun g17_13 => ?_, fun g17_13 => ?_⟩
                      · skip
                        conv => whnf
                        refine bcase_iff.2 ⟨fun g17_16 => ?_, fun g17_16 => ?_⟩
                        · skip
                          conv => whnf
                          refine bcase_iff.2 ⟨fun g17_32 => ?_, fun g17_32 => ?_⟩
                          · skip
                            conv => whnf
                            refine bcase_iff.2 ⟨fun g17_36 => ?_, fun g17_36 => ?_⟩
                            · skip
                              conv => whnf
                              refine byC ((c27)) op27 ?_
                              -- R:cFFFTFTTFFTTTT
                              conv => whnf
                              rfl
                            · skip
                              exfalso
                              have g : decide (v ≤ 2) = false := g17_36
                              have g := of_decide_eq_false g
                              have := hfa.hi; omega --done
                          · skip
                            exfalso
                            have g : decide (v ≥ 0) = false := g17_32
                            have g := of_decide_eq_false g
                            have := hfa.lo; omega --done
                        · skip
                          have r2 : v = 2 := by have g : (v != 2) = false := g17_16; simpa using g
                          conv => whnf
                          refine ⟨_, getI_natsD (by omega), ?_⟩
                          conv => whnf
                          refine ⟨_, getI_natsD (by omega), ?_⟩
                          conv => whnf
                          refine bcase_iff.2 ⟨fun g17_28 => ?_, fun g17_28 => ?_⟩
                          · skip
                            conv => whnf
                            refine bcase_iff.2 ⟨fun g17_32 => ?_, fun g17_32 => ?_⟩
                            · skip
                              conv => whnf
                              refine bcase_iff.2 ⟨fun g17_36 => ?_, fun g17_36 => ?_⟩
                              · skip
                                conv => whnf
                                refine byC ((c27)) op27 ?_
                                -- R:cFFFTFTTFFTFTTT
                                conv => whnf
                                rfl
                              · skip
                                exfalso
                                have g : decide (v ≤ 2) = false := g17_36
                                have g := of_decide_eq_false g
                                have := hfa.hi; omega --done
                            · skip
                              exfalso
                              have g : decide (v ≥ 0) = false := g17_32
                              have g := of_decide_eq_false g
                              have := hfa.lo; omega --done
                          · skip
                            exfalso
                            have g := nN g17_28
                            exact hfa.ne r2 (by simpa using g) --done
                      · skip
                        exfalso
                        have g := eN g17_13
                        have e := hfa.eq r1
                        rw [e] at g; simp at g --done
                · skip
                  conv => whnf
                  refine ⟨[0, 1, 2, 3, 4, 5, 6, 7, 8, 9, 10, 11, 12, 13, 14, 15, 16, 17, 18, 19, 20, 21, 22, 23, 24, 25, 26, 27, 28, 29, 30, 31, 32, 33, 34, 35, 36, 37, 38, 39], [], [], [], ⟨49039857307708443467467104868809893875799651909875269631, [], []⟩, by decide +kernel, ?_⟩
                  conv => whnf
                  refine bcase_iff.2 ⟨fun g17_2 => ?_, fun g17_2 => ?_⟩
                  · skip
                    conv => whnf
                    refine bcase_iff.2 ⟨fun g17_16 => ?_, fun g17_16 => ?_⟩
                    · skip
                      conv => whnf
                      refine bcase_iff.2 ⟨fun g17_32 => ?_, fun g17_32 => ?_⟩
                      · skip
                        conv => whnf
                        refine bcase_iff.2 ⟨fun g17_36 => ?_, fun g17_36 => ?_⟩
                        · skip
                          conv => whnf
                          refine byC ((c27)) op27 ?_
                          -- R:cFFFTFTFTTTT
                          conv => whnf
                          rfl
                        · skip
                          exfalso
                          have g : decide (v ≤ 2) = false := g17_36
                          have g := of_decide_eq_false g
                          have := hfa.hi; omega --done
                      · skip
                        exfalso
                        have g : decide (v ≥ 0) = false := g17_32
                        have g := of_decide_eq_false g
                        have := hfa.lo; omega --done
                    · skip
                      have r2 : v = 2 := by have g : (v != 2) = false := g17_16; simpa using g
                      conv => whnf
                      refine ⟨_, getI_natsD (by omega), ?_⟩
                      conv => whnf
                      refine ⟨_, getI_natsD (by omega), ?_⟩
                      conv => whnf
                      refine bcase_iff.2 ⟨fun g17_28 => ?_, fun g17_28 => ?_⟩
                      · skip
                        conv => whnf
                        refine bcase_iff.2 ⟨fun g17_32 => ?_, fun g17_32 => ?_⟩
                        · skip
                          conv => whnf
                          refine bcase_iff.2 ⟨fun g17_36 => ?_, fun g17_36 => ?_⟩
                          · skip
                            conv => whnf
                            refine byC ((c27)) op27 ?_
                            -- R:cFFFTFTFTFTTT
                            conv => whnf
                            rfl
                          · skip
                            exfalso
                            have g : decide (v ≤ 2) = false := g17_36
                            have g := of_decide_eq_false g
                            have := hfa.hi; omega --done
                        · skip
                          exfalso
                          have g : decide (v ≥ 0) = false := g17_32
                          have g := of_decide_eq_false g
                          have := hfa.lo; omega --done
                      · skip
                        exfalso
                        have g := nN g17_28
                        exact hfa.ne r2 (by simpa using g) --done
                  · skip
                    have r1 : v = 1 := by have g : (v != 1) = false := g17_2; simpa using g
                    conv => whnf
                    refine ⟨_, getI_natsD (by omega), ?_⟩
                    conv => whnf
                    refine ⟨_, getI_natsD (by omega), ?_⟩
                    conv => whnf
                    refine bcase_iff.2 ⟨fun g17_13 => ?_, fun g17_13 => ?_⟩
                    · skip
                      conv => whnf
                      refine bcase_iff.2 ⟨fun g17_16 => ?_, fun g17_16 => ?_⟩
                      · skip
                        conv => whnf
                        refine bcase_iff.2 ⟨fun g17_32 => ?_, fun g17_32 => ?_⟩
                        · skip
                          conv => whnf
                          refine bcase_iff.2 ⟨fun g17_36 => ?_, fun g17_36 => ?_⟩
                          · skip
                            conv => whnf
                            refine byC ((c27)) op27 ?_
                            -- R:cFFFTFTFFTTTT
                            conv => whnf
                            rfl
                          · skip
                            exfalso
                            have g : decide (v ≤ 2) = false := g17_36
                            have g := of_decide_eq_false g
                            have := hfa.hi; omega --done
                        · skip
                          exfalso
                          have g : decide (v ≥ 0) = false := g17_32
                          have g := of_decide_eq_false g
                          have := hfa.lo; omega --done
                      · skip
                        have r2 : v = 2 := by have g : (v != 2) = false := g17_16; simpa using g
                        conv => whnf
                        refine ⟨_, getI_natsD (by omega), ?_⟩
                        conv => whnf
                        refine ⟨_, getI_natsD (by omega), ?_⟩
                        conv => whnf
                        refine bcase_iff.2 ⟨fun g17_28 => ?_, fun g17_28 => ?_⟩
                        · skip
                          conv => whnf
                          refine bcase_iff.2 ⟨fun g17_32 => ?_, fun g17_32 => ?_⟩
                          · skip
                            conv => whnf
                            refine bcase_iff.2 ⟨fun g17_36 => ?_, fun g17_36 => ?_⟩
                            · skip
                              conv => whnf
                              refine byC ((c27)) op27 ?_
                              -- R:cFFFTFTFFTFTTT
                              conv => whnf
                              rfl
                            · skip
                              exfalso
                              have g : decide (v ≤ 2) = false := g17_36
                              have g := of_decide_eq_false g
                              have := hfa.hi; omega --done
                          · skip
                            exfalso
                            have g : decide (v ≥ 0) = false := g17_32
                            have g := of_decide_eq_false g
                            have := hfa.lo; omega --done
                        · skip
                          exfalso
                          have g := nN g17_28
                          exact hfa.ne r2 (by simpa using g) --done
                    · skip
                      exfalso
                      have g := eN g17_13
                      have e := hfa.eq r1
                      rw [e] at g; simp at g --done
              · skip
                conv => whnf
                refine ⟨[0, 1, 2, 3, 4, 5, 6, 7, 8, 9, 10, 11, 12, 13, 14, 15, 16, 17, 18, 19, 20, 21, 22, 23, 24, 25, 26, 27, 28, 29, 30, 31, 32, 33, 34, 35, 36, 37, 38, 39], [], [], [], ⟨49039857307708443467467104868809893875799651909875269631, [], []⟩, by decide +kernel, ?_⟩
                conv => whnf
                refine bcase_iff.2 ⟨fun g17_2 => ?_, fun g17_2 => ?_⟩
                · skip
                  conv => whnf
                  refine bcase_iff.2 ⟨fun g17_16 => ?_, fun g17_16 => ?_⟩
                  · skip
                    conv => whnf
                    refine bcase_iff.2 ⟨fun g17_32 => ?_, fun g17_32 => ?_⟩
                    · skip
                      conv => whnf
                      refine bcase_iff.2 ⟨fun g17_36 => ?_, fun g17_36 => ?_⟩
                      · skip
                        conv => whnf
                        refine byC ((c27)) op27 ?_
                        -- R:cFFFTFFTTTT
                        conv => whnf
                        rfl
                      · skip
                        exfalso
                        have g : decide (v ≤ 2) = false := g17_36
                        have g := of_decide_eq_false g
                        have := hfa.hi; omega --done
                    · skip
                      exfalso
                      have g : decide (v ≥ 0) = false := g17_32
                      have g := of_decide_eq_false g
                      have := hfa.lo; omega --done
                  · skip
                    have r2 : v = 2 := by have g : (v != 2) = false := g17_16; simpa using g
                    conv => whnf
                    refine ⟨_, getI_natsD (by omega), ?_⟩
                    conv => whnf
                    refine ⟨_, getI_natsD (by omega), ?_⟩
                    conv => whnf
                    refine bcase_iff.2 ⟨fun g17_28 => ?_, fun g17_28 => ?_⟩
                    · skip
                      conv => whnf
                      refine bcase_iff.2 ⟨fun g17_32 => ?_, fun g17_32 => ?_⟩
                      · skip
                        conv => whnf
                        refine bcase_iff.2 ⟨fun g17_36 => ?_, fun g17_36 => ?_⟩
                        · skip
                          conv => whnf
                          refine byC ((c27)) op27 ?_
                          -- R:cFFFTFFTFTTT
                          conv => whnf
                          rfl
                        · skip
                          exfalso
                          have g : decide (v ≤ 2) = false := g17_36
                          have g := of_decide_eq_false g
                          have := hfa.hi; omega --done
                      · skip
                        exfalso
                        have g : decide (v ≥ 0) = false := g17_32
                        have g := of_decide_eq_false g
                        have := hfa.lo; omega --done
                    · skip
                      exfalso
                      have g := nN g17_28
                      exact hfa.ne r2 (by simpa using g) --done
                · skip
                  have r1 : v = 1 := by have g : (v != 1) = false := g17_2; simpa using g
                  conv => whnf
                  refine ⟨_, getI_natsD (by omega), ?_⟩
                  conv => whnf
                  refine ⟨_, getI_natsD (by omega), ?_⟩
                  conv => whnf
                  refine bcase_iff.2 ⟨fun g17_13 => ?_, fun g17_13 => ?_⟩
                  · skip
                    conv => whnf
                    refine bcase_iff.2 ⟨fun g17_16 => ?_, fun g17_16 => ?_⟩
                    · skip
                      conv => whnf
                      refine bcase_iff.2 ⟨fun g17_32 => ?_, fun g17_32 => ?_⟩
                      · skip
                        conv => whnf
                        refine bcase_iff.2 ⟨fun g17_36 => ?_, fun g17_36 => ?_⟩
                        · skip
                          conv => whnf
                          refine byC ((c27)) op27 ?_
                          -- R:cFFFTFFFTTTT
                          conv => whnf
                          rfl
                        · skip
                          exfalso
                          have g : decide (v ≤ 2) = false := g17_36
                          have g := of_decide_eq_false g
                          have := hfa.hi; omega --done
                      · skip
                        exfalso
                        have g : decide (v ≥ 0) = false := g17_32
                        have g := of_decide_eq_false g
                        have := hfa.lo; omega --done
                    · skip
                      have r2 : v = 2 := by have g : (v != 2) = false := g17_16; simpa using g
                      conv => whnf
                      refine ⟨_, getI_natsD (by omega), ?_⟩
                      conv => whnf
                      refine ⟨_, getI_natsD (by omega), ?_⟩
                      conv => whnf
                      refine bcase_iff.2 ⟨fun g17_28 => ?_, fun g17_28 => ?_⟩
                      · skip
                        conv => whnf
                        refine bcase_iff.2 ⟨fun g17_32 => ?_, fun g17_32 => ?_⟩
                        · skip
                          conv => whnf
                          refine bcase_iff.2 ⟨fun g17_36 => ?_, fun g17_36 => ?_⟩
                          · skip
                            conv => whnf
                            refine byC ((c27)) op27 ?_
                            -- R:cFFFTFFFTFTTT
                            conv => whnf
                            rfl
                          · skip
                            exfalso
                            have g : decide (v ≤ 2) = false := g17_36
                            have g := of_decide_eq_false g
                            have := hfa.hi; omega --done
                        · skip
                          exfalso
                          have g : decide (v ≥ 0) = false := g17_32
                          have g := of_decide_eq_false g
                          have := hfa.lo; omega --done
                      · skip
                        exfalso
                        have g := nN g17_28
                        exact hfa.ne r2 (by simpa using g) --done
                  · skip
                    exfalso
                    have g := eN g17_13
                    have e := hfa.eq r1
                    rw [e] at g; simp at g --done
          · skip
            conv => whnf
            refine bcase_iff.2 ⟨fun g15_17 => ?_, fun g15_17 => ?_⟩
            · skip
              have hne : (an != bn) = true := nN g15_17
              conv => whnf
              refine ⟨_, getI_nat han, ?_⟩
              conv => whnf
              refine ⟨_, getI_nat hbn, ?_⟩
              conv => whnf
              refine byC (c47 glT fs[an] fs[bn]) op47 ?_
              conv => whnf
              refine bcase_iff.2 ⟨fun g15_30 => ?_, fun g15_30 => ?_⟩
              · skip
                have q2 := hfa.never (by unfold stN; rw [hne, getD_at han, getD_at hbn, Bool.true_and]; exact g15_30)
                conv => whnf
                refine bcase_iff.2 ⟨fun h15 => ?_, fun h15 => ?_⟩
                · skip
                  exfalso
                  have g : (v != 2) = true := h15
                  rw [q2] at g; cases g --done
                · skip
                  conv => whnf
                  refine ⟨[0, 1, 2, 3, 4, 5, 6, 7, 8, 9, 10, 11, 12, 13, 14, 15, 16, 17, 18, 19, 20, 21, 22, 23, 24, 25, 26, 27, 28, 29, 30, 31, 32, 33, 34, 35, 36, 37, 38, 39], [], [], [], ⟨49039857307708443467467104868809893875799651909875269631, [], []⟩, by decide +kernel, ?_⟩
                  conv => whnf
                  refine bcase_iff.2 ⟨fun g17_2 => ?_, fun g17_2 => ?_⟩
                  · skip
                    conv => whnf
                    refine bcase_iff.2 ⟨fun g17_16 => ?_, fun g17_16 => ?_⟩
                    · skip
                      conv => whnf
                      refine bcase_iff.2 ⟨fun g17_32 => ?_, fun g17_32 => ?_⟩
                      · skip
                        conv => whnf
                        refine bcase_iff.2 ⟨fun g17_36 => ?_, fun g17_36 => ?_⟩
                        · skip
                          conv => whnf
                          refine byC ((c27)) op27 ?_
                          -- R:cFFFFTTFTTTT
                          conv => whnf
                          rfl
                        · skip
                          exfalso
                          have g : decide (v ≤ 2) = false := g17_36
                          have g := of_decide_eq_false g
                          have := hfa.hi; omega --done
                      · skip
                        exfalso
                        have g : decide (v ≥ 0) = false := g17_32
                        have g := of_decide_eq_false g
                        have := hfa.lo; omega --done
                    · skip
                      have r2 : v = 2 := by have g : (v != 2) = false := g17_16; simpa using g
                      conv => whnf
                      refine ⟨_, getI_natsD (by omega), ?_⟩
                      conv => whnf
                      refine ⟨_, getI_natsD (by omega), ?_⟩
                      conv => whnf
                      refine bcase_iff.2 ⟨fun g17_28 => ?_, fun g17_28 => ?_⟩
                      · skip
                        conv => whnf
                        refine bcase_iff.2 ⟨fun g17_32 => ?_, fun g17_32 => ?_⟩
                        · skip
                          conv => whnf
                          refine bcase_iff.2 ⟨fun g17_36 => ?_, fun g17_36 => ?_⟩
                          · skip
                            conv => whnf
                            refine byC ((c27)) op27 ?_
                            -- R:cFFFFTTFTFTTT
                            conv => whnf
                            rfl
                          · skip
                            exfalso
                            have g : decide (v ≤ 2) = false := g17_36
                            have g := of_decide_eq_false g
                            have := hfa.hi; omega --done
                        · skip
                          exfalso
                          have g : decide (v ≥ 0) = false := g17_32
                          have g := of_decide_eq_false g
                          have := hfa.lo; omega --done
                      · skip
                        exfalso
                        have g := nN g17_28
                        exact hfa.ne r2 (by simpa using g) --done
                  · skip
                    have r1 : v = 1 := by have g : (v != 1) = false := g17_2; simpa using g
                    conv => whnf
                    refine ⟨_, getI_natsD (by omega), ?_⟩
                    conv => whnf
                    refine ⟨_, getI_natsD (by omega), ?_⟩
                    conv => whnf
                    refine bcase_iff.2 ⟨fun g17_13 => ?_, fun g17_13 => ?_⟩
                    · skip
                      conv => whnf
                      refine bcase_iff.2 ⟨fun g17_16 => ?_, fun g17_16 => ?_⟩
                      · skip
                        conv => whnf
                        refine bcase_iff.2 ⟨fun g17_32 => ?_, fun g17_32 => ?_⟩
                        · skip
                          conv => whnf
                          refine bcase_iff.2 ⟨fun g17_36 => ?_, fun g17_36 => ?_⟩
                          · skip
                            conv => whnf
                            refine byC ((c27)) op27 ?_
                            -- R:cFFFFTTFFTTTT
                            conv => whnf
                            rfl
                          · skip
                            exfalso
                            have g : decide (v ≤ 2) = false := g17_36
                            have g := of_decide_eq_false g
                            have := hfa.hi; omega --done
                        · skip
                          exfalso
                          have g : decide (v ≥ 0) = false := g17_32
                          have g := of_decide_eq_false g
                          have := hfa.lo; omega --done
                      · skip
                        have r2 : v = 2 := by have g : (v != 2) = false := g17_16; simpa using g
                        conv => whnf
                        refine ⟨_, getI_natsD (by omega), ?_⟩
                        conv => whnf
                        refine ⟨_, getI_natsD (by omega), ?_⟩
                        conv => whnf
                        refine bcase_iff.2 ⟨fun g17_28 => ?_, fun g17_28 => ?_⟩
                        · skip
                          conv => whnf
                          refine bcase_iff.2 ⟨fun g17_32 => ?_, fun g17_32 => ?_⟩
                          · skip
                            conv => whnf
                            refine bcase_iff.2 ⟨fun g17_36 => ?_, fun g17_36 => ?_⟩
                            · skip
                              conv => whnf
                              refine byC ((c27)) op27 ?_
                              -- R:cFFFFTTFFTFTTT
                              conv => whnf
                              rfl
                            · skip
                              exfalso
                              have g : decide (v ≤ 2) = false := g17_36
                              have g := of_decide_eq_false g
                              have := hfa.hi; omega --done
                          · skip
                            exfalso
                            have g : decide (v ≥ 0) = false := g17_32
                            have g := of_decide_eq_false g
                            have := hfa.lo; omega --done
                        · skip
                          exfalso
                          have g := nN g17_28
                          exact hfa.ne r2 (by simpa using g) --done
                    · skip
                      exfalso
                      have g := eN g17_13
                      have e := hfa.eq r1
                      rw [e] at g; simp at g --done
              · skip
                conv => whnf
                refine ⟨[0, 1, 2, 3, 4, 5, 6, 7, 8, 9, 10, 11, 12, 13, 14, 15, 16, 17, 18, 19, 20, 21, 22, 23, 24, 25, 26, 27, 28, 29, 30, 31, 32, 33, 34, 35, 36, 37, 38, 39], [], [], [], ⟨49039857307708443467467104868809893875799651909875269631, [], []⟩, by decide +kernel, ?_⟩
                conv => whnf
                refine bcase_iff.2 ⟨fun g17_2 => ?_, fun g17_2 => ?_⟩
                · skip
                  conv => whnf
                  refine bcase_iff.2 ⟨fun g17_16 => ?_, fun g17_16 => ?_⟩
                  · skip
                    conv => whnf
                    refine bcase_iff.2 ⟨fun g17_32 => ?_, fun g17_32 => ?_⟩
                    · skip
                      conv => whnf
                      refine bcase_iff.2 ⟨fun g17_36 => ?_, fun g17_36 => ?_⟩
                      · skip
                        conv => whnf
                        refine byC ((c27)) op27 ?_
                        -- R:cFFFFTFTTTT
                        conv => whnf
                        rfl
                      · skip
                        exfalso
                        have g : decide (v ≤ 2) = false := g17_36
                        have g := of_decide_eq_false g
                        have := hfa.hi; omega --done
                    · skip
                      exfalso
                      have g : decide (v ≥ 0) = false := g17_32
                      have g := of_decide_eq_false g
                      have := hfa.lo; omega --done
                  · skip
                    have r2 : v = 2 := by have g : (v != 2) = false := g17_16; simpa using g
                    conv => whnf
                    refine ⟨_, getI_natsD (by omega), ?_⟩
                    conv => whnf
                    refine ⟨_, getI_natsD (by omega), ?_⟩
                    conv => whnf
                    refine bcase_iff.2 ⟨fun g17_28 => ?_, fun g17_28 => ?_⟩
                    · skip
                      conv => whnf
                      refine bcase_iff.2 ⟨fun g17_32 => ?_, fun g17_32 => ?_⟩
                      · skip
                        conv => whnf
                        refine bcase_iff.2 ⟨fun g17_36 => ?_, fun g17_36 => ?_⟩
                        · skip
                          conv => whnf
                          refine byC ((c27)) op27 ?_
                          -- R:cFFFFTFTFTTT
                          conv => whnf
                          rfl
                        · skip
                          exfalso
                          have g : decide (v ≤ 2) = false := g17_36
                          have g := of_decide_eq_false g
                          have := hfa.hi; omega --done
                      · skip
                        exfalso
                        have g : decide (v ≥ 0) = false := g17_32
                        have g := of_decide_eq_false g
                        have := hfa.lo; omega --done
                    · skip
                      exfalso
                      have g := nN g17_28
                      exact hfa.ne r2 (by simpa using g) --done
                · skip
                  have r1 : v = 1 := by have g : (v != 1) = false := g17_2; simpa using g
                  conv => whnf
                  refine ⟨_, getI_natsD (by omega), ?_⟩
                  conv => whnf
                  refine ⟨_, getI_natsD (by omega), ?_⟩
                  conv => whnf
                  refine bcase_iff.2 ⟨fun g17_13 => ?_, fun g17_13 => ?_⟩
                  · skip
                    conv => whnf
                    refine bcase_iff.2 ⟨fun g17_16 => ?_, fun g17_16 => ?_⟩
                    · skip
                      conv => whnf
                      refine bcase_iff.2 ⟨fun g17_32 => ?_, fun g17_32 => ?_⟩
                      · skip
                        conv => whnf
                        refine bcase_iff.2 ⟨fun g17_36 => ?_, fun g17_36 => ?_⟩
                        · skip
                          conv => whnf
                          refine byC ((c27)) op27 ?_
                          -- R:cFFFFTFFTTTT
                          conv => whnf
                          rfl
                        · skip
                          exfalso
                          have g : decide (v ≤ 2) = false := g17_36
                          have g := of_decide_eq_false g
                          have := hfa.hi; omega --done
                      · skip
                        exfalso
                        have g : decide (v ≥ 0) = false := g17_32
                        have g := of_decide_eq_false g
                        have := hfa.lo; omega --done
                    · skip
                      have r2 : v = 2 := by have g : (v != 2) = false := g17_16; simpa using g
                      conv => whnf
                      refine ⟨_, getI_natsD (by omega), ?_⟩
                      conv => whnf
                      refine ⟨_, getI_natsD (by omega), ?_⟩
                      conv => whnf
                      refine bcase_iff.2 ⟨fun g17_28 => ?_, fun g17_28 => ?_⟩
                      · skip
                        conv => whnf
                        refine bcase_iff.2 ⟨fun g17_32 => ?_, fun g17_32 => ?_⟩
                        · skip
                          conv => whnf
                          refine bcase_iff.2 ⟨fun g17_36 => ?_, fun g17_36 => ?_⟩
                          · skip
                            conv => whnf
                            refine byC ((c27)) op27 ?_
                            -- R:cFFFFTFFTFTTT
                            conv => whnf
                            rfl
                          · skip
                            exfalso
                            have g : decide (v ≤ 2) = false := g17_36
                            have g := of_decide_eq_false g
                            have := hfa.hi; omega --done
                        · skip
                          exfalso
                          have g : decide (v ≥ 0) = false := g17_32
                          have g := of_decide_eq_false g
                          have := hfa.lo; omega --done
                      · skip
                        exfalso
                        have g := nN g17_28
                        exact hfa.ne r2 (by simpa using g) --done
                  · skip
                    exfalso
                    have g := eN g17_13
                    have e := hfa.eq r1
                    rw [e] at g; simp at g --done
            · skip
              conv => whnf
              refine ⟨[0, 1, 2, 3, 4, 5, 6, 7, 8, 9, 10, 11, 12, 13, 14, 15, 16, 17, 18, 19, 20, 21, 22, 23, 24, 25, 26, 27, 28, 29, 30, 31, 32, 33, 34, 35, 36, 37, 38, 39], [], [], [], ⟨49039857307708443467467104868809893875799651909875269631, [], []⟩, by decide +kernel, ?_⟩
              conv => whnf
              refine bcase_iff.2 ⟨fun g17_2 => ?_, fun g17_2 => ?_⟩
              · skip
                conv => whnf
                refine bcase_iff.2 ⟨fun g17_16 => ?_, fun g17_16 => ?_⟩
                · skip
                  conv => whnf
                  refine bcase_iff.2 ⟨fun g17_32 => ?_, fun g17_32 => ?_⟩
                  · skip
                    conv => whnf
                    refine bcase_iff.2 ⟨fun g17_36 => ?_, fun g17_36 => ?_⟩
                    · skip
                      conv => whnf
                      refine byC ((c27)) op27 ?_
                      -- R:cFFFFFTTTT
                      conv => whnf
                      rfl
                    · skip
                      exfalso
                      have g : decide (v ≤ 2) = false := g17_36
                      have g := of_decide_eq_false g
                      have := hfa.hi; omega --done
                  · skip
                    exfalso
                    have g : decide (v ≥ 0) = false := g17_32
                    have g := of_decide_eq_false g
                    have := hfa.lo; omega --done
                · skip
                  have r2 : v = 2 := by have g : (v != 2) = false := g17_16; simpa using g
                  conv => whnf
                  refine ⟨_, getI_natsD (by omega), ?_⟩
                  conv => whnf
                  refine ⟨_, getI_natsD (by omega), ?_⟩
                  conv => whnf
                  refine bcase_iff.2 ⟨fun g17_28 => ?_, fun g17_28 => ?_⟩
                  · skip
                    conv => whnf
                    refine bcase_iff.2 ⟨fun g17_32 => ?_, fun g17_32 => ?_⟩
                    · skip
                      conv => whnf
                      refine bcase_iff.2 ⟨fun g17_36 => ?_, fun g17_36 => ?_⟩
                      · skip
                        conv => whnf
                        refine byC ((c27)) op27 ?_
                        -- R:cFFFFFTFTTT
                        conv => whnf
                        rfl
                      · skip
                        exfalso
                        have g : decide (v ≤ 2) = false := g17_36
                        have g := of_decide_eq_false g
                        have := hfa.hi; omega --done
                    · skip
                      exfalso
                      have g : decide (v ≥ 0) = false := g17_32
                      have g := of_decide_eq_false g
                      have := hfa.lo; omega --done
                  · skip
                    exfalso
                    have g := nN g17_28
                    exact hfa.ne r2 (by simpa using g) --done
              · skip
                have r1 : v = 1 := by have g : (v != 1) = false := g17_2; simpa using g
                conv => whnf
                refine ⟨_, getI_natsD (by omega), ?_⟩
                conv => whnf
                refine ⟨_, getI_natsD (by omega), ?_⟩
                conv => whnf
                refine bcase_iff.2 ⟨fun g17_13 => ?_, fun g17_13 => ?_⟩
                · skip
                  conv => whnf
                  refine bcase_iff.2 ⟨fun g17_16 => ?_, fun g17_16 => ?_⟩
                  · skip
                    conv => whnf
                    refine bcase_iff.2 ⟨fun g17_32 => ?_, fun g17_32 => ?_⟩
                    · skip
                      conv => whnf
                      refine bcase_iff.2 ⟨fun g17_36 => ?_, fun g17_36 => ?_⟩
                      · skip
                        conv => whnf
                        refine byC ((c27)) op27 ?_
                        -- R:cFFFFFFTTTT
                        conv => whnf
                        rfl
                      · skip
                        exfalso
                        have g : decide (v ≤ 2) = false := g17_36
                        have g := of_decide_eq_false g
                        have := hfa.hi; omega --done
                    · skip
                      exfalso
                      have g : decide (v ≥ 0) = false := g17_32
                      have g := of_decide_eq_false g
                      have := hfa.lo; omega --done
                  · skip
                    have r2 : v = 2 := by have g : (v != 2) = false := g17_16; simpa using g
                    conv => whnf
                    refine ⟨_, getI_natsD (by omega), ?_⟩
                    conv => whnf
                    refine ⟨_, getI_natsD (by omega), ?_⟩
                    conv => whnf
                    refine bcase_iff.2 ⟨fun g17_28 => ?_, fun g17_28 => ?_⟩
                    · skip
                      conv => whnf
                      refine bcase_iff.2 ⟨fun g17_32 => ?_, fun g17_32 => ?_⟩
                      · skip
                        conv => whnf
                        refine bcase_iff.2 ⟨fun g17_36 => ?_, fun g17_36 => ?_⟩
                        · skip
                          conv => whnf
                          refine byC ((c27)) op27 ?_
                          -- R:cFFFFFFTFTTT
                          conv => whnf
                          rfl
                        · skip
                          exfalso
                          have g : decide (v ≤ 2) = false := g17_36
                          have g := of_decide_eq_false g
                          have := hfa.hi; omega --done
                      · skip
                        exfalso
                        have g : decide (v ≥ 0) = false := g17_32
                        have g := of_decide_eq_false g
                        have := hfa.lo; omega --done
                    · skip
                      exfalso
                      have g := nN g17_28
                      exact hfa.ne r2 (by simpa using g) --done
                · skip
                  exfalso
                  have g := eN g17_13
                  have e := hfa.eq r1
                  rw [e] at g; simp at g --done

end Go.Ab.SkF
