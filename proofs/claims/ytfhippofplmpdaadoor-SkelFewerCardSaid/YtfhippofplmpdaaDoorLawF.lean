/-
  THE SKELETON FAMILY, PART PW: some formes of a job alone, and numbers by turns: plain.
  THE SKELETON FAMILY, PART LI: turn, and the law SkelFewer.
-/
import Derived.Test.YtfhippofplmpdaaDoorLawE
namespace Go.Ab.SkF
open Go Go.Ab Go.Ab.Pln

theorem foE_sub {pre pre' : Fms} {f : Fm} (h : ∀ p ∈ pre', p ∈ pre) (h0 : foE pre f = 0) : foE pre' f = 0 := by
  unfold foE at h0 ⊢
  split at h0
  · cases h0
  · rename_i h1
    split at h0
    · cases h0
    · rename_i h2
      rw [if_neg h1, if_neg]
      · exact h0
      · intro hc
        obtain ⟨p, hp, he⟩ := List.any_eq_true.1 hc
        exact h2 (List.any_eq_true.2 ⟨p, h p hp, he⟩)
theorem asc_lt {c : Nat} {l : List Nat} (h : Asc 0 c l) {i k : Nat} (hk : k < l.length) (hik : i < k) : l.getD i 0 < l.getD k 0 := by
  rw [getD_at hk, getD_at (by omega)]
  exact List.pairwise_iff_getElem.1 h.1 _ _ _ _ hik
theorem asc_inj {c : Nat} {l : List Nat} (h : Asc 0 c l) {i k : Nat} (hi : i < l.length) (hk : k < l.length) (e : l.getD i 0 = l.getD k 0) : i = k := by
  rcases Nat.lt_trichotomy i k with h1 | h1 | h1
  · have := asc_lt h hk h1; omega
  · exact h1
  · have := asc_lt h hi h1; omega
theorem sub_fo {ts : List ByteArray} {fs : Fms} {ss : Sgs} (v : Valid ts fs ss) {l : List Nat} (hl : Asc 0 fs.length l) {i : Nat} (hi : i < l.length) : foF (subF fs l) i = 0 := by
  have hb := asc_get hl hi
  have h0 := v.fo _ hb
  unfold foF at h0 ⊢
  rw [subF_get fs hi]
  refine foE_sub (fun p hp => ?_) h0
  obtain ⟨j, hj, rfl⟩ := List.mem_take_iff_getElem.1 hp
  have hj1 : j < i := by omega
  have hj2 : j < l.length := by omega
  have hlt := asc_lt hl hi hj1
  have e : (subF fs l)[j]'(by rw [subF_len]; omega) = fs.getD (l.getD j 0) f0 := by rw [← subF_get fs hj2, getD_at (by rw [subF_len]; omega)]
  have hjf : l.getD j 0 < fs.length := asc_get hl hj2
  rw [e, getD_at hjf]
  exact List.mem_take_iff_getElem.2 ⟨l.getD j 0, Nat.lt_min.2 ⟨hlt, hjf⟩, rfl⟩
theorem subX_one {c : Nat} {l : List Nat} (h : Asc 0 c l) (x : Sg) : (subX l x l.length).length ≤ 1 := by
  unfold subX
  rw [List.length_map]
  have hm : ∀ k ∈ (List.range l.length).filter (fun k => ((l.getD k 0 : Nat) : Int) == x.1), k < l.length ∧ ((l.getD k 0 : Nat) : Int) = x.1 := fun k hk => by
    have := List.mem_filter.1 hk
    exact ⟨List.mem_range.1 this.1, by simpa using this.2⟩
  have hn : ((List.range l.length).filter (fun k => ((l.getD k 0 : Nat) : Int) == x.1)).Pairwise (· < ·) := List.Pairwise.filter _ List.pairwise_lt_range
  generalize (List.range l.length).filter (fun k => ((l.getD k 0 : Nat) : Int) == x.1) = q at hm hn
  match q, hm, hn with
  | [], _, _ => simp
  | [_], _, _ => simp
  | a :: b :: r, hm, hn =>
    exfalso
    have h1 := hm a (by simp)
    have h2 := hm b (by simp)
    have h3 : a < b := (List.pairwise_cons.1 hn).1 b (by simp)
    have := asc_inj h h1.1 h2.1 (by omega)
    omega
theorem subR_short {c : Nat} {l : List Nat} (h : Asc 0 c l) : ∀ ss : Sgs, (subR ss l).length ≤ ss.length
  | [] => by simp [subR]
  | x :: ss => by
    have h1 := subR_short h ss
    have h2 := subX_one h x
    have e : subR (x :: ss) l = subX l x l.length ++ subR ss l := by unfold subR; rw [List.flatMap_cons]; rfl
    rw [e, List.length_append, List.length_cons]; omega
theorem sub_si {n nt : Nat} {ss : Sgs} (h : SiOk n nt ss) {l : List Nat} (hl : Asc 0 n l) : SiOk l.length nt (subR ss l) := by
  refine ⟨fun s hs => ?_, ?_⟩
  · obtain ⟨k, h1, h2, h3⟩ := subR_mem.1 hs
    have := h.each _ h3
    exact ⟨by omega, by omega, this.2.2⟩
  · unfold subR
    rw [List.pairwise_flatMap]
    refine ⟨fun x _ => ?_, ?_⟩
    · rw [List.pairwise_map]
      refine List.Pairwise.imp ?_ (List.Pairwise.filter _ List.pairwise_lt_range)
      intro a b hab he
      have : ((a : Nat) : Int) = ((b : Nat) : Int) := he.1
      omega
    · refine List.Pairwise.imp ?_ h.two
      intro x y hxy a ha b hb he
      obtain ⟨k, hk, rfl⟩ := List.mem_map.1 ha
      obtain ⟨k', hk', rfl⟩ := List.mem_map.1 hb
      have e1 := (List.mem_filter.1 hk).2
      have e2 := (List.mem_filter.1 hk').2
      rw [beq_iff_eq] at e1 e2
      have e3 : ((k : Nat) : Int) = ((k' : Nat) : Int) := he.1
      have e4 : k = k' := by omega
      subst e4
      exact hxy ⟨by rw [← e1, ← e2], he.2⟩
theorem sub_valid {ts : List ByteArray} {fs : Fms} {ss : Sgs} (v : Valid ts fs ss) {l : List Nat} (hl : Asc 0 fs.length l) (h0 : l ≠ []) : Valid ts (subF fs l) (subR ss l) := by
  have hle := asc_le hl
  have hp : 0 < l.length := List.length_pos_iff.2 h0
  have h7 := v.n7
  refine ⟨v.t6, v.tn, by rw [subF_len]; omega, by rw [subF_len]; omega, fun i hi => ?_, ?_, fun i hi => ?_⟩
  · exact sub_fo v hl (by rw [subF_len] at hi; exact hi)
  · exact Nat.le_trans (subR_short hl ss) v.s12
  · have := si_ok (sub_si v.ok hl) hi
    rw [subF_len]; exact this
/-- All but one of some numbers. -/
def dropI (l : List Nat) (i : Nat) : List Nat := l.take i ++ l.drop (i + 1)
theorem dropI_len {l : List Nat} {i : Nat} (h : i < l.length) : (dropI l i).length + 1 = l.length := by
  unfold dropI
  rw [List.length_append, List.length_take, List.length_drop]; omega
theorem dropI_sub (l : List Nat) (i : Nat) : (dropI l i).Sublist l := by
  unfold dropI
  conv => rhs; rw [← List.take_append_drop i l]
  exact List.Sublist.append (List.Sublist.refl _) (by rw [← List.drop_drop]; exact List.drop_sublist _ _)
theorem dropI_asc {c : Nat} {l : List Nat} (h : Asc 0 c l) (i : Nat) : Asc 0 c (dropI l i) := ⟨h.1.sublist (dropI_sub l i), fun x hx => h.2 x ((dropI_sub l i).subset hx)⟩

structure ProofF (ts : List ByteArray) (fs : Fms) (ss : Sgs) (u : Nat) (p : List Nat) : Prop where
  asc : Asc 0 fs.length p
  len : u ≤ p.length
  ne : p ≠ []
  many : ∃ y, Skel (subF fs p) (subR ss p) y u
  less : ∀ i, i < p.length → 1 < p.length → ∃ y w, Skel (subF fs (dropI p i)) (subR ss (dropI p i)) y w ∧ w < u
theorem proof_facts {ts : List ByteArray} {fs : Fms} {ss : Sgs} (v : Valid ts fs ss) {x : List Nat} {u : Nat} (hk : Skel fs ss x u) (hc : clashJ fs ss = none) : ProofF ts fs ss u (proofL fs ss u) := by
  have hv := v.job
  have h8 := hv.n8
  have hs6 := hv.s6
  have hmu : manyJ fs ss = u := by unfold manyJ; rw [hk.eq]
  obtain ⟨_, _, hL⟩ := proof_find h8 hs6 hc
  rw [hmu] at hL
  have hd : manyJ (subF fs (proofL fs ss u)) (subR ss (proofL fs ss u)) = u := by have := hL.does; unfold proofP at this; simpa using this
  have hlen : u ≤ (proofL fs ss u).length := by have := (sub_many h8 hs6 hL.asc hc).1; omega
  have hpos := hk.few.pos
  have hne : proofL fs ss u ≠ [] := by intro e; rw [e] at hlen; simp at hlen; omega
  refine ⟨hL.asc, hlen, hne, ?_, fun i hi h1 => ?_⟩
  · obtain ⟨y, w, hs⟩ := (sub_many h8 hs6 hL.asc hc).2 hne
    have : manyJ (subF fs (proofL fs ss u)) (subR ss (proofL fs ss u)) = w := by unfold manyJ; rw [hs.eq]
    have hw : w = u := by omega
    rw [hw] at hs
    exact ⟨y, hs⟩
  · have ha := dropI_asc hL.asc i
    have hlen2 := dropI_len hi
    have hne2 : dropI (proofL fs ss u) i ≠ [] := by intro e; rw [e] at hlen2; simp at hlen2; omega
    obtain ⟨y, w, hs⟩ := (sub_many h8 hs6 ha hc).2 hne2
    have hw : manyJ (subF fs (dropI (proofL fs ss u) i)) (subR ss (dropI (proofL fs ss u) i)) = w := by unfold manyJ; rw [hs.eq]
    refine ⟨y, w, hs, ?_⟩
    have hle : w ≤ u := hs.least _ (sub_fits ha hk.fits) u fun k hk' => hk.lt _ (asc_get ha (by rw [subF_len] at hk'; exact hk'))
    rcases Nat.lt_or_ge w u with h | h
    · exact h
    · exfalso
      have hl := hL.least _ ha (by unfold proofP; rw [hw]; simp; omega)
      omega

/-- A number of a list of bytes, by turns. -/
def tnI (x : List Int) (i : Nat) : Int := if x.length = 0 then 0 else x.getD (i % x.length) 0
def tnN (x : List Int) (i : Nat) : Nat := (tnI x i).toNat
theorem tn_cast {x : List Int} (hx : ∀ v ∈ x, 0 ≤ v ∧ v ≤ 255) (i : Nat) : tnI x i = ((tnN x i : Nat) : Int) ∧ tnI x i ≤ 255 := by
  unfold tnN tnI
  split
  · simp
  · rename_i h
    have hi : i % x.length < x.length := Nat.mod_lt _ (by omega)
    rw [getD_at hi]
    have := hx _ (List.getElem_mem hi)
    omega
theorem tn_mod {x : List Int} (hx : ∀ v ∈ x, 0 ≤ v ∧ v ≤ 255) (i u : Nat) (hu : 1 < u) : (tnI x i).tmod ((u : Int) - 1) = ((tnN x i % (u - 1) : Nat) : Int) := by
  rw [(tn_cast hx i).1, Int.tmod_eq_emod_of_nonneg (Int.natCast_nonneg _), show ((u : Int) - 1) = ((u - 1 : Nat) : Int) by omega]
  rfl
/-- Do two formes tell against numbers? -/
def badP (fs : Fms) (ss : Sgs) (c : Nat → Nat) (a b : Nat) : Bool := (lab fs.length ss a == lab fs.length ss b && !(c a == c b)) || (stN fs a b && c a == c b)
theorem all_ok {fs : Fms} {ss : Sgs} (h8 : fs.length ≤ 8) (hs : SsOk fs.length 6 ss) {x : List Nat} {u : Nat} (hk : Skel fs ss x u) {c : Nat → Nat} {K : Nat} (hK : ∀ i, c i < K) (h : ∀ a, a < fs.length → ∀ b, b < a → badP fs ss c a b = false) : u ≤ K := by
  have h2 : ∀ a b, a < fs.length → b < fs.length → a ≠ b → badP fs ss c a b = false := fun a b ha hb hne => by
    rcases Nat.lt_or_gt_of_ne hne with hlt | hlt
    · have := h b hb a hlt
      unfold badP at this ⊢
      rw [stN_symm, nat_beq_comm (c a), nat_beq_comm (lab fs.length ss a)]; exact this
    · exact h a ha b hlt
  refine hk.least c ⟨fun i k hi hk' hc => ?_, fun i k hi hk' hst e => ?_⟩ K fun i _ => hK i
  · by_cases e : i = k
    · rw [e]
    · have := h2 i k hi hk' e
      unfold badP at this
      rw [Bool.or_eq_false_iff] at this
      have hl : lab fs.length ss i = lab fs.length ss k := (lab_iff h8 hs hi hk').2 (.tail (.refl i) hc)
      have h3 := this.1
      rw [show (lab fs.length ss i == lab fs.length ss k) = true by simpa using hl, Bool.true_and] at h3
      simpa using h3
  · by_cases e' : i = k
    · subst e'; rw [stN_irr] at hst; cases hst
    · have := h2 i k hi hk' e'
      unfold badP at this
      rw [Bool.or_eq_false_iff] at this
      rw [hst, e] at this
      simp at this
end Go.Ab.SkF

namespace Go.Ab.SkF
open Go Go.Ab Go.Ab.Pln Go.Proofs
set_option maxHeartbeats 1000000
set_option maxRecDepth 100000
theorem sub_lens {ts : List ByteArray} {fs : Fms} {ss : Sgs} (h : LensJ ts fs ss) {l : List Nat} (hl : Asc 0 fs.length l) : LensJ ts (subF fs l) (subR ss l) := by
  have hle := asc_le hl
  have := h.f
  refine ⟨h.t, by rw [subF_len]; omega, Nat.le_trans (subR_short hl ss) h.s, h.tn, fun x hx => ?_⟩
  unfold subF at hx
  obtain ⟨i, hi, rfl⟩ := List.mem_map.1 hx
  have hb := (hl.2 i hi).2
  rw [getD_at hb]
  exact h.fn _ (List.getElem_mem hb)
theorem getI_at {α : Type} {l : List α} {m : Int} {k : Nat} (e : m = (k : Int)) (h : k < l.length) : getI l m = some l[k] := by rw [e]; exact getI_nat h
theorem proofR_no {ts : List ByteArray} {fs : Fms} {ss : Sgs} {e : Int} (he : e ≠ 0) (hk : chE ts fs ss = e) : proofR ts fs ss = ([], e) := by
  have h : askE ts fs ss = e := by unfold askE; rw [if_pos (by rw [hk]; exact he), hk]
  unfold proofR; rw [h, if_pos he]
theorem proofR_cl {ts : List ByteArray} {fs : Fms} {ss : Sgs} (hk : chE ts fs ss = 0) {p : Nat × Nat} (hJ : clashJ fs ss = some p) : proofR ts fs ss = ([], 9) := by unfold proofR; rw [ask_cl hk hJ, if_pos (by decide)]
theorem proofR_ok {ts : List ByteArray} {fs : Fms} {ss : Sgs} (hk : chE ts fs ss = 0) (hJ : clashJ fs ss = none) {x : List Nat} {u : Nat} (h : Skel fs ss x u) : proofR ts fs ss = (natsV (proofL fs ss u), 0) := by
  have hm : manyJ fs ss = u := by unfold manyJ; rw [h.eq]
  unfold proofR; rw [ask_ok hk hJ, if_neg (fun h => h rfl), hm]
theorem fewR_sk {ts : List ByteArray} {fs : Fms} {ss : Sgs} (v : Valid ts fs ss) {x : List Nat} {u : Nat} (h : Skel fs ss x u) : fewR ts fs ss = (natsV x, (u : Int), 0) := by
  have hJ : clashJ fs ss = none := (fits_free v.job.n8 v.job.s6).2 ⟨_, h.fits⟩
  unfold fewR; rw [if_neg (fun h' => h' (ask_ok (chk_valid.2 v) hJ)), h.eq]
theorem natsV_drop (l : List Nat) (i : Nat) : (natsV l).drop i = natsV (l.drop i) := by simp [natsV, List.map_drop]
theorem natsV_dropI (l : List Nat) (i : Nat) : (natsV l).take i ++ (natsV l).drop (i + 1) = natsV (dropI l i) := by unfold dropI; rw [natsV_take, natsV_drop]; simp [natsV]
theorem bad_i {fs : Fms} {ss : Sgs} {c : Nat → Nat} {i k : Nat} {l s t : Bool} (h1 : (lab fs.length ss i == lab fs.length ss k) = l) (h2 : (c i == c k) = s) (h3 : stN fs i k = t) (h : (l && !s || t && s) = false) : badP fs ss c i k = false := by unfold badP; rw [h1, h2, h3]; exact h
theorem bad_up {fs : Fms} {ss : Sgs} {c : Nat → Nat} {i k : Nat} (h : ∀ b, b < k → badP fs ss c i b = false) (hb : badP fs ss c i k = false) : ∀ b, b < k + 1 → badP fs ss c i b = false := fun b hlt => by
  rcases Nat.lt_or_ge b k with h1 | h1
  · exact h b h1
  · obtain rfl : b = k := by omega
    exact hb

theorem c48 (gl : Gl) (l : List Int) (hl : l.length ≤ 9223372036854775807) (hb : ∀ v ∈ l, 0 ≤ v ∧ v ≤ 255) (n : Nat) : PCalls PR gl 48 [.sl (S := S) U.u8 l none, vI n] fun r => r = vI (tnI l n) := by
  refine fnW_sound (par_ok gl) Tryd.func48 ?_
  conv => whnf
  refine bcase_iff.2 ⟨fun h1 => ?_, fun h1 => ?_⟩
  · skip
    have h0 : l.length = 0 := by have := beq_iff_eq.1 h1; omega
    -- R:T
    conv => whnf
    unfold tnI; rw [if_pos h0]
  · skip
    have h0 : l.length ≠ 0 := by have := beq_eq_false_iff_ne.1 h1; omega
    have hm : ((n : Int).tmod l.length) = ((n % l.length : Nat) : Int) := by rw [Int.tmod_eq_emod_of_nonneg (by omega)]; omega
    have hlt : n % l.length < l.length := Nat.mod_lt _ (by omega)
    have hv := hb _ (List.getElem_mem hlt)
    conv => whnf
    refine ⟨by omega, ?_⟩
    conv => whnf
    refine ⟨_, getI_at hm hlt, ?_⟩
    -- R:F
    conv => whnf
    unfold tnI; rw [if_neg h0, getD_at hlt, wrap_int (by omega) (by omega)]

theorem op48 : Opens PR 48 := ⟨_, Tryd.func48, rfl, rfl⟩

theorem c9 (ts : List ByteArray) (fs : List Fm) (ss : List Sg) (hL : LensJ ts fs ss) (x : List Int) (hx : x.length ≤ 9223372036854775807) (hxb : ∀ v ∈ x, 0 ≤ v ∧ v ≤ 255) : PCalls PR glT 9 [.agg [strsV ts, fmsV fs, sgsV ss], .sl (S := S) U.u8 x none] fun r => r = vB true := by
  refine fnW_sound (par_ok glT) Tryd.func9 ?_
  conv => whnf
  have h28 := c28 ts fs ss hL
  have h30 := c30 ts fs ss hL
  rcases job3 ts fs ss with ⟨e, he0, hk, hR⟩ | ⟨hk, p, q, hJ, hR⟩ | ⟨hk, hJ, z, u, hsk, hR⟩
  all_goals rw [hR] at h28
  · skip
    have h41 := c41f glT ts fs ss hL (by rw [hk]; exact he0)
    rw [proofR_no he0 hk] at h30
    refine byC h30 op30 ?_
    conv => whnf
    refine byC h41 op41 ?_
    conv => whnf
    refine bcase_iff.2 ⟨fun g3_2 => ?_, fun g3_2 => ?_⟩
    · skip
      conv => whnf
      refine byC ((c27)) op27 ?_
      -- R:aT
      conv => whnf
      rfl
    · skip
      exfalso
      have g : (e != 0) = false := g3_2
      exact he0 (by simpa using g) --done
  · skip
    have hV := chk_valid.1 hk
    have hv := hV.job
    have h8 := hv.n8
    have hs6 := hv.s6
    have hf7 := hV.n7
    have h12 := hV.s12
    have h41 := c41t glT ts fs ss hL hk
    have h18 := c18 ts fs ss hL
    rw [groupsS_ok hk] at h18
    have hll := labL_len fs.length ss
    have hlv := natsV_length (labL fs.length ss)
    rw [proofR_cl hk hJ] at h30
    refine byC h30 op30 ?_
    conv => whnf
    refine byC h41 op41 ?_
    conv => whnf
    refine byC h28 op28 ?_
    conv => whnf
    refine byC h18 op18 ?_
    conv => whnf
    refine bcase_iff.2 ⟨fun h6 => ?_, fun h6 => ?_⟩
    · skip
      exfalso
      have g : (((natsV (labL fs.length ss)).length : Int) != (fs.length : Int)) = true := h6
      rw [hlv, hll] at g; simp at g --done
    · skip
      conv => whnf
      refine byC ((c27)) op27 ?_
      -- R:bF
      conv => whnf
      rfl
  · skip
    have hV := chk_valid.1 hk
    have hv := hV.job
    have h8 := hv.n8
    have hs6 := hv.s6
    have hf7 := hV.n7
    have h12 := hV.s12
    have h41 := c41t glT ts fs ss hL hk
    have hpos := hsk.few.pos
    have hule := hsk.few.le
    have h18 := c18 ts fs ss hL
    rw [groupsS_ok hk] at h18
    have hll := labL_len fs.length ss
    have hlv := natsV_length (labL fs.length ss)
    rw [proofR_ok hk hJ hsk] at h30
    have hP := proof_facts hV hsk hJ
    generalize proofL fs ss u = P at hP h30
    have hPn := natsV_length P
    have hPl := asc_le hP.asc
    have hPu := hP.len
    have hPb : ∀ y ∈ P, y < fs.length := fun y hy => (hP.asc.2 y hy).2
    obtain ⟨y, hy⟩ := hP.many
    have h28p := c28 ts (subF fs P) (subR ss P) (sub_lens hL hP.asc)
    rw [fewR_sk (sub_valid hV hP.asc hP.ne) hy] at h28p
    have h49 := c49 glT ts fs ss (by omega) P (by omega) hPb
    refine byC h30 op30 ?_
    conv => whnf
    refine byC h41 op41 ?_
    conv => whnf
    refine byC h28 op28 ?_
    conv => whnf
    refine byC h18 op18 ?_
    conv => whnf
    refine bcase_iff.2 ⟨fun h6 => ?_, fun h6 => ?_⟩
    · skip
      exfalso
      have g : (((natsV (labL fs.length ss)).length : Int) != (fs.length : Int)) = true := h6
      rw [hlv, hll] at g; simp at g --done
    · skip
      conv => whnf
      refine bcase_iff.2 ⟨fun h10 => ?_, fun h10 => ?_⟩
      · skip
        have hu : 1 < u := by have g : decide ((u : Int) > 1) = true := h10; have := of_decide_eq_true g; omega
        have hwu : IntKind.i64.wrap ((u : Int) - 1) = (u : Int) - 1 := wrap_int (by omega) (by omega)
        have hz : IntKind.i64.wrap ((u : Int) - 1) ≠ 0 := by rw [hwu]; omega
        have hs : ∀ i k : Nat, ((tnI x i).tmod (IntKind.i64.wrap ((u : Int) - 1)) == (tnI x k).tmod (IntKind.i64.wrap ((u : Int) - 1))) = ((fun i => tnN x i % (u - 1)) i == (fun i => tnN x i % (u - 1)) k) := fun i k => by rw [hwu, tn_mod hxb i u hu, tn_mod hxb k u hu, eqN]
        conv => whnf
        refine loop_q fun Q1 hQ1 => ?_
        refine ⟨⟨13606, [], []⟩, ?_⟩
        refine LoopW_ind _ (fun s9 : Nat × Bool => match s9 with | (i, d) => (({ tmps := [.undef, .sl (S := S) U.u8 x none, .own 2 [], .undef, .undef, vL (natsV P), .undef, .undef, vI u, .undef, vL (natsV (labL fs.length ss)), .undef, vB d, vI i, .undef, .undef, .undef, .undef, .undef, .undef, .undef, .undef, .undef, .undef, .undef, .undef, .undef, .undef, .undef, .undef, .undef, .undef, .undef, .undef, .undef, .undef, .undef, .undef, .undef, .undef, .undef, .undef, .undef, .undef, .undef, .undef, .undef, .undef, .undef, .undef, .undef, .undef, .undef, .undef, .undef, .undef, .undef, .undef, .undef, .undef, .undef, .undef, .undef, .undef, .undef, .undef, .undef, .undef, .undef, .undef, .undef, .undef, .undef, .undef, .undef, .undef, .undef, .undef, .undef, .undef, .undef, .undef, .undef, .undef, .undef, .undef, .undef, .undef, .undef, .undef, .undef, .undef, .undef, .undef, .undef, .undef, .undef, .undef, .undef, .undef, .undef, .undef, .undef, .undef, .undef, .undef, .undef, .undef, .undef, .undef, .undef, .undef, .undef, .undef, .undef, .undef, .undef, .undef, .undef, .undef, .undef, .undef, .undef, .undef, .undef, .undef, .undef, .undef, .undef, .undef, .undef, .undef, .undef, .undef, .undef, .undef, .undef, .undef, .undef, .undef, .undef, .undef, .undef, .undef, .undef, .undef, .undef, .undef, .undef, .undef, .undef, .undef, .undef, .undef, .undef, .undef, .undef, .undef, .undef, .undef, .undef, .undef, .undef, .undef, .undef, .undef, .undef, .undef, .undef, .undef, .undef, .undef, .undef, .undef, .undef, .undef, .undef, .undef, .undef, .undef, .undef, .undef, .undef, .undef, .undef, .undef, .undef, .undef, .undef, .undef, .undef, .undef, .undef, .undef, .undef, .undef, .undef, .undef, .undef, .undef, .undef, .undef, .undef, .undef, .undef, .undef, .undef, .undef, .undef, .undef, .undef, .undef, .undef, .undef, .undef, .undef, .undef, .undef, .undef, .undef, .undef, .undef, .undef, .undef, .undef, .undef, .undef, .undef, .undef, .undef, .undef, .undef, .undef], seg := [(2, .cells [strsV ts, fmsV fs, sgsV ss])], up := [] } : St S))) (fun s9 : Nat × Bool => match s9 with | (i, d) => (i ≤ fs.length ∧ (d = false → ∀ a, a < i → ∀ b, b < a → badP fs ss (fun i => tnN x i % (u - 1)) a b = false))) (fun s9 : Nat × Bool => match s9 with | (i, d) => (fs.length - i)) () ?_ (0, false) ⟨Nat.zero_le _, fun _ a h => absurd h (Nat.not_lt_zero a)⟩
        rintro ⟨i, d⟩ hinv Z1 hZ1
        dsimp only at hinv hZ1
        obtain ⟨hi, hn⟩ := hinv
        conv => whnf
        refine bcase_iff.2 ⟨fun h13 => ?_, fun h13 => ?_⟩
        · skip
          have hlt : i < fs.length := by have := of_decide_eq_true h13; omega
          have hw : IntKind.i64.wrap ((i : Int) + 1) = ((i + 1 : Nat) : Int) := wrap_nat (by omega)
          conv => whnf
          refine loop_q fun Q2 hQ2 => ?_
          refine ⟨⟨29990, [], []⟩, ?_⟩
          refine LoopW_ind _ (fun s9 : Nat × Bool => match s9 with | (k, d2) => (({ tmps := [.undef, .sl (S := S) U.u8 x none, .own 2 [], .undef, .undef, vL (natsV P), .undef, .undef, vI u, .undef, vL (natsV (labL fs.length ss)), .undef, vB d2, vI i, vI k, .undef, .undef, .undef, .undef, .undef, .undef, .undef, .undef, .undef, .undef, .undef, .undef, .undef, .undef, .undef, .undef, .undef, .undef, .undef, .undef, .undef, .undef, .undef, .undef, .undef, .undef, .undef, .undef, .undef, .undef, .undef, .undef, .undef, .undef, .undef, .undef, .undef, .undef, .undef, .undef, .undef, .undef, .undef, .undef, .undef, .undef, .undef, .undef, .undef, .undef, .undef, .undef, .undef, .undef, .undef, .undef, .undef, .undef, .undef, .undef, .undef, .undef, .undef, .undef, .undef, .undef, .undef, .undef, .undef, .undef, .undef, .undef, .undef, .undef, .undef, .undef, .undef, .undef, .undef, .undef, .undef, .undef, .undef, .undef, .undef, .undef, .undef, .undef, .undef, .undef, .undef, .undef, .undef, .undef, .undef, .undef, .undef, .undef, .undef, .undef, .undef, .undef, .undef, .undef, .undef, .undef, .undef, .undef, .undef, .undef, .undef, .undef, .undef, .undef, .undef, .undef, .undef, .undef, .undef, .undef, .undef, .undef, .undef, .undef, .undef, .undef, .undef, .undef, .undef, .undef, .undef, .undef, .undef, .undef, .undef, .undef, .undef, .undef, .undef, .undef, .undef, .undef, .undef, .undef, .undef, .undef, .undef, .undef, .undef, .undef, .undef, .undef, .undef, .undef, .undef, .undef, .undef, .undef, .undef, .undef, .undef, .undef, .undef, .undef, .undef, .undef, .undef, .undef, .undef, .undef, .undef, .undef, .undef, .undef, .undef, .undef, .undef, .undef, .undef, .undef, .undef, .undef, .undef, .undef, .undef, .undef, .undef, .undef, .undef, .undef, .undef, .undef, .undef, .undef, .undef, .undef, .undef, .undef, .undef, .undef, .undef, .undef, .undef, .undef, .undef, .undef, .undef, .undef, .undef, .undef, .undef, .undef, .undef, .undef, .undef, .undef, .undef, .undef], seg := [(2, .cells [strsV ts, fmsV fs, sgsV ss])], up := [] } : St S))) (fun s9 : Nat × Bool => match s9 with | (k, d2) => (k ≤ i ∧ (d2 = false → d = false ∧ ∀ b, b < k → badP fs ss (fun i => tnN x i % (u - 1)) i b = false))) (fun s9 : Nat × Bool => match s9 with | (k, d2) => (i - k)) () ?_ (0, d) ⟨Nat.zero_le _, fun h => ⟨h, fun b h => absurd h (Nat.not_lt_zero b)⟩⟩
          rintro ⟨k, d2⟩ hinv Z2 hZ2
          dsimp only at hinv hZ2
          obtain ⟨hki, hn2⟩ := hinv
          conv => whnf
          refine bcase_iff.2 ⟨fun h16 => ?_, fun h16 => ?_⟩
          · skip
            have hltk : k < i := by have := of_decide_eq_true h16; omega
            have hwk : IntKind.i64.wrap ((k : Int) + 1) = ((k + 1 : Nat) : Int) := wrap_nat (by omega)
            have hkf : k < fs.length := by omega
            have hst : stN fs i k = stB fs[i] fs[k] := by unfold stN; rw [getD_at hlt, getD_at hkf]; simp; intro _; omega
            conv => whnf
            refine ⟨[0, 1, 3, 4, 6, 7, 9, 10, 2, 5, 8, 11, 12, 13], [], [], [], ⟨13803492693581127574869511724554050904902217944340773110325048447598591, [], []⟩, by decide +kernel, ?_⟩
            conv => whnf
            refine byC (c48 glT x hx hxb i) op48 ?_
            conv => whnf
            refine ⟨hz, ?_⟩
            conv => whnf
            refine byC (c48 glT x hx hxb k) op48 ?_
            conv => whnf
            refine ⟨hz, ?_⟩
            conv => whnf
            refine ⟨[0, 1, 2, 3, 4, 5, 6, 7, 8, 9, 10, 11, 12, 13, 14, 15, 16, 17, 18, 19, 20, 21, 22, 23, 24, 25, 26, 27, 28, 29, 30, 31, 32], [], [], [], ⟨13803492693581127574869511724554050904902217944340773110325048447598591, [], []⟩, by decide +kernel, ?_⟩
            conv => whnf
            refine bcase_iff.2 ⟨fun g19_1 => ?_, fun g19_1 => ?_⟩
            · skip
              -- Z16:TT
              conv => whnf
              refine ⟨⟨29990, [], []⟩, ?_⟩
              conv => whnf
              rw [hwk]
              exact hZ2 (k + 1, true) ⟨hltk, fun h => by cases h⟩ (by dsimp only; omega)
            · skip
              have q0 : d2 = false := g19_1
              conv => whnf
              refine ⟨_, getI_natsD (by omega), ?_⟩
              conv => whnf
              refine ⟨_, getI_natsD (by omega), ?_⟩
              conv => whnf
              refine bcase_iff.2 ⟨fun g19_11 => ?_, fun g19_11 => ?_⟩
              · skip
                have q1 : (lab fs.length ss i == lab fs.length ss k) = true := by have g := eN g19_11; rw [labL_get hlt, labL_get hkf] at g; exact g
                conv => whnf
                refine bcase_iff.2 ⟨fun g19_16 => ?_, fun g19_16 => ?_⟩
                · skip
                  -- Z16:TFTT
                  conv => whnf
                  refine ⟨⟨29990, [], []⟩, ?_⟩
                  conv => whnf
                  rw [hwk]
                  exact hZ2 (k + 1, true) ⟨hltk, fun h => by cases h⟩ (by dsimp only; omega)
                · skip
                  have q2 : ((fun i => tnN x i % (u - 1)) i == (fun i => tnN x i % (u - 1)) k) = true := by have g : (!((tnI x i).tmod (IntKind.i64.wrap ((u : Int) - 1)) == (tnI x k).tmod (IntKind.i64.wrap ((u : Int) - 1)))) = false := g19_16; rw [hs] at g; simpa using g
                  conv => whnf
                  refine ⟨_, getI_nat hlt, ?_⟩
                  conv => whnf
                  refine ⟨_, getI_nat hkf, ?_⟩
                  conv => whnf
                  refine byC (c47 glT fs[i] fs[k]) op47 ?_
                  conv => whnf
                  refine bcase_iff.2 ⟨fun g19_28 => ?_, fun g19_28 => ?_⟩
                  · skip
                    have q3 : stN fs i k = true := by rw [hst]; exact g19_28
                    -- Z16:TFTFT
                    conv => whnf
                    refine ⟨⟨29990, [], []⟩, ?_⟩
                    conv => whnf
                    rw [hwk]
                    exact hZ2 (k + 1, ((tnI x i).tmod (IntKind.i64.wrap ((u : Int) - 1)) == (tnI x k).tmod (IntKind.i64.wrap ((u : Int) - 1)))) ⟨hltk, fun h => ⟨(hn2 q0).1, bad_up (hn2 q0).2 (by rw [hs, q2] at h; cases h)⟩⟩ (by dsimp only; omega)
                  · skip
                    have q3 : stN fs i k = false := by rw [hst]; exact g19_28
                    -- Z16:TFTFF
                    conv => whnf
                    refine ⟨⟨29990, [], []⟩, ?_⟩
                    conv => whnf
                    rw [hwk]
                    exact hZ2 (k + 1, false) ⟨hltk, fun h => ⟨(hn2 q0).1, bad_up (hn2 q0).2 (bad_i q1 q2 q3 rfl)⟩⟩ (by dsimp only; omega)
              · skip
                have q1 : (lab fs.length ss i == lab fs.length ss k) = false := by have g := eN g19_11; rw [labL_get hlt, labL_get hkf] at g; exact g
                conv => whnf
                refine ⟨_, getI_nat hlt, ?_⟩
                conv => whnf
                refine ⟨_, getI_nat hkf, ?_⟩
                conv => whnf
                refine byC (c47 glT fs[i] fs[k]) op47 ?_
                conv => whnf
                refine bcase_iff.2 ⟨fun g19_28 => ?_, fun g19_28 => ?_⟩
                · skip
                  have q3 : stN fs i k = true := by rw [hst]; exact g19_28
                  -- Z16:TFFT
                  conv => whnf
                  refine ⟨⟨29990, [], []⟩, ?_⟩
                  conv => whnf
                  rw [hwk]
                  exact hZ2 (k + 1, ((tnI x i).tmod (IntKind.i64.wrap ((u : Int) - 1)) == (tnI x k).tmod (IntKind.i64.wrap ((u : Int) - 1)))) ⟨hltk, fun h => ⟨(hn2 q0).1, bad_up (hn2 q0).2 (bad_i q1 ((hs i k).symm.trans h) q3 rfl)⟩⟩ (by dsimp only; omega)
                · skip
                  have q3 : stN fs i k = false := by rw [hst]; exact g19_28
                  -- Z16:TFFF
                  conv => whnf
                  refine ⟨⟨29990, [], []⟩, ?_⟩
                  conv => whnf
                  rw [hwk]
                  exact hZ2 (k + 1, false) ⟨hltk, fun h => ⟨(hn2 q0).1, bad_up (hn2 q0).2 (bad_i q1 rfl q3 (by simp))⟩⟩ (by dsimp only; omega)
          · skip
            have hgek : k = i := by have := of_decide_eq_false h16; omega
            conv => whnf
            refine (hQ2 _ _ _).mpr ?_
            -- Z13:TF
            conv => whnf
            refine ⟨⟨13606, [], []⟩, ?_⟩
            conv => whnf
            rw [hw]
            exact hZ1 (i + 1, d2) ⟨hlt, fun h a ha b hb => by
              rcases Nat.lt_or_ge a i with h1 | h1
              · exact hn (hn2 h).1 a h1 b hb
              · obtain rfl : a = i := by omega
                exact (hn2 h).2 b (by omega)⟩ (by dsimp only; omega)
        · skip
          have hge : i = fs.length := by have := of_decide_eq_false h13; omega
          conv => whnf
          refine (hQ1 _ _ _).mpr ?_
          conv => whnf
          refine bcase_iff.2 ⟨fun h20 => ?_, fun h20 => ?_⟩
          · skip
            exfalso
            have g : (!d) = true := h20
            have := all_ok h8 hs6 hsk (c := (fun i => tnN x i % (u - 1))) (K := u - 1) (fun i => Nat.mod_lt _ (by omega)) (fun a ha b hb => hn (by simpa using g) a (by omega) b hb)
            omega --done
          · skip
            conv => whnf
            refine loop_q fun Q2 hQ2 => ?_
            refine ⟨⟨65828, [], []⟩, ?_⟩
            refine LoopW_ind _ (fun i : Nat => (({ tmps := [.undef, .undef, .own 2 [], .undef, .undef, vL (natsV P), .undef, .undef, vI u, .undef, .undef, .undef, .undef, .undef, .undef, .undef, vI i, .undef, .undef, .undef, .undef, .undef, .undef, .undef, .undef, .undef, .undef, .undef, .undef, .undef, .undef, .undef, .undef, .undef, .undef, .undef, .undef, .undef, .undef, .undef, .undef, .undef, .undef, .undef, .undef, .undef, .undef, .undef, .undef, .undef, .undef, .undef, .undef, .undef, .undef, .undef, .undef, .undef, .undef, .undef, .undef, .undef, .undef, .undef, .undef, .undef, .undef, .undef, .undef, .undef, .undef, .undef, .undef, .undef, .undef, .undef, .undef, .undef, .undef, .undef, .undef, .undef, .undef, .undef, .undef, .undef, .undef, .undef, .undef, .undef, .undef, .undef, .undef, .undef, .undef, .undef, .undef, .undef, .undef, .undef, .undef, .undef, .undef, .undef, .undef, .undef, .undef, .undef, .undef, .undef, .undef, .undef, .undef, .undef, .undef, .undef, .undef, .undef, .undef, .undef, .undef, .undef, .undef, .undef, .undef, .undef, .undef, .undef, .undef, .undef, .undef, .undef, .undef, .undef, .undef, .undef, .undef, .undef, .undef, .undef, .undef, .undef, .undef, .undef, .undef, .undef, .undef, .undef, .undef, .undef, .undef, .undef, .undef, .undef, .undef, .undef, .undef, .undef, .undef, .undef, .undef, .undef, .undef, .undef, .undef, .undef, .undef, .undef, .undef, .undef, .undef, .undef, .undef, .undef, .undef, .undef, .undef, .undef, .undef, .undef, .undef, .undef, .undef, .undef, .undef, .undef, .undef, .undef, .undef, .undef, .undef, .undef, .undef, .undef, .undef, .undef, .undef, .undef, .undef, .undef, .undef, .undef, .undef, .undef, .undef, .undef, .undef, .undef, .undef, .undef, .undef, .undef, .undef, .undef, .undef, .undef, .undef, .undef, .undef, .undef, .undef, .undef, .undef, .undef, .undef, .undef, .undef, .undef, .undef, .undef, .undef, .undef, .undef], seg := [(2, .cells [strsV ts, fmsV fs, sgsV ss])], up := [] } : St S))) (fun i : Nat => (i ≤ P.length)) (fun i : Nat => (P.length - i)) () ?_ 0 (Nat.zero_le _)
            intro i hi Z2 hZ2
            conv => whnf
            refine bcase_iff.2 ⟨fun h23 => ?_, fun h23 => ?_⟩
            · skip
              have hlt : i < P.length := by have := of_decide_eq_true h23; rw [hPn] at this; omega
              have hw : IntKind.i64.wrap ((i : Int) + 1) = ((i + 1 : Nat) : Int) := wrap_nat (by omega)
              have hgk := asc_get hP.asc hlt
              conv => whnf
              refine ⟨[0, 1, 2, 3, 4, 5, 6, 7, 8, 9, 10, 11, 12, 13, 14, 15, 16, 17, 18, 19, 20, 21, 22, 23, 24, 25, 26, 27, 28, 29, 30], [], [], [], ⟨13803492693581127574869511724554050904902217944340773110325048447598591, [], []⟩, by decide +kernel, ?_⟩
              conv => whnf
              refine ⟨_, getI_natsD hlt, ?_⟩
              conv => whnf
              refine ⟨_, getI_natsD hlt, ?_⟩
              conv => whnf
              refine bcase_iff.2 ⟨fun g25_15 => ?_, fun g25_15 => ?_⟩
              · skip
                exfalso
                have g := of_decide_eq_true g25_15; omega --done
              · skip
                conv => whnf
                refine bcase_iff.2 ⟨fun g25_18 => ?_, fun g25_18 => ?_⟩
                · skip
                  have hk0 : 0 < i := by have g := of_decide_eq_true g25_18; omega
                  have hwm : IntKind.i64.wrap ((i : Int) - 1) = ((i - 1 : Nat) : Int) := by rw [wrap_int (by omega) (by omega)]; omega
                  have hnx := asc_next hP.asc hlt hk0
                  conv => whnf
                  refine ⟨_, getI_natsD hlt, ?_⟩
                  conv => whnf
                  refine ⟨_, (by rw [hwm]; exact getI_natsD (by omega)), ?_⟩
                  conv => whnf
                  refine bcase_iff.2 ⟨fun h25 => ?_, fun h25 => ?_⟩
                  · skip
                    exfalso
                    have g := of_decide_eq_true h25; omega --done
                  · skip
                    -- Z23:TFTF
                    conv => whnf
                    refine ⟨⟨65828, [], []⟩, ?_⟩
                    conv => whnf
                    rw [hw]
                    first | exact hZ2 (i + 1) hlt (by omega) | exact hZ1 (i + 1) hlt (by omega)
                · skip
                  -- Z23:TFF
                  conv => whnf
                  refine ⟨⟨65828, [], []⟩, ?_⟩
                  conv => whnf
                  rw [hw]
                  first | exact hZ2 (i + 1) hlt (by omega) | exact hZ1 (i + 1) hlt (by omega)
            · skip
              conv => whnf
              refine (hQ2 _ _ _).mpr ?_
              conv => whnf
              refine bcase_iff.2 ⟨fun h27 => ?_, fun h27 => ?_⟩
              · skip
                exfalso
                have g := of_decide_eq_true h27; rw [hPn] at g; omega --done
              · skip
                conv => whnf
                refine byC h49 op49 ?_
                conv => whnf
                refine byC h28p op28 ?_
                conv => whnf
                refine bcase_iff.2 ⟨fun h30x => ?_, fun h30x => ?_⟩
                · skip
                  exfalso
                  have g : ((u : Int) != (u : Int)) = true := h30x
                  simp at g --done
                · skip
                  conv => whnf
                  refine loop_q fun Q3 hQ3 => ?_
                  refine ⟨⟨1048868, [], []⟩, ?_⟩
                  refine LoopW_ind _ (fun i : Nat => (({ tmps := [.undef, .undef, .own 2 [], .undef, .undef, vL (natsV P), .undef, .undef, vI u, .undef, .undef, .undef, .undef, .undef, .undef, .undef, .undef, .undef, .undef, .undef, vI i, .undef, .undef, .undef, .undef, .undef, .undef, .undef, .undef, .undef, .undef, .undef, .undef, .undef, .undef, .undef, .undef, .undef, .undef, .undef, .undef, .undef, .undef, .undef, .undef, .undef, .undef, .undef, .undef, .undef, .undef, .undef, .undef, .undef, .undef, .undef, .undef, .undef, .undef, .undef, .undef, .undef, .undef, .undef, .undef, .undef, .undef, .undef, .undef, .undef, .undef, .undef, .undef, .undef, .undef, .undef, .undef, .undef, .undef, .undef, .undef, .undef, .undef, .undef, .undef, .undef, .undef, .undef, .undef, .undef, .undef, .undef, .undef, .undef, .undef, .undef, .undef, .undef, .undef, .undef, .undef, .undef, .undef, .undef, .undef, .undef, .undef, .undef, .undef, .undef, .undef, .undef, .undef, .undef, .undef, .undef, .undef, .undef, .undef, .undef, .undef, .undef, .undef, .undef, .undef, .undef, .undef, .undef, .undef, .undef, .undef, .undef, .undef, .undef, .undef, .undef, .undef, .undef, .undef, .undef, .undef, .undef, .undef, .undef, .undef, .undef, .undef, .undef, .undef, .undef, .undef, .undef, .undef, .undef, .undef, .undef, .undef, .undef, .undef, .undef, .undef, .undef, .undef, .undef, .undef, .undef, .undef, .undef, .undef, .undef, .undef, .undef, .undef, .undef, .undef, .undef, .undef, .undef, .undef, .undef, .undef, .undef, .undef, .undef, .undef, .undef, .undef, .undef, .undef, .undef, .undef, .undef, .undef, .undef, .undef, .undef, .undef, .undef, .undef, .undef, .undef, .undef, .undef, .undef, .undef, .undef, .undef, .undef, .undef, .undef, .undef, .undef, .undef, .undef, .undef, .undef, .undef, .undef, .undef, .undef, .undef, .undef, .undef, .undef, .undef, .undef, .undef, .undef, .undef, .undef, .undef, .undef, .undef], seg := [(2, .cells [strsV ts, fmsV fs, sgsV ss])], up := [] } : St S))) (fun i : Nat => (i ≤ P.length)) (fun i : Nat => (P.length - i)) () ?_ 0 (Nat.zero_le _)
                  intro i hi Z3 hZ3
                  conv => whnf
                  refine bcase_iff.2 ⟨fun g33_4 => ?_, fun g33_4 => ?_⟩
                  · skip
                    have hlt : i < P.length := by have := of_decide_eq_true g33_4; rw [hPn] at this; omega
                    have hw : IntKind.i64.wrap ((i : Int) + 1) = ((i + 1 : Nat) : Int) := wrap_nat (by omega)
                    conv => whnf
                    refine bcase_iff.2 ⟨fun h33 => ?_, fun h33 => ?_⟩
                    · skip
                      have hp1 : 1 < P.length := by have := of_decide_eq_true h33; rw [hPn] at this; omega
                      obtain ⟨y2, w, hy2, hwu2⟩ := hP.less i hlt hp1
                      have ha2 := dropI_asc hP.asc i
                      have hdl := dropI_len hlt
                      have hne2 : dropI P i ≠ [] := by intro e; rw [e] at hdl; simp at hdl; omega
                      have h49d := c49 glT ts fs ss (by omega) (dropI P i) (by omega) (fun q hq => (ha2.2 q hq).2)
                      have hLL : (IntKind.i64.wrap ((i : Int) + 1)).toNat ≤ (natsV P).length := by rw [hw, Int.toNat_natCast, hPn]; omega
                      have h49e : PCalls PR glT 49 [.agg [strsV ts, fmsV fs, sgsV ss], vL (List.drop 0 (List.take ((i : Int)).toNat (natsV P)) ++ List.drop (IntKind.i64.wrap ((i : Int) + 1)).toNat (List.take (natsV P).length (natsV P)))] fun r => r = jobV ts (subF fs (dropI P i)) (subR ss (dropI P i)) := by
                        rw [hw, List.take_length, List.drop_zero, Int.toNat_natCast, Int.toNat_natCast, natsV_dropI]; exact h49d
                      have h28d := c28 ts (subF fs (dropI P i)) (subR ss (dropI P i)) (sub_lens hL ha2)
                      rw [fewR_sk (sub_valid hV ha2 hne2) hy2] at h28d
                      conv => whnf
                      refine ⟨[0, 1, 2, 3, 4, 6, 7, 8, 9, 5, 10, 11, 12, 13, 14, 15, 16, 17, 18, 19], [0, 5], [10], [214], ⟨13803492693581127574869511724554050904902217944340773110325048447598591, [], []⟩, by decide +kernel, ?_⟩
                      conv => whnf
                      refine ⟨by omega, ?_⟩
                      conv => whnf
                      refine ⟨by omega, by simp <;> omega, ?_⟩
                      conv => whnf
                      refine ⟨by omega, ?_⟩
                      conv => whnf
                      conv => whnf
                      conv => whnf
                      refine ⟨hLL, Nat.le_refl _, ?_⟩
                      conv => whnf
                      refine ⟨Pln.lim (by simp; omega), ?_⟩
                      conv => whnf
                      refine ⟨Pln.lim (by simp; omega), ?_⟩
                      conv => whnf
                      refine byC h49e op49 ?_
                      conv => whnf
                      refine byC h28d op28 ?_
                      conv => whnf
                      refine bcase_iff.2 ⟨fun h36 => ?_, fun h36 => ?_⟩
                      · skip
                        exfalso
                        have g : decide ((w : Int) ≥ (u : Int)) = true := h36
                        have g := of_decide_eq_true g; omega --done
                      · skip
                        -- Z33:TTF
                        conv => whnf
                        refine ⟨⟨1048868, [214, 219], []⟩, ?_⟩
                        conv => whnf
                        rw [hw]
                        first | exact hZ3 (i + 1) hlt (by omega) | exact hZ2 (i + 1) hlt (by omega)
                    · skip
                      conv => whnf
                      refine (hQ3 _ _ _).mpr ?_
                      conv => whnf
                      refine byC ((c27)) op27 ?_
                      -- R:cFTFFFFFTF
                      conv => whnf
                  · skip
                    conv => whnf
                    refine (hQ3 _ _ _).mpr ?_
                    conv => whnf
                    refine byC ((c27)) op27 ?_
                    -- R:cFTFFFFFF
                    conv => whnf
      · skip
        conv => whnf
        refine loop_q fun Q1 hQ1 => ?_
        refine ⟨⟨65828, [], []⟩, ?_⟩
        refine LoopW_ind _ (fun i : Nat => (({ tmps := [.undef, .undef, .own 2 [], .undef, .undef, vL (natsV P), .undef, .undef, vI u, .undef, .undef, .undef, .undef, .undef, .undef, .undef, vI i, .undef, .undef, .undef, .undef, .undef, .undef, .undef, .undef, .undef, .undef, .undef, .undef, .undef, .undef, .undef, .undef, .undef, .undef, .undef, .undef, .undef, .undef, .undef, .undef, .undef, .undef, .undef, .undef, .undef, .undef, .undef, .undef, .undef, .undef, .undef, .undef, .undef, .undef, .undef, .undef, .undef, .undef, .undef, .undef, .undef, .undef, .undef, .undef, .undef, .undef, .undef, .undef, .undef, .undef, .undef, .undef, .undef, .undef, .undef, .undef, .undef, .undef, .undef, .undef, .undef, .undef, .undef, .undef, .undef, .undef, .undef, .undef, .undef, .undef, .undef, .undef, .undef, .undef, .undef, .undef, .undef, .undef, .undef, .undef, .undef, .undef, .undef, .undef, .undef, .undef, .undef, .undef, .undef, .undef, .undef, .undef, .undef, .undef, .undef, .undef, .undef, .undef, .undef, .undef, .undef, .undef, .undef, .undef, .undef, .undef, .undef, .undef, .undef, .undef, .undef, .undef, .undef, .undef, .undef, .undef, .undef, .undef, .undef, .undef, .undef, .undef, .undef, .undef, .undef, .undef, .undef, .undef, .undef, .undef, .undef, .undef, .undef, .undef, .undef, .undef, .undef, .undef, .undef, .undef, .undef, .undef, .undef, .undef, .undef, .undef, .undef, .undef, .undef, .undef, .undef, .undef, .undef, .undef, .undef, .undef, .undef, .undef, .undef, .undef, .undef, .undef, .undef, .undef, .undef, .undef, .undef, .undef, .undef, .undef, .undef, .undef, .undef, .undef, .undef, .undef, .undef, .undef, .undef, .undef, .undef, .undef, .undef, .undef, .undef, .undef, .undef, .undef, .undef, .undef, .undef, .undef, .undef, .undef, .undef, .undef, .undef, .undef, .undef, .undef, .undef, .undef, .undef, .undef, .undef, .undef, .undef, .undef, .undef, .undef, .undef, .undef], seg := [(2, .cells [strsV ts, fmsV fs, sgsV ss])], up := [] } : St S))) (fun i : Nat => (i ≤ P.length)) (fun i : Nat => (P.length - i)) () ?_ 0 (Nat.zero_le _)
        intro i hi Z1 hZ1
        conv => whnf
        refine bcase_iff.2 ⟨fun h23 => ?_, fun h23 => ?_⟩
        · skip
          have hlt : i < P.length := by have := of_decide_eq_true h23; rw [hPn] at this; omega
          have hw : IntKind.i64.wrap ((i : Int) + 1) = ((i + 1 : Nat) : Int) := wrap_nat (by omega)
          have hgk := asc_get hP.asc hlt
          conv => whnf
          refine ⟨[0, 1, 2, 3, 4, 5, 6, 7, 8, 9, 10, 11, 12, 13, 14, 15, 16, 17, 18, 19, 20, 21, 22, 23, 24, 25, 26, 27, 28, 29, 30], [], [], [], ⟨13803492693581127574869511724554050904902217944340773110325048447598591, [], []⟩, by decide +kernel, ?_⟩
          conv => whnf
          refine ⟨_, getI_natsD hlt, ?_⟩
          conv => whnf
          refine ⟨_, getI_natsD hlt, ?_⟩
          conv => whnf
          refine bcase_iff.2 ⟨fun g25_15 => ?_, fun g25_15 => ?_⟩
          · skip
            exfalso
            have g := of_decide_eq_true g25_15; omega --done
          · skip
            conv => whnf
            refine bcase_iff.2 ⟨fun g25_18 => ?_, fun g25_18 => ?_⟩
            · skip
              have hk0 : 0 < i := by have g := of_decide_eq_true g25_18; omega
              have hwm : IntKind.i64.wrap ((i : Int) - 1) = ((i - 1 : Nat) : Int) := by rw [wrap_int (by omega) (by omega)]; omega
              have hnx := asc_next hP.asc hlt hk0
              conv => whnf
              refine ⟨_, getI_natsD hlt, ?_⟩
              conv => whnf
              refine ⟨_, (by rw [hwm]; exact getI_natsD (by omega)), ?_⟩
              conv => whnf
              refine bcase_iff.2 ⟨fun h25 => ?_, fun h25 => ?_⟩
              · skip
                exfalso
                have g := of_decide_eq_true h25; omega --done
              · skip
                -- Z23:TFTF
                conv => whnf
                refine ⟨⟨65828, [], []⟩, ?_⟩
                conv => whnf
                rw [hw]
                first | exact hZ2 (i + 1) hlt (by omega) | exact hZ1 (i + 1) hlt (by omega)
            · skip
              -- Z23:TFF
              conv => whnf
              refine ⟨⟨65828, [], []⟩, ?_⟩
              conv => whnf
              rw [hw]
              first | exact hZ2 (i + 1) hlt (by omega) | exact hZ1 (i + 1) hlt (by omega)
        · skip
          conv => whnf
          refine (hQ1 _ _ _).mpr ?_
          conv => whnf
          refine bcase_iff.2 ⟨fun h27 => ?_, fun h27 => ?_⟩
          · skip
            exfalso
            have g := of_decide_eq_true h27; rw [hPn] at g; omega --done
          · skip
            conv => whnf
            refine byC h49 op49 ?_
            conv => whnf
            refine byC h28p op28 ?_
            conv => whnf
            refine bcase_iff.2 ⟨fun h30x => ?_, fun h30x => ?_⟩
            · skip
              exfalso
              have g : ((u : Int) != (u : Int)) = true := h30x
              simp at g --done
            · skip
              conv => whnf
              refine loop_q fun Q2 hQ2 => ?_
              refine ⟨⟨1048868, [], []⟩, ?_⟩
              refine LoopW_ind _ (fun i : Nat => (({ tmps := [.undef, .undef, .own 2 [], .undef, .undef, vL (natsV P), .undef, .undef, vI u, .undef, .undef, .undef, .undef, .undef, .undef, .undef, .undef, .undef, .undef, .undef, vI i, .undef, .undef, .undef, .undef, .undef, .undef, .undef, .undef, .undef, .undef, .undef, .undef, .undef, .undef, .undef, .undef, .undef, .undef, .undef, .undef, .undef, .undef, .undef, .undef, .undef, .undef, .undef, .undef, .undef, .undef, .undef, .undef, .undef, .undef, .undef, .undef, .undef, .undef, .undef, .undef, .undef, .undef, .undef, .undef, .undef, .undef, .undef, .undef, .undef, .undef, .undef, .undef, .undef, .undef, .undef, .undef, .undef, .undef, .undef, .undef, .undef, .undef, .undef, .undef, .undef, .undef, .undef, .undef, .undef, .undef, .undef, .undef, .undef, .undef, .undef, .undef, .undef, .undef, .undef, .undef, .undef, .undef, .undef, .undef, .undef, .undef, .undef, .undef, .undef, .undef, .undef, .undef, .undef, .undef, .undef, .undef, .undef, .undef, .undef, .undef, .undef, .undef, .undef, .undef, .undef, .undef, .undef, .undef, .undef, .undef, .undef, .undef, .undef, .undef, .undef, .undef, .undef, .undef, .undef, .undef, .undef, .undef, .undef, .undef, .undef, .undef, .undef, .undef, .undef, .undef, .undef, .undef, .undef, .undef, .undef, .undef, .undef, .undef, .undef, .undef, .undef, .undef, .undef, .undef, .undef, .undef, .undef, .undef, .undef, .undef, .undef, .undef, .undef, .undef, .undef, .undef, .undef, .undef, .undef, .undef, .undef, .undef, .undef, .undef, .undef, .undef, .undef, .undef, .undef, .undef, .undef, .undef, .undef, .undef, .undef, .undef, .undef, .undef, .undef, .undef, .undef, .undef, .undef, .undef, .undef, .undef, .undef, .undef, .undef, .undef, .undef, .undef, .undef, .undef, .undef, .undef, .undef, .undef, .undef, .undef, .undef, .undef, .undef, .undef, .undef, .undef, .undef, .undef, .undef, .undef, .undef, .undef], seg := [(2, .cells [strsV ts, fmsV fs, sgsV ss])], up := [] } : St S))) (fun i : Nat => (i ≤ P.length)) (fun i : Nat => (P.length - i)) () ?_ 0 (Nat.zero_le _)
              intro i hi Z2 hZ2
              conv => whnf
              refine bcase_iff.2 ⟨fun g33_4 => ?_, fun g33_4 => ?_⟩
              · skip
                have hlt : i < P.length := by have := of_decide_eq_true g33_4; rw [hPn] at this; omega
                have hw : IntKind.i64.wrap ((i : Int) + 1) = ((i + 1 : Nat) : Int) := wrap_nat (by omega)
                conv => whnf
                refine bcase_iff.2 ⟨fun h33 => ?_, fun h33 => ?_⟩
                · skip
                  have hp1 : 1 < P.length := by have := of_decide_eq_true h33; rw [hPn] at this; omega
                  obtain ⟨y2, w, hy2, hwu2⟩ := hP.less i hlt hp1
                  have ha2 := dropI_asc hP.asc i
                  have hdl := dropI_len hlt
                  have hne2 : dropI P i ≠ [] := by intro e; rw [e] at hdl; simp at hdl; omega
                  have h49d := c49 glT ts fs ss (by omega) (dropI P i) (by omega) (fun q hq => (ha2.2 q hq).2)
                  have hLL : (IntKind.i64.wrap ((i : Int) + 1)).toNat ≤ (natsV P).length := by rw [hw, Int.toNat_natCast, hPn]; omega
                  have h49e : PCalls PR glT 49 [.agg [strsV ts, fmsV fs, sgsV ss], vL (List.drop 0 (List.take ((i : Int)).toNat (natsV P)) ++ List.drop (IntKind.i64.wrap ((i : Int) + 1)).toNat (List.take (natsV P).length (natsV P)))] fun r => r = jobV ts (subF fs (dropI P i)) (subR ss (dropI P i)) := by
                    rw [hw, List.take_length, List.drop_zero, Int.toNat_natCast, Int.toNat_natCast, natsV_dropI]; exact h49d
                  have h28d := c28 ts (subF fs (dropI P i)) (subR ss (dropI P i)) (sub_lens hL ha2)
                  rw [fewR_sk (sub_valid hV ha2 hne2) hy2] at h28d
                  conv => whnf
                  refine ⟨[0, 1, 2, 3, 4, 6, 7, 8, 9, 5, 10, 11, 12, 13, 14, 15, 16, 17, 18, 19], [0, 5], [10], [214], ⟨13803492693581127574869511724554050904902217944340773110325048447598591, [], []⟩, by decide +kernel, ?_⟩
                  conv => whnf
                  refine ⟨by omega, ?_⟩
                  conv => whnf
                  refine ⟨by omega, by simp <;> omega, ?_⟩
                  conv => whnf
                  refine ⟨by omega, ?_⟩
                  conv => whnf
                  conv => whnf
                  conv => whnf
                  refine ⟨hLL, Nat.le_refl _, ?_⟩
                  conv => whnf
                  refine ⟨Pln.lim (by simp; omega), ?_⟩
                  conv => whnf
                  refine ⟨Pln.lim (by simp; omega), ?_⟩
                  conv => whnf
                  refine byC h49e op49 ?_
                  conv => whnf
                  refine byC h28d op28 ?_
                  conv => whnf
                  refine bcase_iff.2 ⟨fun h36 => ?_, fun h36 => ?_⟩
                  · skip
                    exfalso
                    have g : decide ((w : Int) ≥ (u : Int)) = true := h36
                    have g := of_decide_eq_true g; omega --done
                  · skip
                    -- Z33:TTF
                    conv => whnf
                    refine ⟨⟨1048868, [214, 219], []⟩, ?_⟩
                    conv => whnf
                    rw [hw]
                    first | exact hZ3 (i + 1) hlt (by omega) | exact hZ2 (i + 1) hlt (by omega)
                · skip
                  conv => whnf
                  refine (hQ2 _ _ _).mpr ?_
                  conv => whnf
                  refine byC ((c27)) op27 ?_
                  -- R:cFFFFFTF
                  conv => whnf
              · skip
                conv => whnf
                refine (hQ2 _ _ _).mpr ?_
                conv => whnf
                refine byC ((c27)) op27 ?_
                -- R:cFFFFFF
                conv => whnf

end Go.Ab.SkF
