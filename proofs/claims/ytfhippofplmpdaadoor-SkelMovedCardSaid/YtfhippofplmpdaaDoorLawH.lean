/-
  THE SKELETON FAMILY, PART PY: a job of which all days are later by as many: plain.
  THE SKELETON FAMILY, PART PZ: a job with its formes and sightings in the other order: plain.
  THE SKELETON FAMILY, PART LK: the law SkelMoved.
-/
import Derived.Test.YtfhippofplmpdaaDoorLawG
namespace Go.Ab.SkF
open Go Go.Ab Go.Ab.Pln

def shF (b : Nat) (fs : Fms) : Fms := fs.map fun f => (f.1, f.2.1 + (b : Int), f.2.2.1 + (b : Int), f.2.2.2 + (b : Int))
theorem shF_len (b : Nat) (fs : Fms) : (shF b fs).length = fs.length := by simp [shF]
theorem shF_get (b : Nat) {fs : Fms} {i : Nat} (h : i < fs.length) : (shF b fs).getD i f0 = ((fs.getD i f0).1, (fs.getD i f0).2.1 + (b : Int), (fs.getD i f0).2.2.1 + (b : Int), (fs.getD i f0).2.2.2 + (b : Int)) := by
  rw [getD_at (by rw [shF_len]; exact h), getD_at h]; simp [shF]
theorem st_sh (b : Nat) {fs : Fms} {i k : Nat} (hi : i < fs.length) (hk : k < fs.length) : stN (shF b fs) i k = stN fs i k := by
  unfold stN stB
  rw [shF_get b hi, shF_get b hk]
  dsimp only
  congr 1
  congr 1 <;> · rw [decide_eq_decide]; omega
theorem pr_sh (b : Nat) {fs : Fms} {i k : Nat} (hi : i < fs.length) (hk : k < fs.length) : prN (shF b fs) i k = prN fs i k := by
  unfold prN prB
  rw [shF_get b hi, shF_get b hk]
  dsimp only
  congr 1
  congr 1 <;> · rw [decide_eq_decide]; omega
theorem skel_sh (b : Nat) (fs : Fms) (ss : Sgs) : skelJ (shF b fs) ss = skelJ fs ss := by
  unfold skelJ
  rw [shF_len]
  exact fewS_congr fun i k hi hk => ⟨rfl, st_sh b hi (by omega)⟩
theorem press_sh (b : Nat) (fs : Fms) : pressJ (shF b fs) = pressJ fs := by
  unfold pressJ
  rw [shF_len]
  exact fewS_congr fun i k hi hk => ⟨rfl, pr_sh b hi (by omega)⟩
theorem free_sh {b : Nat} {fs : Fms} {ss : Sgs} (h8 : fs.length ≤ 8) (hs : SsOk fs.length 6 ss) : clashJ (shF b fs) ss = none ↔ clashJ fs ss = none := by
  rw [fits_free h8 hs, fits_free (by rw [shF_len]; exact h8) (by rw [shF_len]; exact hs)]
  constructor
  · rintro ⟨c, h1, h2⟩
    rw [shF_len] at h1 h2
    exact ⟨c, h1, fun i k hi hk hst => h2 i k hi hk (by rw [st_sh b hi hk]; exact hst)⟩
  · rintro ⟨c, h1, h2⟩
    refine ⟨c, ?_, ?_⟩ <;> rw [shF_len]
    · exact h1
    · exact fun i k hi hk hst => h2 i k hi hk (by rw [← st_sh b hi hk]; exact hst)
theorem few_sh {ts : List ByteArray} {b : Nat} {fs : Fms} {ss : Sgs} (v : Valid ts fs ss) (v' : Valid ts (shF b fs) ss) : fewR ts (shF b fs) ss = fewR ts fs ss := by
  have hk := chk_valid.2 v
  have hk' := chk_valid.2 v'
  have hf := free_sh (b := b) v.job.n8 v.job.s6
  unfold fewR
  rw [skel_sh]
  cases hJ : clashJ fs ss with
  | none => rw [ask_ok hk hJ, ask_ok hk' (hf.2 hJ)]
  | some p =>
    cases hJ' : clashJ (shF b fs) ss with
    | none => rw [hf.1 hJ'] at hJ; cases hJ
    | some p' => rw [ask_cl hk hJ, ask_cl hk' hJ']
theorem pressR_sh {ts : List ByteArray} {b : Nat} {fs : Fms} {ss : Sgs} (v : Valid ts fs ss) (v' : Valid ts (shF b fs) ss) : pressR ts (shF b fs) ss = pressR ts fs ss := by
  unfold pressR
  rw [press_sh, if_neg (fun h => h (chk_valid.2 v')), if_neg (fun h => h (chk_valid.2 v))]
theorem on_sh (b : Nat) (fs : Fms) (d : Int) : onL (shF b fs) d = onL fs (d - b) := by
  unfold onL onP
  rw [shF_len]
  apply List.filter_congr
  intro k hk
  have hk := List.mem_range.1 hk
  unfold setOf offOf
  rw [shF_get b hk]
  dsimp only
  congr 1 <;> · rw [decide_eq_decide]; omega
theorem best_sh {ts : List ByteArray} {b : Nat} {fs : Fms} {ss : Sgs} (v : Valid ts fs ss) (v' : Valid ts (shF b fs) ss) : bestD (shF b fs) 60 = bestD fs 60 + b := by
  obtain ⟨a1, a2, a3⟩ := bestD_spec fs 60
  obtain ⟨b1, b2, b3⟩ := bestD_spec (shF b fs) 60
  have hn := v.job.n0
  have hd : ∀ i, i < fs.length → 0 ≤ setOf fs i ∧ setOf fs i ≤ offOf fs i ∧ offOf fs i + b ≤ 60 := fun i hi => by
    have h1 := job_days v.job hi
    have h2 := job_days v'.job (i := i) (by rw [shF_len]; exact hi)
    have h3 : offOf (shF b fs) i = offOf fs i + b := by unfold offOf; rw [shF_get b hi]
    omega
  -- on the best day some stand
  have h0 := hd 0 hn
  have hne : 0 < (onL fs (bestD fs 60)).length := by
    have h1 := a2 (setOf fs 0).toNat (by omega)
    have h2 : 0 ∈ onL fs ((setOf fs 0).toNat : Int) := onP_mem.2 ⟨hn, by omega, by omega⟩
    have := List.length_pos_of_mem h2
    omega
  -- and it is not too late
  have hle : bestD fs 60 + b ≤ 60 := by
    obtain ⟨k, hk⟩ := List.exists_mem_of_length_pos hne
    have := onP_mem.1 hk
    have := hd k this.1
    omega
  have c1 := b2 (bestD fs 60 + b) hle
  rw [on_sh, on_sh, show (((bestD fs 60 + b : Nat) : Int) - b) = (bestD fs 60 : Int) by omega] at c1
  have hge : b ≤ bestD (shF b fs) 60 := by
    rcases Nat.lt_or_ge (bestD (shF b fs) 60) b with h | h
    · exfalso
      obtain ⟨k, hk⟩ := List.exists_mem_of_length_pos (Nat.lt_of_lt_of_le hne c1)
      have := onP_mem.1 hk
      have := hd k this.1
      omega
    · exact h
  have e : ((bestD (shF b fs) 60 : Int) - b) = ((bestD (shF b fs) 60 - b : Nat) : Int) := by omega
  rw [e] at c1
  have c2 := a2 (bestD (shF b fs) 60 - b) (by omega)
  rcases Nat.lt_trichotomy (bestD (shF b fs) 60) (bestD fs 60 + b) with h | h | h
  · have := a3 (bestD (shF b fs) 60 - b) (by omega); omega
  · exact h
  · have := b3 (bestD fs 60 + b) h
    rw [on_sh, on_sh, show (((bestD fs 60 + b : Nat) : Int) - b) = (bestD fs 60 : Int) by omega, e] at this
    omega
theorem stand_sh {ts : List ByteArray} {b : Nat} {fs : Fms} {ss : Sgs} (v : Valid ts fs ss) (v' : Valid ts (shF b fs) ss) : standR ts (shF b fs) ss = ((bestD fs 60 : Int) + b, natsV (onL fs (bestD fs 60)), 0) := by
  rw [standR_ok (chk_valid.2 v'), on_sh, best_sh v v', show (((bestD fs 60 + b : Nat) : Int) - b) = (bestD fs 60 : Int) by omega]
  rfl

/-- Days on which a type cracks, and those later by as many. -/
structure Lat (b : Nat) (p q : Int × Int) : Prop where
  lo : (p.1 = 0 ∧ q.1 = 0) ∨ (1 ≤ p.1 ∧ p.1 + b ≤ 61 ∧ q.1 = p.1 + b)
  hi : (p.2 = 61 ∧ q.2 = 61) ∨ (0 ≤ p.2 ∧ p.2 + b ≤ 60 ∧ q.2 = p.2 + b)
theorem lat_step {b : Nat} {fs : Fms} {t : Int} {p q : Int × Int} {s : Sg} (h : Lat b p q) (hf : ∀ i, i < fs.length → 0 ≤ (fs.getD i f0).2.2.1 ∧ (fs.getD i f0).2.2.1 ≤ (fs.getD i f0).2.2.2 ∧ (fs.getD i f0).2.2.2 + b ≤ 60) (hs : 0 ≤ s.1 ∧ s.1 < fs.length) :
    Lat b (crackStep fs t p s) (crackStep (shF b fs) t q s) := by
  have hi : s.1.toNat < fs.length := by omega
  have hd := hf _ hi
  have h1 := h.lo
  have h2 := h.hi
  unfold crackStep
  rw [shF_get b hi]
  split
  · exact h
  · split
    · exact ⟨by dsimp only; omega, h2⟩
    · split
      · exact ⟨h1, by dsimp only; omega⟩
      · exact h
theorem lat_crack {ts : List ByteArray} {b : Nat} {fs : Fms} {ss : Sgs} (v : Valid ts fs ss) (v' : Valid ts (shF b fs) ss) (t : Int) : Lat b (crackS fs ss t) (crackS (shF b fs) ss t) := by
  have hf : ∀ i, i < fs.length → 0 ≤ (fs.getD i f0).2.2.1 ∧ (fs.getD i f0).2.2.1 ≤ (fs.getD i f0).2.2.2 ∧ (fs.getD i f0).2.2.2 + b ≤ 60 := fun i hi => by
    have h1 := job_days v.job hi
    have h2 := job_days v'.job (i := i) (by rw [shF_len]; exact hi)
    have h3 : offOf (shF b fs) i = offOf fs i + b := by unfold offOf; rw [shF_get b hi]
    unfold offOf onOf at *
    omega
  have go : ∀ (l : Sgs) (p q : Int × Int), (∀ s ∈ l, 0 ≤ s.1 ∧ s.1 < fs.length) → Lat b p q → Lat b (l.foldl (crackStep fs t) p) (l.foldl (crackStep (shF b fs) t) q) := fun l => by
    induction l with
    | nil => intro p q _ h; exact h
    | cons s l ih => intro p q hl h; exact ih _ _ (fun x hx => hl x (List.mem_cons_of_mem _ hx)) (lat_step h hf (hl s List.mem_cons_self))
  exact go ss _ _ (fun s hs => by have := v.ok.each s hs; exact ⟨this.1, this.2.1⟩) ⟨.inl ⟨rfl, rfl⟩, .inl ⟨rfl, rfl⟩⟩
theorem Lat.same {b : Nat} {p q : Int × Int} (h : Lat b p q) : p.1 > p.2 ↔ q.1 > q.2 := by
  have h1 := h.lo
  have h2 := h.hi
  omega
end Go.Ab.SkF

namespace Go.Ab.SkF
open Go Go.Ab Go.Ab.Pln

/-- The sightings, of formes counted from the end, in the other order. -/
def rvS (n : Nat) (ss : Sgs) : Sgs := (ss.map fun s => ((n : Int) - 1 - s.1, s.2)).reverse
theorem rvS_len (n : Nat) (ss : Sgs) : (rvS n ss).length = ss.length := by simp [rvS]
theorem rvS_mem {n : Nat} {ss : Sgs} {s : Sg} : s ∈ rvS n ss ↔ ((n : Int) - 1 - s.1, s.2) ∈ ss := by
  unfold rvS
  rw [List.mem_reverse, List.mem_map]
  constructor
  · rintro ⟨x, hx, rfl⟩
    rw [show ((n : Int) - 1 - ((n : Int) - 1 - x.1), x.2) = x from Prod.ext (by dsimp only; omega) rfl]
    exact hx
  · intro h
    exact ⟨_, h, Prod.ext (by dsimp only; omega) rfl⟩
theorem rvF_get {fs : Fms} {i : Nat} (h : i < fs.length) : fs.reverse.getD i f0 = fs.getD (fs.length - 1 - i) f0 := by
  rw [getD_at (by rw [List.length_reverse]; exact h), getD_at (by omega), List.getElem_reverse]
theorem sq_comm (a b : ByteArray) : strEq a b = strEq b a := by
  unfold strEq
  rw [Bool.eq_iff_iff, beq_iff_eq, beq_iff_eq]
  exact ⟨Eq.symm, Eq.symm⟩
theorem fo_parts {pre : Fms} {f : Fm} (h : foE pre f = 0) : nameB f.1 = true ∧ (∀ p ∈ pre, strEq p.1 f.1 = false) ∧ ∀ pre' : Fms, (∀ p ∈ pre', strEq p.1 f.1 = false) → foE pre' f = 0 := by
  unfold foE at h
  split at h
  · cases h
  · rename_i h1
    split at h
    · cases h
    · rename_i h2
      refine ⟨by simpa using h1, fun p hp => ?_, fun pre' hp' => ?_⟩
      · cases hs : strEq p.1 f.1 with
        | false => rfl
        | true => exact absurd (List.any_eq_true.2 ⟨p, hp, hs⟩) h2
      · unfold foE
        rw [if_neg h1, if_neg]
        · exact h
        · intro hc
          obtain ⟨p, hp, he⟩ := List.any_eq_true.1 hc
          rw [hp' p hp] at he; cases he
theorem names_two {ts : List ByteArray} {fs : Fms} {ss : Sgs} (v : Valid ts fs ss) {i k : Nat} (hi : i < fs.length) (hk : k < fs.length) (h : i ≠ k) : strEq fs[i].1 fs[k].1 = false := by
  have go : ∀ a b (ha : a < fs.length) (hb : b < fs.length), a < b → strEq fs[a].1 fs[b].1 = false := fun a b ha hb hab => by
    have h0 := v.fo b hb
    unfold foF at h0
    rw [getD_at hb] at h0
    exact (fo_parts h0).2.1 _ (List.mem_take_iff_getElem.2 ⟨a, Nat.lt_min.2 ⟨hab, ha⟩, rfl⟩)
  rcases Nat.lt_or_gt_of_ne h with h1 | h1
  · exact go i k hi hk h1
  · rw [sq_comm]; exact go k i hk hi h1
theorem rv_fo {ts : List ByteArray} {fs : Fms} {ss : Sgs} (v : Valid ts fs ss) {i : Nat} (hi : i < fs.length) : foF fs.reverse i = 0 := by
  have h0 := v.fo (fs.length - 1 - i) (by omega)
  unfold foF at h0 ⊢
  rw [rvF_get hi]
  rw [getD_at (by omega)] at h0 ⊢
  refine (fo_parts h0).2.2 _ fun p hp => ?_
  obtain ⟨j, hj, rfl⟩ := List.mem_take_iff_getElem.1 hp
  rw [List.length_reverse] at hj
  rw [List.getElem_reverse]
  exact names_two v _ _ (by omega)
theorem rv_si {n nt : Nat} {ss : Sgs} (h : SiOk n nt ss) : SiOk n nt (rvS n ss) := by
  refine ⟨fun s hs => ?_, ?_⟩
  · have := h.each _ (rvS_mem.1 hs)
    dsimp only at this
    exact ⟨by omega, by omega, this.2.2⟩
  · unfold rvS
    rw [List.pairwise_reverse, List.pairwise_map]
    refine List.Pairwise.imp ?_ h.two
    intro a b hab he
    dsimp only at he
    exact hab ⟨by omega, he.2.symm⟩
theorem rv_valid {ts : List ByteArray} {fs : Fms} {ss : Sgs} (v : Valid ts fs ss) : Valid ts fs.reverse (rvS fs.length ss) := by
  refine ⟨v.t6, v.tn, by rw [List.length_reverse]; exact v.n1, by rw [List.length_reverse]; exact v.n7, fun i hi => ?_, by rw [rvS_len]; exact v.s12, fun i hi => ?_⟩
  · rw [List.length_reverse] at hi; exact rv_fo v hi
  · rw [List.length_reverse]; exact si_ok (rv_si v.ok) hi
theorem rvS_rvS (n : Nat) (ss : Sgs) : rvS n (rvS n ss) = ss := by
  unfold rvS
  rw [List.map_reverse, List.reverse_reverse, List.map_map]
  conv => rhs; rw [← List.map_id ss]
  apply List.map_congr_left
  intro s _
  exact Prod.ext (by dsimp only [Function.comp, id]; omega) rfl
theorem rv_seen {n : Nat} {ss : Sgs} {i t : Nat} (hi : i < n) (h : seenP (rvS n ss) i t) : seenP ss (n - 1 - i) t := by
  obtain ⟨s, hs, h1, h2⟩ := h
  exact ⟨_, rvS_mem.1 hs, by dsimp only; omega, h2⟩
theorem rv_st {fs : Fms} {i k : Nat} (hi : i < fs.length) (hk : k < fs.length) : stN fs.reverse i k = stN fs (fs.length - 1 - i) (fs.length - 1 - k) := by
  unfold stN
  rw [rvF_get hi, rvF_get hk]
  congr 1
  rw [Bool.eq_iff_iff, bne_iff_ne, bne_iff_ne]; omega
theorem rv_pr {fs : Fms} {i k : Nat} (hi : i < fs.length) (hk : k < fs.length) : prN fs.reverse i k = prN fs (fs.length - 1 - i) (fs.length - 1 - k) := by
  unfold prN
  rw [rvF_get hi, rvF_get hk]
  congr 1
  rw [Bool.eq_iff_iff, bne_iff_ne, bne_iff_ne]; omega
theorem rv_fits {fs : Fms} {ss : Sgs} {c : Nat → Nat} (h : Fits fs ss c) : Fits fs.reverse (rvS fs.length ss) fun i => c (fs.length - 1 - i) := by
  refine ⟨fun i k hi hk hc => ?_, fun i k hi hk hs => ?_⟩ <;> rw [List.length_reverse] at hi hk
  · obtain ⟨t, h1, h2⟩ := hc
    exact h.same _ _ (by omega) (by omega) ⟨t, rv_seen hi h1, rv_seen hk h2⟩
  · rw [rv_st hi hk] at hs
    exact h.diff _ _ (by omega) (by omega) hs
theorem rv_back {fs : Fms} {ss : Sgs} {c : Nat → Nat} (h : Fits fs.reverse (rvS fs.length ss) c) : Fits fs ss fun i => c (fs.length - 1 - i) := by
  have h' := rv_fits h
  rw [List.reverse_reverse, List.length_reverse, rvS_rvS] at h'
  exact h'
theorem rv_many {fs : Fms} {ss : Sgs} {x y : List Nat} {u w : Nat} (hx : Skel fs ss x u) (hy : Skel fs.reverse (rvS fs.length ss) y w) : w = u := by
  apply Nat.le_antisymm
  · exact hy.least _ (rv_fits hx.fits) u fun i hi => hx.lt _ (by rw [List.length_reverse] at hi; omega)
  · exact hx.least _ (rv_back hy.fits) w fun i hi => hy.lt _ (by rw [List.length_reverse]; omega)
theorem rv_free {ts : List ByteArray} {fs : Fms} {ss : Sgs} (v : Valid ts fs ss) : clashJ fs.reverse (rvS fs.length ss) = none ↔ clashJ fs ss = none := by
  have v' := rv_valid v
  rw [fits_free v.job.n8 v.job.s6, fits_free v'.job.n8 v'.job.s6]
  exact ⟨fun ⟨c, h⟩ => ⟨_, rv_back h⟩, fun ⟨c, h⟩ => ⟨_, rv_fits h⟩⟩
theorem rv_few {ts : List ByteArray} {fs : Fms} {ss : Sgs} (v : Valid ts fs ss) : (fewR ts fs.reverse (rvS fs.length ss)).2 = (fewR ts fs ss).2 := by
  have v' := rv_valid v
  have hk := chk_valid.2 v
  have hk' := chk_valid.2 v'
  have hf := rv_free v
  unfold fewR
  cases hJ : clashJ fs ss with
  | none =>
    obtain ⟨x, u, hx⟩ := skel_of v.job.n0 v.job.n8 v.job.s6 hJ
    obtain ⟨y, w, hy⟩ := skel_of v'.job.n0 v'.job.n8 v'.job.s6 (hf.2 hJ)
    rw [ask_ok hk hJ, ask_ok hk' (hf.2 hJ), hx.eq, hy.eq, rv_many hx hy, if_neg (fun h => h rfl), if_neg (fun h => h rfl)]
  | some p =>
    cases hJ' : clashJ fs.reverse (rvS fs.length ss) with
    | none => rw [hf.1 hJ'] at hJ; cases hJ
    | some p' => rw [ask_cl hk hJ, ask_cl hk' hJ', if_pos (by decide), if_pos (by decide)]
theorem alone_fit {M : Rel} {n : Nat} {c : Nat → Nat} (h : ∀ i k, i < n → k < n → i ≠ k → M i k = true → c k ≠ c i) : Fit aloneB M n c :=
  ⟨fun i k hk hi hg => by unfold aloneB at hg; have : i = k := by simpa using hg
                          omega, fun i k hk hi hm => h i k hi (by omega) (by omega) hm⟩
theorem rv_press {ts : List ByteArray} {fs : Fms} {ss : Sgs} (v : Valid ts fs ss) {x y : List Nat} {u w : Nat} (hx : Few aloneB (prN fs) fs.length x u) (hy : Few aloneB (prN fs.reverse) fs.reverse.length y w) : w = u := by
  have _ := v
  rw [List.length_reverse] at hy
  have hs : ∀ {M : Rel} {n : Nat} {c : Nat → Nat}, (∀ i k, M i k = M k i) → Fit aloneB M n c → ∀ i k, i < n → k < n → i ≠ k → M i k = true → c k ≠ c i := fun hM h i k hi hk hne hm => by
    rcases Nat.lt_or_gt_of_ne hne with h1 | h1
    · exact fun e => h.diff k i h1 hk (by rw [hM]; exact hm) e.symm
    · exact h.diff i k h1 hi hm
  apply Nat.le_antisymm
  · refine hy.least (fun i => x.getD (fs.length - 1 - i) 0) (alone_fit fun i k hi hk hne hm => ?_) u fun i hi => hx.way.lt _ (by omega)
    rw [rv_pr hi hk] at hm
    exact hs (prN_symm fs) hx.way.fit _ _ (by omega) (by omega) (by omega) hm
  · refine hx.least (fun i => y.getD (fs.length - 1 - i) 0) (alone_fit fun i k hi hk hne hm => ?_) w fun i hi => hy.way.lt _ (by omega)
    refine hs (prN_symm fs.reverse) hy.way.fit _ _ (by omega) (by omega) (by omega) ?_
    rw [rv_pr (by omega) (by omega), show fs.length - 1 - (fs.length - 1 - i) = i by omega, show fs.length - 1 - (fs.length - 1 - k) = k by omega]
    exact hm
end Go.Ab.SkF

namespace Go.Ab.SkF
open Go Go.Ab Go.Ab.Pln Go.Proofs
set_option maxHeartbeats 1000000
set_option maxRecDepth 100000

theorem aW_skip {X : Type} {P : Par S X} {pin : Bool × List Nat} {Q : AExit → St S → X → Prop} {st : St S} {x : X} : aWp P .skip pin Q st x ↔ Q .normal st x := Iff.rfl
theorem aW_seq {X : Type} {P : Par S X} {a b : Code} {pin : Bool × List Nat} {Q : AExit → St S → X → Prop} {st : St S} {x : X} : aWp P (.seq a b) pin Q st x ↔ aWp P a pin (fun e st' x' => match e with | .normal => aWp P b pin Q st' x' | e => Q e st' x') st x := Iff.rfl
theorem rv_up {fs : Fms} {k : Nat} (h : k < fs.length) : fs.reverse.take k ++ [fs[fs.length - 1 - k]'(by omega)] = fs.reverse.take (k + 1) := by
  rw [take_snoc (by rw [List.length_reverse]; exact h), List.getElem_reverse]
theorem rvS_up {n : Nat} {ss : Sgs} {k : Nat} (h : k < ss.length) : (rvS n ss).take k ++ [((n : Int) - 1 - (ss[ss.length - 1 - k]'(by omega)).1, (ss[ss.length - 1 - k]'(by omega)).2)] = (rvS n ss).take (k + 1) := by
  rw [take_snoc (by rw [rvS_len]; exact h)]
  congr 2
  unfold rvS
  rw [List.getElem_reverse, List.getElem_map]
  simp only [List.length_map]
theorem shF_up {b : Nat} {fs : Fms} {k : Nat} (h : k < fs.length) : shF b (fs.take k) ++ [(fs[k].1, fs[k].2.1 + (b : Int), fs[k].2.2.1 + (b : Int), fs[k].2.2.2 + (b : Int))] = shF b (fs.take (k + 1)) := by
  unfold shF; rw [take_snoc h, List.map_append]; rfl
theorem rv_lens {ts : List ByteArray} {fs : Fms} {ss : Sgs} (h : LensJ ts fs ss) (n : Nat) : LensJ ts fs.reverse (rvS n ss) := ⟨h.t, by rw [List.length_reverse]; exact h.f, by rw [rvS_len]; exact h.s, h.tn, fun x hx => h.fn x (List.mem_reverse.1 hx)⟩
theorem sh_lens {ts : List ByteArray} {fs : Fms} {ss : Sgs} (h : LensJ ts fs ss) (b : Nat) : LensJ ts (shF b fs) ss := ⟨h.t, by rw [shF_len]; exact h.f, h.s, h.tn, fun x hx => by
  unfold shF at hx
  obtain ⟨y, hy, rfl⟩ := List.mem_map.1 hx
  exact h.fn y hy⟩
theorem few_len {ts : List ByteArray} {fs : Fms} {ss : Sgs} (h : fs.length ≤ 100) : (fewR ts fs ss).1.length ≤ 100 := by
  rcases job3 ts fs ss with ⟨e, _, _, hR⟩ | ⟨_, _, _, _, hR⟩ | ⟨_, _, x, u, hsk, hR⟩ <;> rw [hR]
  · simp
  · simp
  · show (natsV x).length ≤ 100
    rw [natsV_length, hsk.few.way.len]; exact h

theorem c15 (ts : List ByteArray) (fs : List Fm) (ss : List Sg) (hL : LensJ ts fs ss) (b : Int) (hb : 0 ≤ b ∧ b ≤ 255) (t : Int) (ht : 0 ≤ t ∧ t ≤ 255) : PCalls PR glT 15 [.agg [strsV ts, fmsV fs, sgsV ss], .int .u8 b, .int .u8 t] fun r => r = vB true := by
  refine fnW_sound (par_ok glT) Tryd.func15 ?_
  conv => whnf
  rcases Classical.em (chE ts fs ss = 0) with hk | hk
  · skip
    have hV := chk_valid.1 hk
    have hv := hV.job
    have h8 := hv.n8
    have hs6 := hv.s6
    have hf7 := hV.n7
    have h12 := hV.s12
    have h41 := c41t glT ts fs ss hL hk
    have hRv := rv_valid hV
    have hRk := chk_valid.2 hRv
    have hRl := rv_lens hL fs.length
    have hn1 := hV.n1
    have h28 := c28 ts fs ss hL
    have h28b := c28 ts fs.reverse (rvS fs.length ss) hRl
    rw [rv_few hV] at h28b
    have hfl := few_len (ts := ts) (ss := ss) (show fs.length ≤ 100 by omega)
    obtain ⟨y, w, hF⟩ := press_few hv.n0
    obtain ⟨y2, w2, hF2⟩ := press_few hRv.job.n0
    have hw2 := rv_press hV hF hF2
    subst hw2
    have hyl := hF.way.len
    have hyn := natsV_length y
    have h36 := c36 ts fs ss hL
    rw [pressR_ok hk hF] at h36
    have h36b := c36 ts fs.reverse (rvS fs.length ss) hRl
    rw [pressR_ok hRk hF2] at h36b
    generalize hFe : fewR ts fs ss = F at *
    obtain ⟨F1, F2, F3⟩ := F
    generalize (fewR ts fs.reverse (rvS fs.length ss)).1 = G1 at *
    dsimp only at h28 h28b hfl h36 h36b
    generalize hYe : natsV y = Y at *
    generalize natsV y2 = Y2 at *
    refine byC h41 op41 ?_
    conv => whnf
    refine ⟨⟨398, [1007, 2007, 3007], [1007, 2007, 3007, 902007, 903007]⟩, ?_⟩
    refine LoopW_ind _ (fun s9 : Nat × Int => match s9 with | (k, j) => (({ tmps := [.undef, .int .u8 b, .int .u8 t, .own 3 [], .undef, .undef, .undef, .own 7 [], vI j, .undef, .undef, .undef, .undef, .undef, .undef, .undef, .undef, .undef, .undef, .undef, .undef, .undef, .undef, .undef, .undef, .undef, .undef, .undef, .undef, .undef, .undef, .undef, .undef, .undef, .undef, .undef, .undef, .undef, .undef, .undef, .undef, .undef, .undef, .undef, .undef, .undef, .undef, .undef, .undef, .undef, .undef, .undef, .undef, .undef, .undef, .undef, .undef, .undef, .undef, .undef, .undef, .undef, .undef, .undef, .undef, .undef, .undef, .undef, .undef, .undef, .undef, .undef, .undef, .undef, .undef, .undef, .undef, .undef, .undef, .undef, .undef, .undef, .undef, .undef, .undef, .undef, .undef, .undef, .undef, .undef, .undef, .undef, .undef, .undef, .undef, .undef, .undef, .undef, .undef, .undef, .undef, .undef, .undef, .undef, .undef, .undef, .undef, .undef, .undef, .undef, .undef, .undef, .undef, .undef, .undef, .undef, .undef, .undef, .undef, .undef, .undef, .undef, .undef, .undef, .undef, .undef, .undef, .undef, .undef, .undef, .undef, .undef, .undef, .undef, .undef, .undef, .undef, .undef, .undef, .undef, .undef, .undef, .undef, .undef, .undef, .undef, .undef, .undef, .undef, .undef, .undef, .undef, .undef, .undef, .undef, .undef, .undef, .undef, .undef, .undef, .undef, .undef, .undef, .undef, .undef, .undef, .undef, .undef, .undef, .undef, .undef, .undef, .undef, .undef, .undef, .undef, .undef, .undef, .undef, .undef, .undef, .undef, .undef, .undef, .undef, .undef, .undef, .undef, .undef, .undef, .undef, .undef, .undef, .undef, .undef, .undef, .undef, .undef, .undef, .undef, .undef, .undef, .undef, .undef, .undef, .undef, .undef, .undef, .undef, .undef, .undef, .undef, .undef, .undef, .undef, .undef, .undef, .undef, .undef, .undef, .undef, .undef, .undef, .undef, .undef, .undef, .undef, .undef, .undef, .undef, .undef, .undef, .undef, .undef, .undef, .undef, .undef, .undef, .undef, .undef, .undef, .undef, .undef, .undef, .undef, .undef, .undef, .undef, .undef, .undef, .undef, .undef, .undef, .undef, .undef, .undef, .undef, .undef, .undef, .undef, .undef, .undef, .undef, .undef, .undef, .undef, .undef, .undef, .undef, .undef, .undef, .undef, .undef, .undef, .undef, .undef, .undef, .undef, .undef, .undef, .undef, .undef, .undef, .undef, .undef, .undef, .undef, .undef, .undef, .undef, .undef, .undef, .undef, .undef, .undef, .undef, .undef, .undef, .undef, .undef, .undef, .undef, .undef, .undef, .undef, .undef, .undef, .undef, .undef, .undef, .undef, .undef, .undef, .undef, .undef, .undef, .undef, .undef, .undef, .undef, .undef, .undef, .undef, .undef], seg := [(3, .cells [strsV ts, fmsV fs, sgsV ss]), (7, .cells [strsV ts, .sl (S := S) U.forme (fs.reverse.take k) (some 902007), .sl (S := S) U.sight [] (some 903007)]), (902007, .row U.forme false), (903007, .row U.sight false)], up := [] } : St S))) (fun s9 : Nat × Int => match s9 with | (k, j) => (k ≤ fs.length ∧ j = (fs.length : Int) - 1 - (k : Int))) (fun s9 : Nat × Int => match s9 with | (k, j) => (fs.length - k)) () ?_ (0, IntKind.i64.wrap ((fs.length : Int) - 1)) ⟨Nat.zero_le _, by rw [wrap_int (by omega) (by omega)]; omega⟩
    rintro ⟨k, j⟩ hinv Z1 hZ1
    dsimp only at hinv hZ1
    obtain ⟨hk6, hj⟩ := hinv
    conv => whnf
    refine bcase_iff.2 ⟨fun h6 => ?_, fun h6 => ?_⟩
    · skip
      have hlt : k < fs.length := by have := of_decide_eq_true h6; omega
      have hjn : j = ((fs.length - 1 - k : Nat) : Int) := by omega
      have hwj : IntKind.i64.wrap (j - 1) = j - 1 := wrap_int (by omega) (by omega)
      have hlr : (fs.reverse.take k).length = k := by rw [List.length_take, List.length_reverse]; omega
      conv => whnf
      refine ⟨[0, 1, 2, 3, 4, 5, 6, 7, 8, 9, 10], [7], [], [], ⟨34175792574734561318320347298712833833643272357706444319152665725155515612490248800367393390985215, [], []⟩, by decide +kernel, ?_⟩
      conv => whnf
      refine ⟨_, getI_at hjn (show fs.length - 1 - k < fs.length by omega), ?_⟩
      conv => whnf
      refine ⟨_, rfl, ?_⟩
      conv => whnf
      refine ⟨Pln.lim (by show (fs.reverse.take k).length + 1 ≤ _; omega), ?_⟩
      -- Z6:T
      conv => whnf
      refine ⟨⟨398, [59, 60], []⟩, ?_⟩
      conv => whnf
      rw [hwj]
      have hz := hZ1 (k + 1, j - 1) ⟨hlt, by omega⟩ (by dsimp only; omega)
      rw [← rv_up hlt] at hz
      exact hz
    · skip
      have hge : k = fs.length := by have := of_decide_eq_false h6; omega
      have htk : fs.reverse.take k = fs.reverse := by rw [hge]; exact List.take_of_length_le (by simp)
      rw [htk]
      conv => whnf
      refine ⟨⟨654, [], []⟩, ?_⟩
      refine LoopW_ind _ (fun s9 : Nat × Int => match s9 with | (k, j) => (({ tmps := [.undef, .int .u8 b, .int .u8 t, .own 3 [], .undef, .undef, .undef, .own 7 [], .undef, vI j, .undef, .undef, .undef, .undef, .undef, .undef, .undef, .undef, .undef, .undef, .undef, .undef, .undef, .undef, .undef, .undef, .undef, .undef, .undef, .undef, .undef, .undef, .undef, .undef, .undef, .undef, .undef, .undef, .undef, .undef, .undef, .undef, .undef, .undef, .undef, .undef, .undef, .undef, .undef, .undef, .undef, .undef, .undef, .undef, .undef, .undef, .undef, .undef, .undef, .undef, .undef, .undef, .undef, .undef, .undef, .undef, .undef, .undef, .undef, .undef, .undef, .undef, .undef, .undef, .undef, .undef, .undef, .undef, .undef, .undef, .undef, .undef, .undef, .undef, .undef, .undef, .undef, .undef, .undef, .undef, .undef, .undef, .undef, .undef, .undef, .undef, .undef, .undef, .undef, .undef, .undef, .undef, .undef, .undef, .undef, .undef, .undef, .undef, .undef, .undef, .undef, .undef, .undef, .undef, .undef, .undef, .undef, .undef, .undef, .undef, .undef, .undef, .undef, .undef, .undef, .undef, .undef, .undef, .undef, .undef, .undef, .undef, .undef, .undef, .undef, .undef, .undef, .undef, .undef, .undef, .undef, .undef, .undef, .undef, .undef, .undef, .undef, .undef, .undef, .undef, .undef, .undef, .undef, .undef, .undef, .undef, .undef, .undef, .undef, .undef, .undef, .undef, .undef, .undef, .undef, .undef, .undef, .undef, .undef, .undef, .undef, .undef, .undef, .undef, .undef, .undef, .undef, .undef, .undef, .undef, .undef, .undef, .undef, .undef, .undef, .undef, .undef, .undef, .undef, .undef, .undef, .undef, .undef, .undef, .undef, .undef, .undef, .undef, .undef, .undef, .undef, .undef, .undef, .undef, .undef, .undef, .undef, .undef, .undef, .undef, .undef, .undef, .undef, .undef, .undef, .undef, .undef, .undef, .undef, .undef, .undef, .undef, .undef, .undef, .undef, .undef, .undef, .undef, .undef, .undef, .undef, .undef, .undef, .undef, .undef, .undef, .undef, .undef, .undef, .undef, .undef, .undef, .undef, .undef, .undef, .undef, .undef, .undef, .undef, .undef, .undef, .undef, .undef, .undef, .undef, .undef, .undef, .undef, .undef, .undef, .undef, .undef, .undef, .undef, .undef, .undef, .undef, .undef, .undef, .undef, .undef, .undef, .undef, .undef, .undef, .undef, .undef, .undef, .undef, .undef, .undef, .undef, .undef, .undef, .undef, .undef, .undef, .undef, .undef, .undef, .undef, .undef, .undef, .undef, .undef, .undef, .undef, .undef, .undef, .undef, .undef, .undef, .undef, .undef, .undef, .undef, .undef, .undef, .undef, .undef, .undef, .undef, .undef, .undef, .undef, .undef, .undef, .undef, .undef, .undef, .undef, .undef, .undef, .undef], seg := [(3, .cells [strsV ts, fmsV fs, sgsV ss]), (7, .cells [strsV ts, .sl (S := S) U.forme fs.reverse (some 902007), .sl (S := S) U.sight ((rvS fs.length ss).take k) (some 903007)]), (902007, .row U.forme false), (903007, .row U.sight false)], up := [] } : St S))) (fun s9 : Nat × Int => match s9 with | (k, j) => (k ≤ ss.length ∧ j = (ss.length : Int) - 1 - (k : Int))) (fun s9 : Nat × Int => match s9 with | (k, j) => (ss.length - k)) () ?_ (0, IntKind.i64.wrap ((ss.length : Int) - 1)) ⟨Nat.zero_le _, by rw [wrap_int (by omega) (by omega)]; omega⟩
      rintro ⟨k, j⟩ hinv Z2 hZ2
      dsimp only at hinv hZ2
      obtain ⟨hk10, hj⟩ := hinv
      conv => whnf
      refine bcase_iff.2 ⟨fun h10 => ?_, fun h10 => ?_⟩
      · skip
        have hlt : k < ss.length := by have := of_decide_eq_true h10; omega
        have hjn : j = ((ss.length - 1 - k : Nat) : Int) := by omega
        have hwj : IntKind.i64.wrap (j - 1) = j - 1 := wrap_int (by omega) (by omega)
        have hlr : ((rvS fs.length ss).take k).length = k := by rw [List.length_take, rvS_len]; omega
        have hsi := hV.ok.each _ (List.getElem_mem (show ss.length - 1 - k < ss.length by omega))
        have hw1 : IntKind.i64.wrap (IntKind.i64.wrap ((fs.length : Int) - 1) - ss[ss.length - 1 - k].1) = (fs.length : Int) - 1 - ss[ss.length - 1 - k].1 := by rw [wrap_int (n := (fs.length : Int) - 1) (by omega) (by omega), wrap_int (by omega) (by omega)]
        conv => whnf
        refine ⟨_, getI_at hjn (show ss.length - 1 - k < ss.length by omega), ?_⟩
        conv => whnf
        refine ⟨_, rfl, ?_⟩
        conv => whnf
        refine ⟨Pln.lim (by show ((rvS fs.length ss).take k).length + 1 ≤ _; omega), ?_⟩
        -- Z10:T
        conv => whnf
        refine ⟨⟨654, [10, 86, 87, 1010, 2010, 3010, 4010], []⟩, ?_⟩
        conv => whnf
        rw [hwj, hw1]
        have hz := hZ2 (k + 1, j - 1) ⟨hlt, by omega⟩ (by dsimp only; omega)
        rw [← rvS_up hlt] at hz
        exact hz
      · skip
        have hge : k = ss.length := by have := of_decide_eq_false h10; omega
        have htk : (rvS fs.length ss).take k = rvS fs.length ss := by rw [hge]; exact List.take_of_length_le (by rw [rvS_len]; exact Nat.le_refl _)
        rw [htk]
        conv => whnf
        refine byC h28 op28 ?_
        conv => whnf
        refine byC h28b op28 ?_
        conv => whnf
        refine byC h36 op36 ?_
        conv => whnf
        refine byC h36b op36 ?_
        conv => whnf
        refine bcase_iff.2 ⟨fun g19_3 => ?_, fun g19_3 => ?_⟩
        · skip
          exact neqX g19_3 --done
        · skip
          conv => whnf
          refine bcase_iff.2 ⟨fun g19_8 => ?_, fun g19_8 => ?_⟩
          · skip
            exact neqX g19_8 --done
          · skip
            conv => whnf
            refine bcase_iff.2 ⟨fun g19_13 => ?_, fun g19_13 => ?_⟩
            · skip
              exact neqX g19_13 --done
            · skip
              conv => whnf
              refine loop_q fun Q3 hQ3 => ?_
              refine ⟨⟨25573390, [7, 1023, 2023, 3023, 902007, 903007], [1023, 2023, 3023, 902023]⟩, ?_⟩
              refine LoopW_ind _ (fun i : Nat => (({ tmps := [.undef, .int .u8 b, .int .u8 t, .own 3 [], .undef, .undef, .undef, .undef, .undef, .undef, .undef, vL F1, vI F2, vI F3, .undef, .undef, .undef, vL Y, vI w2, .undef, .undef, .undef, .undef, .own 23 [], vI i, .undef, .undef, .undef, .undef, .undef, .undef, .undef, .undef, .undef, .undef, .undef, .undef, .undef, .undef, .undef, .undef, .undef, .undef, .undef, .undef, .undef, .undef, .undef, .undef, .undef, .undef, .undef, .undef, .undef, .undef, .undef, .undef, .undef, .undef, .undef, .undef, .undef, .undef, .undef, .undef, .undef, .undef, .undef, .undef, .undef, .undef, .undef, .undef, .undef, .undef, .undef, .undef, .undef, .undef, .undef, .undef, .undef, .undef, .undef, .undef, .undef, .undef, .undef, .undef, .undef, .undef, .undef, .undef, .undef, .undef, .undef, .undef, .undef, .undef, .undef, .undef, .undef, .undef, .undef, .undef, .undef, .undef, .undef, .undef, .undef, .undef, .undef, .undef, .undef, .undef, .undef, .undef, .undef, .undef, .undef, .undef, .undef, .undef, .undef, .undef, .undef, .undef, .undef, .undef, .undef, .undef, .undef, .undef, .undef, .undef, .undef, .undef, .undef, .undef, .undef, .undef, .undef, .undef, .undef, .undef, .undef, .undef, .undef, .undef, .undef, .undef, .undef, .undef, .undef, .undef, .undef, .undef, .undef, .undef, .undef, .undef, .undef, .undef, .undef, .undef, .undef, .undef, .undef, .undef, .undef, .undef, .undef, .undef, .undef, .undef, .undef, .undef, .undef, .undef, .undef, .undef, .undef, .undef, .undef, .undef, .undef, .undef, .undef, .undef, .undef, .undef, .undef, .undef, .undef, .undef, .undef, .undef, .undef, .undef, .undef, .undef, .undef, .undef, .undef, .undef, .undef, .undef, .undef, .undef, .undef, .undef, .undef, .undef, .undef, .undef, .undef, .undef, .undef, .undef, .undef, .undef, .undef, .undef, .undef, .undef, .undef, .undef, .undef, .undef, .undef, .undef, .undef, .undef, .undef, .undef, .undef, .undef, .undef, .undef, .undef, .undef, .undef, .undef, .undef, .undef, .undef, .undef, .undef, .undef, .undef, .undef, .undef, .undef, .undef, .undef, .undef, .undef, .undef, .undef, .undef, .undef, .undef, .undef, .undef, .undef, .undef, .undef, .undef, .undef, .undef, .undef, .undef, .undef, .undef, .undef, .undef, .undef, .undef, .undef, .undef, .undef, .undef, .undef, .undef, .undef, .undef, .undef, .undef, .undef, .undef, .undef, .undef, .undef, .undef, .undef, .undef, .undef, .undef, .undef, .undef, .undef, .undef, .undef, .undef, .undef, .undef, .undef, .undef, .undef, .undef, .undef, .undef, .undef, .undef, .undef, .undef, .undef, .undef, .undef, .undef, .undef, .undef, .undef, .undef], seg := [(3, .cells [strsV ts, fmsV fs, sgsV ss]), (23, .cells [strsV ts, .sl (S := S) U.forme (shF b.toNat (fs.take i)) (some 902023), sgsV ss]), (902023, .row U.forme false)], up := [] } : St S))) (fun i : Nat => (i ≤ fs.length)) (fun i : Nat => (fs.length - i)) () ?_ 0 (Nat.zero_le _)
              intro i hi Z3 hZ3
              conv => whnf
              refine bcase_iff.2 ⟨fun h24 => ?_, fun h24 => ?_⟩
              · skip
                have hlt : i < fs.length := by have := of_decide_eq_true h24; omega
                have hw : IntKind.i64.wrap ((i : Int) + 1) = ((i + 1 : Nat) : Int) := wrap_nat (by omega)
                have hdj := job_days hv hlt
                unfold setOf onOf offOf at hdj
                rw [getD_at hlt] at hdj
                have hwb : IntKind.i64.wrap b = ((b.toNat : Nat) : Int) := by rw [wrap_int (by omega) (by omega)]; omega
                have hs1 : IntKind.i64.wrap (fs[i].2.1 + IntKind.i64.wrap b) = fs[i].2.1 + ((b.toNat : Nat) : Int) := by rw [hwb]; exact wrap_int (by omega) (by omega)
                have hs2 : IntKind.i64.wrap (fs[i].2.2.1 + IntKind.i64.wrap b) = fs[i].2.2.1 + ((b.toNat : Nat) : Int) := by rw [hwb]; exact wrap_int (by omega) (by omega)
                have hs3 : IntKind.i64.wrap (fs[i].2.2.2 + IntKind.i64.wrap b) = fs[i].2.2.2 + ((b.toNat : Nat) : Int) := by rw [hwb]; exact wrap_int (by omega) (by omega)
                have hls : (shF b.toNat (fs.take i)).length = i := by rw [shF_len, List.length_take]; omega
                conv => whnf
                refine ⟨_, getI_nat hlt, ?_⟩
                conv => whnf
                refine ⟨_, rfl, ?_⟩
                conv => whnf
                refine ⟨Pln.lim (by show (shF b.toNat (fs.take i)).length + 1 ≤ _; omega), ?_⟩
                -- Z24:T
                conv => whnf
                refine ⟨⟨25573390, [25, 169, 170, 1025, 2025, 3025, 4025], []⟩, ?_⟩
                conv => whnf
                rw [hw, hs1, hs2, hs3]
                have hz := hZ3 (i + 1) hlt (by omega)
                rw [← shF_up hlt] at hz
                exact hz
              · skip
                have hge : i = fs.length := by have := of_decide_eq_false h24; omega
                have htk : fs.take i = fs := by rw [hge, List.take_length]
                rw [htk]
                have hSl := sh_lens hL b.toNat
                conv => whnf
                refine (hQ3 _ _ _).mpr ?_
                conv => whnf
                rcases Classical.em (chE ts (shF b.toNat fs) ss = 0) with hk3 | hk3
                · skip
                  have hW := chk_valid.1 hk3
                  have h28s := c28 ts (shF b.toNat fs) ss hSl
                  rw [few_sh hV hW, hFe] at h28s
                  dsimp only at h28s
                  have h36s := c36 ts (shF b.toNat fs) ss hSl
                  rw [pressR_sh hV hW, pressR_ok hk hF, hYe] at h36s
                  dsimp only at h36s
                  have h38 := c38 glT ts fs ss hL
                  rw [standR_ok hk] at h38
                  have h38s := c38 glT ts (shF b.toNat fs) ss hSl
                  rw [stand_sh hV hW] at h38s
                  obtain ⟨hb60, _, _⟩ := bestD_spec fs 60
                  generalize bestD fs 60 = D at *
                  have hon := natsV_length (onL fs D)
                  have hol := onL_len fs D
                  generalize natsV (onL fs D) = O at *
                  dsimp only at h38 h38s
                  refine byC (c41t glT ts (shF b.toNat fs) ss hSl hk3) op41 ?_
                  conv => whnf
                  refine byC h28s op28 ?_
                  conv => whnf
                  refine byC h36s op36 ?_
                  conv => whnf
                  refine byC h38 op38 ?_
                  conv => whnf
                  refine byC h38s op38 ?_
                  conv => whnf
                  refine byC (c20 glT _ _ (by omega)) op20 ?_
                  conv => whnf
                  refine bcase_iff.2 ⟨fun g35_4 => ?_, fun g35_4 => ?_⟩
                  · skip
                    exact decX g35_4 --done
                  · skip
                    conv => whnf
                    refine bcase_iff.2 ⟨fun g35_9 => ?_, fun g35_9 => ?_⟩
                    · skip
                      exact neqX g35_9 --done
                    · skip
                      conv => whnf
                      refine bcase_iff.2 ⟨fun g35_14 => ?_, fun g35_14 => ?_⟩
                      · skip
                        exact neqX g35_14 --done
                      · skip
                        conv => whnf
                        refine byC (c20 glT _ _ (by omega)) op20 ?_
                        conv => whnf
                        refine bcase_iff.2 ⟨fun g35_20 => ?_, fun g35_20 => ?_⟩
                        · skip
                          exact decX g35_20 --done
                        · skip
                          conv => whnf
                          refine bcase_iff.2 ⟨fun g35_25 => ?_, fun g35_25 => ?_⟩
                          · skip
                            exact neqX g35_25 --done
                          · skip
                            conv => whnf
                            refine bcase_iff.2 ⟨fun g35_45 => ?_, fun g35_45 => ?_⟩
                            · skip
                              exfalso
                              have g : (((D : Int) + ((b.toNat : Nat) : Int)) != IntKind.i64.wrap ((D : Int) + IntKind.i64.wrap b)) = true := g35_45
                              rw [wrap_int (n := b) (by omega) (by omega), wrap_int (by omega) (by omega), show ((b.toNat : Nat) : Int) = b by omega] at g
                              simp at g --done
                            · skip
                              conv => whnf
                              refine byC (c20 glT _ _ (by omega)) op20 ?_
                              conv => whnf
                              refine bcase_iff.2 ⟨fun h35 => ?_, fun h35 => ?_⟩
                              · skip
                                exact decX h35 --done
                              · skip
                                conv => whnf
                                refine bcase_iff.2 ⟨fun h37x => ?_, fun h37x => ?_⟩
                                · skip
                                  conv => whnf
                                  refine byC ((c27)) op27 ?_
                                  -- R:aFFFFFFaFFFFFFFT
                                  conv => whnf
                                  try rfl
                                · skip
                                  have g37 : ((ts.length : Int) == 0) = false := h37x
                                  have ht0 : 0 < ts.length := by have := beq_eq_false_iff_ne.1 g37; omega
                                  have hz : (ts.length : Int) ≠ 0 := by omega
                                  have hmt := mod_byte ht ts.length
                                  have htn : t.toNat % ts.length < ts.length := Nat.mod_lt _ ht0
                                  generalize t.toNat % ts.length = tn at hmt htn
                                  have h23 := c23 glT ts fs ss hL tn
                                  rw [crackR_ok hk htn] at h23
                                  have h23s := c23 glT ts (shF b.toNat fs) ss hSl tn
                                  rw [crackR_ok hk3 htn] at h23s
                                  have hLt := lat_crack hV hW (tn : Int)
                                  generalize crackS fs ss (tn : Int) = p1 at hLt h23
                                  generalize crackS (shF b.toNat fs) ss (tn : Int) = q1 at hLt h23s
                                  have hwb : IntKind.i64.wrap b = ((b.toNat : Nat) : Int) := by rw [wrap_int (by omega) (by omega)]; omega
                                  obtain ⟨pl, ph⟩ := p1
                                  obtain ⟨ql, qh⟩ := q1
                                  have hsm := hLt.same
                                  have hlo := hLt.lo
                                  have hhi := hLt.hi
                                  clear hLt
                                  dsimp only at hlo hhi hsm h23 h23s
                                  conv => whnf
                                  refine ⟨hz, ?_⟩
                                  conv => whnf
                                  rcases Classical.em (pl > ph) with hc | hc
                                  · skip
                                    rw [if_pos hc] at h23
                                    rw [if_pos (hsm.1 hc)] at h23s
                                    refine byC (to_k hmt h23) op23 ?_
                                    conv => whnf
                                    refine byC (to_k hmt h23s) op23 ?_
                                    conv => whnf
                                    refine byC ((c27)) op27 ?_
                                    -- R:aFFFFFFaFFFFFFFFa
                                    conv => whnf
                                    try rfl
                                  · skip
                                    rw [if_neg hc] at h23
                                    rw [if_neg (fun h => hc (hsm.2 h))] at h23s
                                    dsimp only at h23 h23s
                                    obtain ⟨e, he⟩ : ∃ e : Int, e = 0 := ⟨_, rfl⟩
                                    rw [← he] at h23 h23s
                                    refine byC (to_k hmt h23) op23 ?_
                                    conv => whnf
                                    refine byC (to_k hmt h23s) op23 ?_
                                    conv => whnf
                                    refine bcase_iff.2 ⟨fun h42 => ?_, fun h42 => ?_⟩
                                    · skip
                                      exfalso
                                      simp at h42 --done
                                    · skip
                                      subst he
                                      refine aW_skip.mpr ?_
                                      refine aW_seq.mpr ?_
                                      conv => whnf
                                      refine bcase_iff.2 ⟨fun g44_11 => ?_, fun g44_11 => ?_⟩
                                      · skip
                                        conv => whnf
                                        refine bcase_iff.2 ⟨fun g44_30 => ?_, fun g44_30 => ?_⟩
                                        · skip
                                          conv => whnf
                                          refine byC ((c27)) op27 ?_
                                          -- R:aFFFFFFaFFFFFFFFbFTT
                                          conv => whnf
                                          try rfl
                                        · skip
                                          have g : (qh == IntKind.i64.wrap (ph + IntKind.i64.wrap b)) = false := g44_30
                                          have hh : ph = 61 ∧ qh = 61 := by
                                            rcases hhi with h | ⟨h1, h2, h3⟩
                                            · exact h
                                            · rw [hwb, wrap_int (by omega) (by omega), h3] at g; simp at g
                                          conv => whnf
                                          refine bcase_iff.2 ⟨fun g44_34 => ?_, fun g44_34 => ?_⟩
                                          · skip
                                            conv => whnf
                                            refine bcase_iff.2 ⟨fun g44_44 => ?_, fun g44_44 => ?_⟩
                                            · skip
                                              conv => whnf
                                              refine byC ((c27)) op27 ?_
                                              -- R:aFFFFFFaFFFFFFFFbFTFTT
                                              conv => whnf
                                              try rfl
                                            · skip
                                              exfalso
                                              have g : (qh == ph) = false := g44_44
                                              rw [hh.1, hh.2] at g; cases g --done
                                          · skip
                                            exfalso
                                            have g : (ph == 61) = false := g44_34
                                            rw [hh.1] at g; cases g --done
                                      · skip
                                        have g : (ql == IntKind.i64.wrap (pl + IntKind.i64.wrap b)) = false := g44_11
                                        have hl : pl = 0 ∧ ql = 0 := by
                                          rcases hlo with h | ⟨h1, h2, h3⟩
                                          · exact h
                                          · rw [hwb, wrap_int (by omega) (by omega), h3] at g; simp at g
                                        conv => whnf
                                        refine bcase_iff.2 ⟨fun g44_15 => ?_, fun g44_15 => ?_⟩
                                        · skip
                                          conv => whnf
                                          refine bcase_iff.2 ⟨fun g44_21 => ?_, fun g44_21 => ?_⟩
                                          · skip
                                            conv => whnf
                                            refine bcase_iff.2 ⟨fun g44_30 => ?_, fun g44_30 => ?_⟩
                                            · skip
                                              conv => whnf
                                              refine byC ((c27)) op27 ?_
                                              -- R:aFFFFFFaFFFFFFFFbFFTTT
                                              conv => whnf
                                              try rfl
                                            · skip
                                              have g : (qh == IntKind.i64.wrap (ph + IntKind.i64.wrap b)) = false := g44_30
                                              have hh : ph = 61 ∧ qh = 61 := by
                                                rcases hhi with h | ⟨h1, h2, h3⟩
                                                · exact h
                                                · rw [hwb, wrap_int (by omega) (by omega), h3] at g; simp at g
                                              conv => whnf
                                              refine bcase_iff.2 ⟨fun g44_34 => ?_, fun g44_34 => ?_⟩
                                              · skip
                                                conv => whnf
                                                refine bcase_iff.2 ⟨fun g44_44 => ?_, fun g44_44 => ?_⟩
                                                · skip
                                                  conv => whnf
                                                  refine byC ((c27)) op27 ?_
                                                  -- R:aFFFFFFaFFFFFFFFbFFTTFTT
                                                  conv => whnf
                                                  try rfl
                                                · skip
                                                  exfalso
                                                  have g : (qh == ph) = false := g44_44
                                                  rw [hh.1, hh.2] at g; cases g --done
                                              · skip
                                                exfalso
                                                have g : (ph == 61) = false := g44_34
                                                rw [hh.1] at g; cases g --done
                                          · skip
                                            exfalso
                                            have g : (ql == 0) = false := g44_21
                                            rw [hl.2] at g; cases g --done
                                        · skip
                                          exfalso
                                          have g : (pl == 0) = false := g44_15
                                          rw [hl.1] at g; cases g --done
                · skip
                  refine byC (c41f glT ts (shF b.toNat fs) ss hSl hk3) op41 ?_
                  conv => whnf
                  refine byC ((c27)) op27 ?_
                  -- R:aFFFFFFb
                  conv => whnf
                  try rfl
  · skip
    refine byC (c41f glT ts fs ss hL hk) op41 ?_
    conv => whnf
    refine byC ((c27)) op27 ?_
    -- R:b
    conv => whnf

end Go.Ab.SkF
