/-
  THE SKELETON FAMILY, PART PR: rooms, presses and days of the reference: plain.
  THE SKELETON FAMILY, PART RF: rooms, presses, days: of the reference; the law SkelRooms.
-/
import Derived.Test.YtfhippofplmpdaaDoorRefD
namespace Go.Ab.SkF
open Go Go.Ab Go.Ab.Pln

/-- The error of a job and types, up to one of them. -/
def rmA (c nt : Int) (tys : List Int) (i : Nat) : Int := if c ≠ 0 then c else if (tys.take i).any (outB 0 (nt - 1)) then 4 else 0
theorem rmA_c {c nt : Int} {tys : List Int} (h : c = 0) (i : Nat) : rmA c nt tys i = if (tys.take i).any (outB 0 (nt - 1)) then 4 else 0 := by unfold rmA; rw [if_neg (fun g => g h)]
theorem rmA_n {c nt : Int} {tys : List Int} (h : c ≠ 0) (i : Nat) : rmA c nt tys i = c := by unfold rmA; rw [if_pos h]
theorem rmA_0 (c nt : Int) (tys : List Int) : rmA c nt tys 0 = c := by unfold rmA; by_cases h : c = 0 <;> simp [h]
theorem rmA_z {c nt : Int} {tys : List Int} {i : Nat} (h : rmA c nt tys i = 0) : c = 0 ∧ (tys.take i).any (outB 0 (nt - 1)) = false := by
  unfold rmA at h
  by_cases h1 : c = 0
  · rw [if_neg (fun g => g h1)] at h
    refine ⟨h1, ?_⟩
    cases h2 : (tys.take i).any (outB 0 (nt - 1)) with
    | true => rw [if_pos h2] at h; cases h
    | false => rfl
  · rw [if_pos h1] at h; exact absurd h h1
theorem rmA_T {c nt : Int} {tys : List Int} {i : Nat} (hi : i < tys.length) (h : rmA c nt tys i = 0) (ho : outB 0 (nt - 1) tys[i] = true) : rmA c nt tys (i + 1) = 4 := by
  obtain ⟨h1, h2⟩ := rmA_z h
  unfold rmA
  rw [if_neg (fun g => g h1), take_snoc hi, List.any_append, h2, if_pos (by simp [ho])]
theorem rmA_F {c nt : Int} {tys : List Int} {i : Nat} (hi : i < tys.length) (h : rmA c nt tys i = 0) (ho : outB 0 (nt - 1) tys[i] = false) : rmA c nt tys (i + 1) = 0 := by
  obtain ⟨h1, h2⟩ := rmA_z h
  unfold rmA
  rw [if_neg (fun g => g h1), take_snoc hi, List.any_append, h2, if_neg (by simp [ho])]
theorem rmA_end {c nt : Int} {tys : List Int} {i : Nat} (h : rmA c nt tys i ≠ 0 ∨ i = tys.length) : rmA c nt tys i = rmA c nt tys tys.length := by
  rcases h with h | h
  · by_cases h1 : c = 0
    · rw [rmA_c h1] at h ⊢
      rw [rmA_c h1]
      cases h2 : (tys.take i).any (outB 0 (nt - 1)) with
      | false => rw [h2] at h; simp at h
      | true =>
        obtain ⟨t, ht, ho⟩ := List.any_eq_true.1 h2
        have h3 : (tys.take tys.length).any (outB 0 (nt - 1)) = true := List.any_eq_true.2 ⟨t, by rw [List.take_length]; exact List.mem_of_mem_take ht, ho⟩
        rw [h3]
    · rw [rmA_n h1, rmA_n h1]
  · rw [h]
/-- The same, of types that are there twice. -/
def rmB (c : Int) (tys : List Int) (i : Nat) : Int := if c ≠ 0 then c else if (List.range i).any (dupB tys) then 5 else 0
theorem rmB_c {c : Int} {tys : List Int} (h : c = 0) (i : Nat) : rmB c tys i = if (List.range i).any (dupB tys) then 5 else 0 := by unfold rmB; rw [if_neg (fun g => g h)]
theorem rmB_n {c : Int} {tys : List Int} (h : c ≠ 0) (i : Nat) : rmB c tys i = c := by unfold rmB; rw [if_pos h]
theorem rmB_0 (c : Int) (tys : List Int) : rmB c tys 0 = c := by unfold rmB; by_cases h : c = 0 <;> simp [h]
theorem rmB_z {c : Int} {tys : List Int} {i : Nat} (h : rmB c tys i = 0) : c = 0 ∧ (List.range i).any (dupB tys) = false := by
  unfold rmB at h
  by_cases h1 : c = 0
  · rw [if_neg (fun g => g h1)] at h
    refine ⟨h1, ?_⟩
    cases h2 : (List.range i).any (dupB tys) with
    | true => rw [if_pos h2] at h; cases h
    | false => rfl
  · rw [if_pos h1] at h; exact absurd h h1
theorem rmB_T {c : Int} {tys : List Int} {i : Nat} (h : rmB c tys i = 0) (ho : dupB tys i = true) : rmB c tys (i + 1) = 5 := by
  obtain ⟨h1, h2⟩ := rmB_z h
  unfold rmB
  rw [if_neg (fun g => g h1), List.range_succ, List.any_append, h2, if_pos (by simp [ho])]
theorem rmB_F {c : Int} {tys : List Int} {i : Nat} (h : rmB c tys i = 0) (ho : dupB tys i = false) : rmB c tys (i + 1) = 0 := by
  obtain ⟨h1, h2⟩ := rmB_z h
  unfold rmB
  rw [if_neg (fun g => g h1), List.range_succ, List.any_append, h2, if_neg (by simp [ho])]
theorem rmB_end {c : Int} {tys : List Int} {i : Nat} (hi : i ≤ tys.length) (h : rmB c tys i ≠ 0 ∨ i = tys.length) : rmB c tys i = rmB c tys tys.length := by
  rcases h with h | h
  · by_cases h1 : c = 0
    · rw [rmB_c h1] at h ⊢
      rw [rmB_c h1]
      cases h2 : (List.range i).any (dupB tys) with
      | false => rw [h2] at h; simp at h
      | true =>
        obtain ⟨t, ht, ho⟩ := List.any_eq_true.1 h2
        rw [List.mem_range] at ht
        have h3 : (List.range tys.length).any (dupB tys) = true := List.any_eq_true.2 ⟨t, List.mem_range.2 (by omega), ho⟩
        rw [h3]
    · rw [rmB_n h1, rmB_n h1]
  · rw [h]
theorem roomE_eq (ts : List ByteArray) (fs : Fms) (ss : Sgs) (tys : List Int) (days : Int) : roomE ts fs ss tys days =
    (if rmB (rmA (chE ts fs ss) ts.length tys tys.length) tys tys.length ≠ 0 then rmB (rmA (chE ts fs ss) ts.length tys tys.length) tys tys.length else if [days].any (outB 1 60) then 7 else askE ts fs ss) := by
  unfold roomE
  by_cases h1 : chE ts fs ss = 0
  · rw [if_neg (fun g => g h1), rmA_c h1, List.take_length]
    by_cases h2 : tys.any (outB 0 ((ts.length : Int) - 1)) = true
    · rw [if_pos h2, if_pos h2, rmB_n (by decide), if_pos (by decide)]
    · rw [if_neg h2, if_neg h2, rmB_c rfl]
      show (if (List.range tys.length).any (dupB tys) = true then _ else _) = _
      by_cases h3 : (List.range tys.length).any (dupB tys) = true
      · rw [if_pos h3, if_pos h3, if_pos (by decide)]
      · rw [if_neg h3, if_neg h3, if_neg (show ¬ ((0 : Int) ≠ 0) by decide)]
  · rw [if_pos h1, rmA_n h1, rmB_n h1, if_pos h1]
/-- What is so if types and days are in order. -/
theorem roomE_0 {ts : List ByteArray} {fs : Fms} {ss : Sgs} {tys : List Int} {days : Int} (h : roomE ts fs ss tys days = 0) : askE ts fs ss = 0 ∧ (∀ t ∈ tys, 0 ≤ t ∧ t < ts.length) ∧ (∀ j, j < tys.length → dupB tys j = false) ∧ 1 ≤ days ∧ days ≤ 60 := by
  rw [roomE_eq] at h
  by_cases h1 : rmB (rmA (chE ts fs ss) ts.length tys tys.length) tys tys.length = 0
  · rw [if_neg (fun g => g h1)] at h
    obtain ⟨h2, h3⟩ := rmB_z h1
    obtain ⟨h4, h5⟩ := rmA_z h2
    rw [List.take_length] at h5
    cases h6 : [days].any (outB 1 60) with
    | true => rw [if_pos h6] at h; cases h
    | false =>
      rw [if_neg (by rw [h6]; simp)] at h
      refine ⟨h, fun t ht => ?_, fun j hj => ?_, ((out1 _ _ _).1 h6).1, ((out1 _ _ _).1 h6).2⟩
      · have := List.any_eq_false.1 h5 t ht
        simp [outB] at this; omega
      · have := List.any_eq_false.1 h3 j (List.mem_range.2 hj)
        simpa using this
  · rw [if_pos h1] at h; exact absurd h h1
/-- Whether a further forme can be printed, as the reference has it. -/
theorem roomD_ref {fs : Fms} {ss : Sgs} {tys : List Int} {days : Int} {d : Nat} (h8 : (furF fs d days).length ≤ 8) (hs : SsOk (furF fs d days).length 6 (furS fs.length ss tys)) (hJ : clashJ (furF fs d days) (furS fs.length ss tys) = none) :
    roomD fs ss tys days d = decide (0 < (numR (gR (labL (furF fs d days).length (furS fs.length ss tys))) (mR (tabR (stN (furF fs d days)) (furF fs d days).length)) (manyJ fs ss) (furF fs d days).length []).length) := by
  unfold roomD
  rw [hJ, num_nil, ← waysA_congr (ref_congr h8 hs), furF_len]
  cases waysA (grpB (fs.length + 1) (furS fs.length ss tys)) (stN (furF fs d days)) (manyJ fs ss) (fs.length + 1) <;> simp
theorem press_ref {fs : Fms} {x : List Nat} {u : Nat} (h : Few aloneB (prN fs) fs.length x u) : Few (gR (List.range fs.length)) (mR (tabR (prN fs) fs.length)) (List.range fs.length).length x u := by
  rw [List.length_range]
  refine h.congr fun i k hi hk => ⟨?_, (mR_tab hi (by omega)).symm⟩
  unfold aloneB gR
  rw [range_getD (by omega), range_getD hi, Bool.eq_iff_iff, beq_iff_eq, beq_iff_eq]; exact ⟨Eq.symm, Eq.symm⟩
theorem few_cons {G M : Rel} {n : Nat} {x : List Nat} {u : Nat} (h : Few G M n x u) : ∃ r, (waysA G M u n).map Prod.fst = x :: r := by
  have hh := h.head
  cases hw : waysA G M u n with
  | nil => rw [hw] at hh; cases hh
  | cons p r => rw [hw] at hh; cases hh; exact ⟨_, rfl⟩
/-- Does a forme stand on a day? -/
def onB (fs : Fms) (d : Int) (k : Nat) : Bool := decide (setOf fs k ≤ d) && decide (d ≤ offOf fs k)
theorem onL_filter (fs : Fms) (d : Int) : onL fs d = (List.range fs.length).filter (onB fs d) := rfl
end Go.Ab.SkF

namespace Go.Ab.SkF
open Go Go.Ab Go.Ab.Pln Go.Proofs
set_option maxHeartbeats 1000000
set_option maxRecDepth 100000

theorem c55 (gl : Gl) (ts : List ByteArray) (fs : Fms) (ss : Sgs) (hf : fs.length ≤ 100) (hs : ss.length ≤ 100) (tys : List Int) (ht : tys.length ≤ 1000) (day days : Int) (hd : 0 ≤ day ∧ day ≤ 1000) (hd2 : 0 ≤ days ∧ days ≤ 1000) : PCalls PR gl 55 [.agg [strsV ts, fmsV fs, sgsV ss], vL tys, vI day, vI days] fun r => r = jobV ts (furF fs day days) (furS fs.length ss tys) := by
  have hw0 : IntKind.i64.wrap (IntKind.i64.wrap (day + days) - 1) = day + days - 1 := by rw [wrap_int (n := day + days) (by omega) (by omega), wrap_int (by omega) (by omega)]
  refine fnW_sound (par_ok gl) Tryd.func55 ?_
  conv => whnf
  refine ⟨Pln.lim (show fs.length ≤ 1000000000 by omega), false, ?_⟩
  conv => whnf
  refine ⟨_, rfl, ?_⟩
  conv => whnf
  refine ⟨Pln.lim (by show fs.length + 1 ≤ _; omega), ?_⟩
  conv => whnf
  refine ⟨Pln.lim (show ss.length ≤ 1000000000 by omega), false, ?_⟩
  conv => whnf
  refine ⟨⟨3858, [26, 1008, 2008, 3008], [1008, 2008, 3008]⟩, ?_⟩
  refine LoopW_ind _ (fun s9 : Nat × Fms × Sgs => match s9 with | (i, F, G) => (({ tmps := [.undef, vL tys, .undef, .undef, .own 4 [], .undef, .undef, .undef, .own 8 [], vI fs.length, .sl (S := S) U.sight G (some 32), vI i, .undef, .undef, .undef, .undef, .undef, .undef, .undef, .undef, .undef, .undef, .undef, .undef, .undef, .undef, .undef, .undef, .undef, .undef, .undef, .undef, .undef, .undef, .undef, .undef, .undef, .undef, .undef, .undef, .undef, .undef, .undef, .undef, .undef, .undef, .undef, .undef, .undef, .undef, .undef], seg := [(4, .cells [strsV ts, .sl (S := S) U.forme F (some 18), sgsV ss]), (8, .cells [strsV [], fmsV [], sgsV []]), (18, .row U.forme false), (32, .row U.sight false)], up := [] } : St S))) (fun s9 : Nat × Fms × Sgs => match s9 with | (i, F, G) => (i ≤ tys.length ∧ F = (furF fs day days) ∧ G = (ss ++ (tys.take i).map fun t => ((fs.length : Int), t, (0 : Int))))) (fun s9 : Nat × Fms × Sgs => match s9 with | (i, F, G) => (tys.length - i)) () ?_ (0, fs ++ [(b0, day, day, IntKind.i64.wrap (IntKind.i64.wrap (day + days) - 1))], ss) ⟨Nat.zero_le _, (by rw [hw0]; rfl), (List.append_nil ss).symm⟩
  rintro ⟨i, F, G⟩ hinv Z1 hZ1
  dsimp only at hinv hZ1
  obtain ⟨hi, hF, hG⟩ := hinv
  conv => whnf
  refine bcase_iff.2 ⟨fun h5 => ?_, fun h5 => ?_⟩
  · skip
    have hlt : i < tys.length := by have := of_decide_eq_true h5; omega
    have hw : IntKind.i64.wrap ((i : Int) + 1) = ((i + 1 : Nat) : Int) := wrap_nat (by omega)
    conv => whnf
    refine ⟨_, getI_nat hlt, ?_⟩
    conv => whnf
    refine ⟨_, rfl, ?_⟩
    conv => whnf
    refine ⟨Pln.lim (by rw [hG]; simp; omega), ?_⟩
    -- Z5:T
    conv => whnf
    refine ⟨⟨3858, [46, 47], []⟩, ?_⟩
    conv => whnf
    rw [hw]
    exact hZ1 (i + 1, F, _) ⟨hlt, hF, by rw [hG, take_snoc hlt, List.map_append, ← List.append_assoc]; rfl⟩ (by dsimp only; omega)
  · skip
    have hge : i = tys.length := by have := of_decide_eq_false h5; omega
    rw [hge, List.take_length] at hG
    subst hF hG
    -- R:F
    conv => whnf
    rfl

theorem op55 : Opens PR 55 := ⟨_, Tryd.func55, rfl, rfl⟩

theorem c91 (gl : Gl) (ts : List ByteArray) (fs : Fms) (ss : Sgs) (hL : LensJ ts fs ss) (tys : List Int) (hty : tys.length ≤ 9223372036854775807) (days : Int) : PCalls PR gl 91 [.agg [strsV ts, fmsV fs, sgsV ss], vL tys, vI days] fun r => r = vI (roomE ts fs ss tys days) := by
  have htl := hL.t
  have hwr : IntKind.i64.wrap ((ts.length : Int) - 1) = ((ts.length : Int) - 1) := wrap_int (by omega) (by omega)
  refine fnW_sound (par_ok gl) Tryd.func91 ?_
  conv => whnf
  refine byC (c17 gl ts fs ss hL) op17 ?_
  conv => whnf
  refine loop_q fun Q1 hQ1 => ?_
  refine ⟨⟨1550, [], []⟩, ?_⟩
  refine LoopW_ind _ (fun s9 : Nat × Int => match s9 with | (i, e) => (({ tmps := [.undef, vL tys, vI days, .own 3 [], .undef, .undef, .undef, .undef, .undef, vI e, vI i, .undef, .undef, .undef, .undef, .undef, .undef, .undef, .undef, .undef, .undef, .undef, .undef, .undef, .undef, .undef, .undef, .undef, .undef, .undef, .undef, .undef, .undef, .undef, .undef, .undef, .undef, .undef, .undef, .undef, .undef, .undef, .undef, .undef, .undef, .undef, .undef, .undef, .undef, .undef, .undef, .undef, .undef, .undef, .undef, .undef, .undef, .undef, .undef, .undef, .undef, .undef, .undef, .undef, .undef, .undef, .undef, .undef], seg := [(3, .cells [strsV ts, fmsV fs, sgsV ss])], up := [] } : St S))) (fun s9 : Nat × Int => match s9 with | (i, e) => (i ≤ tys.length ∧ e = (rmA (chE ts fs ss) ts.length tys i))) (fun s9 : Nat × Int => match s9 with | (i, e) => (tys.length - i)) () ?_ (0, _) ⟨Nat.zero_le _, (rmA_0 _ _ _).symm⟩
  rintro ⟨i, e⟩ hinv Z1 hZ1
  dsimp only at hinv hZ1
  obtain ⟨hi, he⟩ := hinv
  conv => whnf
  refine bcase_iff.2 ⟨fun g3_4 => ?_, fun g3_4 => ?_⟩
  · skip
    have hlt : i < tys.length := by have := of_decide_eq_true g3_4; omega
    have hw : IntKind.i64.wrap ((i : Int) + 1) = ((i + 1 : Nat) : Int) := wrap_nat (by omega)
    conv => whnf
    refine bcase_iff.2 ⟨fun h3 => ?_, fun h3 => ?_⟩
    · skip
      have he0 : e = 0 := by have g : (e == 0) = true := h3; simpa using g
      conv => whnf
      refine ⟨[0, 1, 2, 3, 4, 5, 6, 7, 8, 9], [], [], [], ⟨295147905179352825855, [], []⟩, by decide +kernel, ?_⟩
      conv => whnf
      refine ⟨_, getI_nat hlt, ?_⟩
      conv => whnf
      refine byC (c68 gl _ _ _) op68 ?_
      conv => whnf
      refine bcase_iff.2 ⟨fun h5 => ?_, fun h5 => ?_⟩
      · skip
        have q : outB 0 ((ts.length : Int) - 1) tys[i] = true := by have g : (!inB tys[i] 0 (IntKind.i64.wrap ((ts.length : Int) - 1))) = true := h5; rw [hwr, in_out] at g; exact g
        -- Z3:TTT
        conv => whnf
        refine ⟨⟨1550, [], []⟩, ?_⟩
        conv => whnf
        rw [hw]
        exact hZ1 (i + 1, 4) ⟨hlt, (rmA_T hlt (he.symm.trans he0) q).symm⟩ (by dsimp only; omega)
      · skip
        have q : outB 0 ((ts.length : Int) - 1) tys[i] = false := by have g : (!inB tys[i] 0 (IntKind.i64.wrap ((ts.length : Int) - 1))) = false := h5; rw [hwr, in_out] at g; exact g
        -- Z3:TTF
        conv => whnf
        refine ⟨⟨1550, [], []⟩, ?_⟩
        conv => whnf
        rw [hw, he0]
        exact hZ1 (i + 1, 0) ⟨hlt, (rmA_F hlt (he.symm.trans he0) q).symm⟩ (by dsimp only; omega)
    · skip
      have he0 : e ≠ 0 := by have g : (e == 0) = false := h3; simpa using g
      have hfin := rmA_end (c := chE ts fs ss) (nt := ts.length) (tys := tys) (i := i) (.inl (by rw [← he]; exact he0))
      rw [← he] at hfin
      conv => whnf
      refine (hQ1 _ _ _).mpr ?_
      conv => whnf
      refine loop_q fun Q2 hQ2 => ?_
      refine ⟨⟨2574, [], []⟩, ?_⟩
      refine LoopW_ind _ (fun s9 : Nat × Int => match s9 with | (k, f) => (({ tmps := [.undef, vL tys, vI days, .own 3 [], .undef, .undef, .undef, .undef, .undef, vI f, .undef, vI k, .undef, .undef, .undef, .undef, .undef, .undef, .undef, .undef, .undef, .undef, .undef, .undef, .undef, .undef, .undef, .undef, .undef, .undef, .undef, .undef, .undef, .undef, .undef, .undef, .undef, .undef, .undef, .undef, .undef, .undef, .undef, .undef, .undef, .undef, .undef, .undef, .undef, .undef, .undef, .undef, .undef, .undef, .undef, .undef, .undef, .undef, .undef, .undef, .undef, .undef, .undef, .undef, .undef, .undef, .undef, .undef], seg := [(3, .cells [strsV ts, fmsV fs, sgsV ss])], up := [] } : St S))) (fun s9 : Nat × Int => match s9 with | (k, f) => (k ≤ tys.length ∧ f = rmB e tys k)) (fun s9 : Nat × Int => match s9 with | (k, f) => (tys.length - k)) () ?_ (0, e) ⟨Nat.zero_le _, (rmB_0 _ _).symm⟩
      rintro ⟨k, f⟩ hinv Z2 hZ2
      dsimp only at hinv hZ2
      obtain ⟨hk, hf⟩ := hinv
      conv => whnf
      refine bcase_iff.2 ⟨fun g8_4 => ?_, fun g8_4 => ?_⟩
      · skip
        have hltk : k < tys.length := by have := of_decide_eq_true g8_4; omega
        have hwk : IntKind.i64.wrap ((k : Int) + 1) = ((k + 1 : Nat) : Int) := wrap_nat (by omega)
        conv => whnf
        refine bcase_iff.2 ⟨fun h8 => ?_, fun h8 => ?_⟩
        · skip
          have hf0 : f = 0 := by have g : (f == 0) = true := h8; simpa using g
          conv => whnf
          refine ⟨[0, 1, 2, 3, 4, 5, 6, 7], [], [], [], ⟨295147905179352825855, [], []⟩, by decide +kernel, ?_⟩
          conv => whnf
          refine ⟨by omega, ?_⟩
          conv => whnf
          refine ⟨by omega, by simp <;> omega, ?_⟩
          conv => whnf
          refine ⟨_, getI_nat hltk, ?_⟩
          conv => whnf
          have h99 : PCalls PR gl 99 [vL (tys.take k), vI tys[k]] fun r => r = vB (dupB tys k) := by
            have h := c99 gl (tys.take k) (by rw [List.length_take]; omega) tys[k]
            unfold dupB; rw [getD_at hltk]; exact h
          conv => whnf
          refine byC h99 op99 ?_
          conv => whnf
          refine bcase_iff.2 ⟨fun h10 => ?_, fun h10 => ?_⟩
          · skip
            have q : dupB tys k = true := h10
            -- Z8:TTT
            conv => whnf
            refine ⟨⟨2574, [], []⟩, ?_⟩
            conv => whnf
            rw [hwk]
            exact hZ2 (k + 1, 5) ⟨hltk, (rmB_T (hf.symm.trans hf0) q).symm⟩ (by dsimp only; omega)
          · skip
            have q : dupB tys k = false := h10
            -- Z8:TTF
            conv => whnf
            refine ⟨⟨2574, [], []⟩, ?_⟩
            conv => whnf
            rw [hwk, hf0]
            exact hZ2 (k + 1, 0) ⟨hltk, (rmB_F (hf.symm.trans hf0) q).symm⟩ (by dsimp only; omega)
        · skip
          have hf0 : f ≠ 0 := by have g : (f == 0) = false := h8; simpa using g
          have hfi2 := rmB_end (c := e) hk (.inl (by rw [← hf]; exact hf0))
          rw [← hf] at hfi2
          conv => whnf
          refine (hQ2 _ _ _).mpr ?_
          conv => whnf
          refine bcase_iff.2 ⟨fun g12_2 => ?_, fun g12_2 => ?_⟩
          · skip
            have f0 : f = 0 := by have g : (f == 0) = true := g12_2; simpa using g
            have hE := roomE_eq ts fs ss tys days
            rw [← hfin, ← hfi2, if_neg (fun h => h f0)] at hE
            conv => whnf
            refine byC (c68 gl _ _ _) op68 ?_
            conv => whnf
            refine bcase_iff.2 ⟨fun h12 => ?_, fun h12 => ?_⟩
            · skip
              have q : [days].any (outB 1 60) = true := by have g : (!inB days 1 60) = true := h12; rw [in_out] at g; simpa using g
              rw [if_pos q] at hE
              -- R:TFTFTT
              conv => whnf
              first | (rw [hE]; done) | (rw [hE]; rfl)
            · skip
              have q : [days].any (outB 1 60) = false := by have g : (!inB days 1 60) = false := h12; rw [in_out] at g; simpa using g
              rw [if_neg (by rw [q]; simp)] at hE
              conv => whnf
              refine bcase_iff.2 ⟨fun h14 => ?_, fun h14 => ?_⟩
              · skip
                conv => whnf
                refine byC (c86 gl ts fs ss hL) op86 ?_
                -- R:TFTFTFT
                conv => whnf
                first | (rw [hE]; done) | (rw [hE]; rfl)
              · skip
                exfalso
                have g : (f == 0) = false := h14
                rw [f0] at g; cases g --done
          · skip
            have f0 : f ≠ 0 := by have g : (f == 0) = false := g12_2; simpa using g
            have hE := roomE_eq ts fs ss tys days
            rw [← hfin, ← hfi2, if_pos f0] at hE
            conv => whnf
            refine bcase_iff.2 ⟨fun h14 => ?_, fun h14 => ?_⟩
            · skip
              exfalso
              have g : (f == 0) = true := h14
              exact f0 (by simpa using g) --done
            · skip
              -- R:TFTFFF
              conv => whnf
              first | (rw [hE]; done) | (rw [hE]; rfl)
      · skip
        have hgek : k = tys.length := by have := of_decide_eq_false g8_4; omega
        have hfi2 := rmB_end (c := e) hk (.inr hgek)
        rw [← hf] at hfi2
        conv => whnf
        refine (hQ2 _ _ _).mpr ?_
        conv => whnf
        refine bcase_iff.2 ⟨fun g12_2 => ?_, fun g12_2 => ?_⟩
        · skip
          have f0 : f = 0 := by have g : (f == 0) = true := g12_2; simpa using g
          have hE := roomE_eq ts fs ss tys days
          rw [← hfin, ← hfi2, if_neg (fun h => h f0)] at hE
          conv => whnf
          refine byC (c68 gl _ _ _) op68 ?_
          conv => whnf
          refine bcase_iff.2 ⟨fun h12 => ?_, fun h12 => ?_⟩
          · skip
            have q : [days].any (outB 1 60) = true := by have g : (!inB days 1 60) = true := h12; rw [in_out] at g; simpa using g
            rw [if_pos q] at hE
            -- R:TFFTT
            conv => whnf
            first | (rw [hE]; done) | (rw [hE]; rfl)
          · skip
            have q : [days].any (outB 1 60) = false := by have g : (!inB days 1 60) = false := h12; rw [in_out] at g; simpa using g
            rw [if_neg (by rw [q]; simp)] at hE
            conv => whnf
            refine bcase_iff.2 ⟨fun h14 => ?_, fun h14 => ?_⟩
            · skip
              conv => whnf
              refine byC (c86 gl ts fs ss hL) op86 ?_
              -- R:TFFTFT
              conv => whnf
              first | (rw [hE]; done) | (rw [hE]; rfl)
            · skip
              exfalso
              have g : (f == 0) = false := h14
              rw [f0] at g; cases g --done
        · skip
          have f0 : f ≠ 0 := by have g : (f == 0) = false := g12_2; simpa using g
          have hE := roomE_eq ts fs ss tys days
          rw [← hfin, ← hfi2, if_pos f0] at hE
          conv => whnf
          refine bcase_iff.2 ⟨fun h14 => ?_, fun h14 => ?_⟩
          · skip
            exfalso
            have g : (f == 0) = true := h14
            exact f0 (by simpa using g) --done
          · skip
            -- R:TFFFF
            conv => whnf
            first | (rw [hE]; done) | (rw [hE]; rfl)
  · skip
    have hge : i = tys.length := by have := of_decide_eq_false g3_4; omega
    have hfin := rmA_end (c := chE ts fs ss) (nt := ts.length) (.inr hge)
    rw [← he] at hfin
    conv => whnf
    refine (hQ1 _ _ _).mpr ?_
    conv => whnf
    refine loop_q fun Q2 hQ2 => ?_
    refine ⟨⟨2574, [], []⟩, ?_⟩
    refine LoopW_ind _ (fun s9 : Nat × Int => match s9 with | (k, f) => (({ tmps := [.undef, vL tys, vI days, .own 3 [], .undef, .undef, .undef, .undef, .undef, vI f, .undef, vI k, .undef, .undef, .undef, .undef, .undef, .undef, .undef, .undef, .undef, .undef, .undef, .undef, .undef, .undef, .undef, .undef, .undef, .undef, .undef, .undef, .undef, .undef, .undef, .undef, .undef, .undef, .undef, .undef, .undef, .undef, .undef, .undef, .undef, .undef, .undef, .undef, .undef, .undef, .undef, .undef, .undef, .undef, .undef, .undef, .undef, .undef, .undef, .undef, .undef, .undef, .undef, .undef, .undef, .undef, .undef, .undef], seg := [(3, .cells [strsV ts, fmsV fs, sgsV ss])], up := [] } : St S))) (fun s9 : Nat × Int => match s9 with | (k, f) => (k ≤ tys.length ∧ f = rmB e tys k)) (fun s9 : Nat × Int => match s9 with | (k, f) => (tys.length - k)) () ?_ (0, e) ⟨Nat.zero_le _, (rmB_0 _ _).symm⟩
    rintro ⟨k, f⟩ hinv Z2 hZ2
    dsimp only at hinv hZ2
    obtain ⟨hk, hf⟩ := hinv
    conv => whnf
    refine bcase_iff.2 ⟨fun g8_4 => ?_, fun g8_4 => ?_⟩
    · skip
      have hltk : k < tys.length := by have := of_decide_eq_true g8_4; omega
      have hwk : IntKind.i64.wrap ((k : Int) + 1) = ((k + 1 : Nat) : Int) := wrap_nat (by omega)
      conv => whnf
      refine bcase_iff.2 ⟨fun h8 => ?_, fun h8 => ?_⟩
      · skip
        have hf0 : f = 0 := by have g : (f == 0) = true := h8; simpa using g
        conv => whnf
        refine ⟨[0, 1, 2, 3, 4, 5, 6, 7], [], [], [], ⟨295147905179352825855, [], []⟩, by decide +kernel, ?_⟩
        conv => whnf
        refine ⟨by omega, ?_⟩
        conv => whnf
        refine ⟨by omega, by simp <;> omega, ?_⟩
        conv => whnf
        refine ⟨_, getI_nat hltk, ?_⟩
        conv => whnf
        have h99 : PCalls PR gl 99 [vL (tys.take k), vI tys[k]] fun r => r = vB (dupB tys k) := by
          have h := c99 gl (tys.take k) (by rw [List.length_take]; omega) tys[k]
          unfold dupB; rw [getD_at hltk]; exact h
        conv => whnf
        refine byC h99 op99 ?_
        conv => whnf
        refine bcase_iff.2 ⟨fun h10 => ?_, fun h10 => ?_⟩
        · skip
          have q : dupB tys k = true := h10
          -- Z8:TTT
          conv => whnf
          refine ⟨⟨2574, [], []⟩, ?_⟩
          conv => whnf
          rw [hwk]
          exact hZ2 (k + 1, 5) ⟨hltk, (rmB_T (hf.symm.trans hf0) q).symm⟩ (by dsimp only; omega)
        · skip
          have q : dupB tys k = false := h10
          -- Z8:TTF
          conv => whnf
          refine ⟨⟨2574, [], []⟩, ?_⟩
          conv => whnf
          rw [hwk, hf0]
          exact hZ2 (k + 1, 0) ⟨hltk, (rmB_F (hf.symm.trans hf0) q).symm⟩ (by dsimp only; omega)
      · skip
        have hf0 : f ≠ 0 := by have g : (f == 0) = false := h8; simpa using g
        have hfi2 := rmB_end (c := e) hk (.inl (by rw [← hf]; exact hf0))
        rw [← hf] at hfi2
        conv => whnf
        refine (hQ2 _ _ _).mpr ?_
        conv => whnf
        refine bcase_iff.2 ⟨fun g12_2 => ?_, fun g12_2 => ?_⟩
        · skip
          have f0 : f = 0 := by have g : (f == 0) = true := g12_2; simpa using g
          have hE := roomE_eq ts fs ss tys days
          rw [← hfin, ← hfi2, if_neg (fun h => h f0)] at hE
          conv => whnf
          refine byC (c68 gl _ _ _) op68 ?_
          conv => whnf
          refine bcase_iff.2 ⟨fun h12 => ?_, fun h12 => ?_⟩
          · skip
            have q : [days].any (outB 1 60) = true := by have g : (!inB days 1 60) = true := h12; rw [in_out] at g; simpa using g
            rw [if_pos q] at hE
            -- R:FTFTT
            conv => whnf
            first | (rw [hE]; done) | (rw [hE]; rfl)
          · skip
            have q : [days].any (outB 1 60) = false := by have g : (!inB days 1 60) = false := h12; rw [in_out] at g; simpa using g
            rw [if_neg (by rw [q]; simp)] at hE
            conv => whnf
            refine bcase_iff.2 ⟨fun h14 => ?_, fun h14 => ?_⟩
            · skip
              conv => whnf
              refine byC (c86 gl ts fs ss hL) op86 ?_
              -- R:FTFTFT
              conv => whnf
              first | (rw [hE]; done) | (rw [hE]; rfl)
            · skip
              exfalso
              have g : (f == 0) = false := h14
              rw [f0] at g; cases g --done
        · skip
          have f0 : f ≠ 0 := by have g : (f == 0) = false := g12_2; simpa using g
          have hE := roomE_eq ts fs ss tys days
          rw [← hfin, ← hfi2, if_pos f0] at hE
          conv => whnf
          refine bcase_iff.2 ⟨fun h14 => ?_, fun h14 => ?_⟩
          · skip
            exfalso
            have g : (f == 0) = true := h14
            exact f0 (by simpa using g) --done
          · skip
            -- R:FTFFF
            conv => whnf
            first | (rw [hE]; done) | (rw [hE]; rfl)
    · skip
      have hgek : k = tys.length := by have := of_decide_eq_false g8_4; omega
      have hfi2 := rmB_end (c := e) hk (.inr hgek)
      rw [← hf] at hfi2
      conv => whnf
      refine (hQ2 _ _ _).mpr ?_
      conv => whnf
      refine bcase_iff.2 ⟨fun g12_2 => ?_, fun g12_2 => ?_⟩
      · skip
        have f0 : f = 0 := by have g : (f == 0) = true := g12_2; simpa using g
        have hE := roomE_eq ts fs ss tys days
        rw [← hfin, ← hfi2, if_neg (fun h => h f0)] at hE
        conv => whnf
        refine byC (c68 gl _ _ _) op68 ?_
        conv => whnf
        refine bcase_iff.2 ⟨fun h12 => ?_, fun h12 => ?_⟩
        · skip
          have q : [days].any (outB 1 60) = true := by have g : (!inB days 1 60) = true := h12; rw [in_out] at g; simpa using g
          rw [if_pos q] at hE
          -- R:FFTT
          conv => whnf
          first | (rw [hE]; done) | (rw [hE]; rfl)
        · skip
          have q : [days].any (outB 1 60) = false := by have g : (!inB days 1 60) = false := h12; rw [in_out] at g; simpa using g
          rw [if_neg (by rw [q]; simp)] at hE
          conv => whnf
          refine bcase_iff.2 ⟨fun h14 => ?_, fun h14 => ?_⟩
          · skip
            conv => whnf
            refine byC (c86 gl ts fs ss hL) op86 ?_
            -- R:FFTFT
            conv => whnf
            first | (rw [hE]; done) | (rw [hE]; rfl)
          · skip
            exfalso
            have g : (f == 0) = false := h14
            rw [f0] at g; cases g --done
      · skip
        have f0 : f ≠ 0 := by have g : (f == 0) = false := g12_2; simpa using g
        have hE := roomE_eq ts fs ss tys days
        rw [← hfin, ← hfi2, if_pos f0] at hE
        conv => whnf
        refine bcase_iff.2 ⟨fun h14 => ?_, fun h14 => ?_⟩
        · skip
          exfalso
          have g : (f == 0) = true := h14
          exact f0 (by simpa using g) --done
        · skip
          -- R:FFFF
          conv => whnf
          first | (rw [hE]; done) | (rw [hE]; rfl)

theorem op91 : Opens PR 91 := ⟨_, Tryd.func91, rfl, rfl⟩

theorem c35 (gl : Gl) (ts : List ByteArray) (fs : Fms) (ss : Sgs) (hL : LensJ ts fs ss) (tys : List Int) (hty : tys.length ≤ 9223372036854775807) (days : Int) : PCalls PR gl 35 [.agg [strsV ts, fmsV fs, sgsV ss], vL tys, vI days] fun r => r = .tup [vI (roomR ts fs ss tys days).1, vI (roomR ts fs ss tys days).2] := by
  refine fnW_sound (par_ok gl) Tryd.func35 ?_
  conv => whnf
  refine byC (c91 gl ts fs ss hL tys hty days) op91 ?_
  rcases Classical.em (roomE ts fs ss tys days = 0) with hE | hE
  · skip
    obtain ⟨hk, hin, hdup, hdy⟩ := roomE_0 hE
    have hV := ask_valid hk
    have hv := hV.job
    have h8 := hv.n8
    have hn7 := hV.n7
    have hs6 := hv.s6
    have h12 := hV.s12
    have ht6 := hv.t6
    obtain ⟨x, u, hsk⟩ := skel_of hv.n0 h8 hs6 (ask_clash hk)
    obtain ⟨rest, hall⟩ := all_head hsk
    have hxl := hsk.few.way.len
    have hxm := skel_many hsk
    have hmu : manyJ fs ss = u := by unfold manyJ; rw [hsk.eq]
    have hule := hsk.few.le
    have hin6 : ∀ t ∈ tys, 0 ≤ t ∧ t < 6 := fun t ht => by have := hin t ht; omega
    have hl6 := dup_len hin6 hdup
    conv => whnf
    refine bcase_iff.2 ⟨fun h2 => ?_, fun h2 => ?_⟩
    · skip
      exfalso
      have g : (roomE ts fs ss tys days != 0) = true := h2
      rw [hE] at g; cases g --done
    · skip
      conv => whnf
      refine byC (c87 gl ts fs ss h8 hv.s hv.t6 (by omega) x u hsk) op87 ?_
      conv => whnf
      rw [hall]
      conv => whnf
      refine ⟨_, rfl, ?_⟩
      conv => whnf
      refine byC (c44 gl x (by omega)) op44 ?_
      conv => whnf
      rw [hxm, ← hmu]
      conv => whnf
      have hwx : ∀ d : Nat, d ≤ 62 - days.toNat → IntKind.i64.wrap (IntKind.i64.wrap ((d : Int) + days) - 1) = (d : Int) + days - 1 := fun d hd => by rw [wrap_int (n := (d : Int) + days) (by omega) (by omega), wrap_int (by omega) (by omega)]
      refine ⟨⟨1550, [], []⟩, ?_⟩
      refine LoopW_ind _ (fun d : Nat => (({ tmps := [.undef, vL tys, vI days, .own 3 [], .undef, .undef, .undef, .undef, .undef, vI (manyJ fs ss), vI d, .undef, .undef, .undef, .undef, .undef, .undef, .undef, .undef, .undef, .undef, .undef, .undef, .undef, .undef, .undef, .undef, .undef, .undef, .undef, .undef, .undef, .undef, .undef, .undef, .undef, .undef, .undef, .undef, .undef, .undef, .undef, .undef, .undef, .undef, .undef, .undef, .undef, .undef, .undef, .undef, .undef, .undef, .undef, .undef, .undef], seg := [(3, .cells [strsV ts, fmsV fs, sgsV ss])], up := [] } : St S))) (fun d : Nat => (d ≤ 62 - days.toNat ∧ ∀ e, e < d → roomD fs ss tys days e = false)) (fun d : Nat => (62 - days.toNat - d)) () ?_ 0 ⟨Nat.zero_le _, fun e h => absurd h (Nat.not_lt_zero e)⟩
      intro d hinv Z1 hZ1
      obtain ⟨hd0, hrd⟩ := hinv
      conv => whnf
      refine bcase_iff.2 ⟨fun h6 => ?_, fun h6 => ?_⟩
      · skip
        have hltd : d < 62 - days.toNat := by have g := of_decide_eq_true h6; rw [hwx d hd0] at g; omega
        have hwd : IntKind.i64.wrap ((d : Int) + 1) = ((d + 1 : Nat) : Int) := wrap_nat (by omega)
        have hFl := furF_len fs (d : Int) days
        have hF8 : (furF fs d days).length ≤ 8 := by omega
        have hSl := furS_len fs.length ss tys
        have hS6 := furS_ok (n := fs.length) hs6 hin6
        rw [← hFl] at hS6
        have hSt : SsOk (furF fs d days).length ts.length (furS fs.length ss tys) := by
          refine ⟨hS6.f, fun s hs => ?_⟩
          rcases List.mem_append.1 hs with hs | hs
          · exact hv.s.t s hs
          · obtain ⟨t, ht, rfl⟩ := List.mem_map.1 hs; exact hin t ht
        conv => whnf
        refine byC (c55 gl ts fs ss (by omega) (by omega) tys (by omega) d days (by omega) (by omega)) op55 ?_
        conv => whnf
        refine byC (c75 gl ts (furF fs d days) (furS fs.length ss tys) hF8 hSt ht6 (by omega)) op75 ?_
        unfold firV
        rcases hJ : clashJ (furF fs d days) (furS fs.length ss tys) with _ | ⟨a, b⟩
        · skip
          have hDr := roomD_ref hF8 hS6 hJ
          conv => whnf
          refine ⟨[0, 1, 2, 3, 4, 6, 5, 7, 8, 9, 10, 11], [], [], [], ⟨72057594037927935, [], []⟩, by decide +kernel, ?_⟩
          conv => whnf
          refine byC (c73 gl ts (furF fs d days) (furS fs.length ss tys) hF8 hSt ht6 (by omega)) op73 ?_
          conv => whnf
          refine byC (c93 gl ts (furF fs d days) (furS fs.length ss tys) hF8) op93 ?_
          conv => whnf
          have h92 := c92 gl (labL (furF fs d days).length (furS fs.length ss tys)) (tabR (stN (furF fs d days)) (furF fs d days).length) (manyJ fs ss) (by omega) (by rw [labL_len]; exact hF8) (by rw [labL_len, tabR_len]) (by rw [labL_len]; exact tab_rows _ _) (furF fs d days).length [] (by rw [labL_len]; simp)
          conv => whnf
          refine byC h92 op92 ?_
          conv => whnf
          refine bcase_iff.2 ⟨fun h10 => ?_, fun h10 => ?_⟩
          · skip
            have hD : roomD fs ss tys days d = true := by rw [hDr]; have g := of_decide_eq_true h10; rw [List.length_map] at g; exact decide_eq_true (by omega)
            -- R:aFTaT
            conv => whnf
            rw [roomR_day hE hltd hD hrd]
          · skip
            have hD : roomD fs ss tys days d = false := by rw [hDr]; have g := of_decide_eq_false h10; rw [List.length_map] at g; exact decide_eq_false (by omega)
            -- Z6:TaF
            conv => whnf
            refine ⟨⟨1550, [11, 1011, 2011, 3011, 4011], [1011, 2011, 3011]⟩, ?_⟩
            conv => whnf
            rw [hwd]
            exact hZ1 (d + 1) ⟨hltd, up_succ hrd hD⟩ (by omega)
        · skip
          have hD : roomD fs ss tys days d = false := by unfold roomD; rw [hJ]; rfl
          conv => whnf
          refine ⟨[0, 1, 2, 3, 4, 6, 5, 7, 8, 9, 10, 11], [], [], [], ⟨72057594037927935, [], []⟩, by decide +kernel, ?_⟩
          -- Z6:Tb
          conv => whnf
          refine ⟨⟨1550, [11, 1011, 2011, 3011, 4011], [1011, 2011, 3011]⟩, ?_⟩
          conv => whnf
          rw [hwd]
          exact hZ1 (d + 1) ⟨hltd, up_succ hrd hD⟩ (by omega)
      · skip
        have hged : d = 62 - days.toNat := by have g := of_decide_eq_false h6; rw [hwx d hd0] at g; omega
        -- R:aFF
        conv => whnf
        rw [roomR_none hE (by rw [← hged]; exact hrd)]
  · skip
    have hR := roomR_err (e := roomE ts fs ss tys days) rfl hE
    conv => whnf
    refine bcase_iff.2 ⟨fun h2 => ?_, fun h2 => ?_⟩
    · skip
      -- R:bT
      conv => whnf
      rw [hR]
    · skip
      exfalso
      have g : (roomE ts fs ss tys days != 0) = false := h2
      exact hE (by simpa using g) --done

theorem op35 : Opens PR 35 := ⟨_, Tryd.func35, rfl, rfl⟩

theorem c37 (gl : Gl) (ts : List ByteArray) (fs : Fms) (ss : Sgs) (hL : LensJ ts fs ss) : PCalls PR gl 37 [.agg [strsV ts, fmsV fs, sgsV ss]] fun r => r = .tup [vL (pressR ts fs ss).1, vI (pressR ts fs ss).2.1, vI (pressR ts fs ss).2.2] := by
  refine fnW_sound (par_ok gl) Tryd.func37 ?_
  conv => whnf
  refine byC (c17 gl ts fs ss hL) op17 ?_
  rcases Classical.em (chE ts fs ss = 0) with hk | hk
  · skip
    have hv := (chk_valid.1 hk).job
    have h8 := hv.n8
    obtain ⟨x, u, hF0⟩ := press_few hv.n0
    have hF := press_ref hF0
    obtain ⟨rest, hall⟩ := few_cons hF
    have hxl := hF0.way.len
    have hxm : manyL x = u := by rw [way_many hF0.way, hF0.top]
    have hR : pressR ts fs ss = (natsV x, (u : Int), 0) := by unfold pressR pressJ; rw [if_neg (fun h => h hk), hF0.eq]
    conv => whnf
    refine bcase_iff.2 ⟨fun h2 => ?_, fun h2 => ?_⟩
    · skip
      exfalso
      have g : (chE ts fs ss != 0) = true := h2
      rw [hk] at g; cases g --done
    · skip
      conv => whnf
      refine loop_q fun Q1 hQ1 => ?_
      refine ⟨⟨1794, [2], [2, 8, 9]⟩, ?_⟩
      refine LoopW_ind _ (fun a : Nat => (({ tmps := [.undef, .own 1 [], .undef, .undef, .undef, .undef, .undef, .undef, .sl (S := S) U.int (natsV (List.range a)) (some 8), .sl (S := S) U.bools ((List.range a).map (rowR (prN fs) fs.length)) (some 9), vI a, .undef, .undef, .undef, .undef, .undef, .undef, .undef, .undef, .undef, .undef, .undef, .undef, .undef, .undef, .undef, .undef, .undef, .undef, .undef, .undef, .undef, .undef, .undef, .undef, .undef, .undef, .undef, .undef, .undef, .undef, .undef, .undef, .undef, .undef, .undef, .undef, .undef, .undef, .undef, .undef, .undef, .undef, .undef, .undef, .undef, .undef, .undef, .undef, .undef, .undef, .undef, .undef, .undef, .undef, .undef, .undef, .undef, .undef, .undef, .undef, .undef], seg := [(1, .cells [strsV ts, fmsV fs, sgsV ss]), (8, .row U.int false), (9, .row U.bools false)], up := [] } : St S))) (fun a : Nat => (a ≤ fs.length)) (fun a : Nat => (fs.length - a)) () ?_ 0 (Nat.zero_le _)
      intro a ha Z1 hZ1
      conv => whnf
      refine bcase_iff.2 ⟨fun h7 => ?_, fun h7 => ?_⟩
      · skip
        have hlta : a < fs.length := by have := of_decide_eq_true h7; omega
        have hwa : IntKind.i64.wrap ((a : Int) + 1) = ((a + 1 : Nat) : Int) := wrap_nat (by omega)
        conv => whnf
        refine ⟨_, rfl, ?_⟩
        conv => whnf
        refine ⟨Pln.lim (by rw [natsV_length]; simp; omega), ?_⟩
        conv => whnf
        rw [range_snoc]
        refine loop_q fun Q2 hQ2 => ?_
        refine ⟨⟨7938, [32], [11]⟩, ?_⟩
        refine LoopW_ind _ (fun k : Nat => (({ tmps := [.undef, .own 1 [], .undef, .undef, .undef, .undef, .undef, .undef, .sl (S := S) U.int (natsV (List.range (a + 1))) (some 8), .sl (S := S) U.bools ((List.range a).map (rowR (prN fs) fs.length)) (some 9), vI a, .sl (S := S) U.bool ((List.range k).map ((prN fs) a)) (some 11), vI k, .undef, .undef, .undef, .undef, .undef, .undef, .undef, .undef, .undef, .undef, .undef, .undef, .undef, .undef, .undef, .undef, .undef, .undef, .undef, .undef, .undef, .undef, .undef, .undef, .undef, .undef, .undef, .undef, .undef, .undef, .undef, .undef, .undef, .undef, .undef, .undef, .undef, .undef, .undef, .undef, .undef, .undef, .undef, .undef, .undef, .undef, .undef, .undef, .undef, .undef, .undef, .undef, .undef, .undef, .undef, .undef, .undef, .undef, .undef], seg := [(1, .cells [strsV ts, fmsV fs, sgsV ss]), (8, .row U.int false), (9, .row U.bools false), (11, .row U.bool false)], up := [] } : St S))) (fun k : Nat => (k ≤ fs.length)) (fun k : Nat => (fs.length - k)) () ?_ 0 (Nat.zero_le _)
        intro k hk2 Z2 hZ2
        conv => whnf
        refine bcase_iff.2 ⟨fun h12 => ?_, fun h12 => ?_⟩
        · skip
          have hltk : k < fs.length := by have := of_decide_eq_true h12; omega
          have hwk : IntKind.i64.wrap ((k : Int) + 1) = ((k + 1 : Nat) : Int) := wrap_nat (by omega)
          conv => whnf
          refine ⟨[0, 1, 2, 3, 4, 5, 6, 7, 8, 9, 10, 11, 12, 13, 14, 15, 16, 17, 18, 19], [17], [], [], ⟨4722366482869645213695, [], []⟩, by decide +kernel, ?_⟩
          conv => whnf
          refine bcase_iff.2 ⟨fun g14_4 => ?_, fun g14_4 => ?_⟩
          · skip
            have q1 : (a != k) = true := by have g : ((a : Int) != (k : Int)) = true := g14_4; rw [neN] at g; exact g
            conv => whnf
            refine ⟨_, getI_nat hlta, ?_⟩
            conv => whnf
            refine ⟨_, getI_nat hltk, ?_⟩
            conv => whnf
            refine byC (c53 gl fs[a] fs[k]) op53 ?_
            conv => whnf
            have q : prN fs a k = prB fs[a] fs[k] := by unfold prN; rw [q1, Bool.true_and, getD_at hlta, getD_at hltk]
            conv => whnf
            refine ⟨_, rfl, ?_⟩
            conv => whnf
            refine ⟨Pln.lim (by simp; omega), ?_⟩
            -- Z12:TT
            conv => whnf
            refine ⟨⟨7938, [58, 59], []⟩, ?_⟩
            conv => whnf
            rw [hwk]
            have hz := hZ2 (k + 1) hltk (by omega)
            rw [List.range_succ, List.map_append, show [k].map (prN fs a) = [prB fs[a] fs[k]] by rw [List.map_singleton, q]] at hz
            exact hz
          · skip
            have q1 : (a != k) = false := by have g : ((a : Int) != (k : Int)) = false := g14_4; rw [neN] at g; exact g
            have q : prN fs a k = false := by unfold prN; rw [q1, Bool.false_and]
            conv => whnf
            refine ⟨_, rfl, ?_⟩
            conv => whnf
            refine ⟨Pln.lim (by simp; omega), ?_⟩
            -- Z12:TF
            conv => whnf
            refine ⟨⟨7938, [58, 59], []⟩, ?_⟩
            conv => whnf
            rw [hwk]
            have hz := hZ2 (k + 1) hltk (by omega)
            rw [List.range_succ, List.map_append, show [k].map (prN fs a) = [false] by rw [List.map_singleton, q]] at hz
            exact hz
        · skip
          have hgek : k = fs.length := by have := of_decide_eq_false h12; omega
          subst hgek
          conv => whnf
          refine (hQ2 _ _ _).mpr ?_
          conv => whnf
          refine ⟨_, rfl, ?_⟩
          conv => whnf
          refine ⟨Pln.lim (by simp; omega), ?_⟩
          -- Z7:TF
          conv => whnf
          refine ⟨⟨1794, [11, 32, 33, 58, 59, 62, 63, 900011], []⟩, ?_⟩
          conv => whnf
          rw [hwa]
          have hz := hZ1 (a + 1) hlta (by omega)
          rw [show (List.range (a + 1)).map (rowR (prN fs) fs.length) = (List.range a).map (rowR (prN fs) fs.length) ++ [rowR (prN fs) fs.length a] by rw [List.range_succ, List.map_append]; rfl] at hz
          exact hz
      · skip
        have hgea : a = fs.length := by have := of_decide_eq_false h7; omega
        subst hgea
        have h97 := c97 gl (List.range fs.length) (tabR (prN fs) fs.length) (by simpa using h8) (by rw [tabR_len]; simp) (by rw [List.length_range]; exact tab_rows _ _) x u hF
        rw [hall] at h97
        conv => whnf
        refine (hQ1 _ _ _).mpr ?_
        conv => whnf
        refine byC h97 op97 ?_
        conv => whnf
        refine ⟨_, rfl, ?_⟩
        conv => whnf
        refine byC (c44 gl x (by omega)) op44 ?_
        conv => whnf
        rw [hxm]
        -- R:aFF
        conv => whnf
        rw [hR]
  · skip
    have hR : pressR ts fs ss = ([], 0, chE ts fs ss) := by unfold pressR; rw [if_pos hk]
    conv => whnf
    refine bcase_iff.2 ⟨fun h2 => ?_, fun h2 => ?_⟩
    · skip
      -- R:bT
      conv => whnf
      rw [hR]
    · skip
      exfalso
      have g : (chE ts fs ss != 0) = false := h2
      exact hk (by simpa using g) --done

theorem op37 : Opens PR 37 := ⟨_, Tryd.func37, rfl, rfl⟩

theorem c52 (gl : Gl) (ts : List ByteArray) (fs : Fms) (ss : Sgs) (hf : fs.length ≤ 100) (day : Int) : PCalls PR gl 52 [.agg [strsV ts, fmsV fs, sgsV ss], vI day] fun r => r = vL (natsV (onL fs day)) := by
  refine fnW_sound (par_ok gl) Tryd.func52 ?_
  conv => whnf
  refine ⟨⟨102, [4], [4, 5]⟩, ?_⟩
  refine LoopW_ind _ (fun i : Nat => (({ tmps := [.undef, vI day, .own 2 [], .undef, .undef, .sl (S := S) U.int (natsV ((List.range i).filter (onB fs day))) (some 5), vI i, .undef, .undef, .undef, .undef, .undef, .undef, .undef, .undef, .undef, .undef, .undef, .undef, .undef, .undef, .undef, .undef, .undef, .undef, .undef, .undef, .undef, .undef, .undef, .undef, .undef, .undef], seg := [(2, .cells [strsV ts, fmsV fs, sgsV ss]), (5, .row U.int false)], up := [] } : St S))) (fun i : Nat => (i ≤ fs.length)) (fun i : Nat => (fs.length - i)) () ?_ 0 (Nat.zero_le _)
  intro i hi Z1 hZ1
  conv => whnf
  refine bcase_iff.2 ⟨fun h3 => ?_, fun h3 => ?_⟩
  · skip
    have hlt : i < fs.length := by have := of_decide_eq_true h3; omega
    have hw : IntKind.i64.wrap ((i : Int) + 1) = ((i + 1 : Nat) : Int) := wrap_nat (by omega)
    conv => whnf
    refine ⟨[0, 1, 2, 3, 4, 5, 6, 7, 8, 9, 10, 11, 12, 13], [], [], [], ⟨8589934591, [], []⟩, by decide +kernel, ?_⟩
    conv => whnf
    refine ⟨_, getI_nat hlt, ?_⟩
    conv => whnf
    refine ⟨_, getI_nat hlt, ?_⟩
    conv => whnf
    have hp : inB day fs[i].2.1 fs[i].2.2.2 = onB fs day i := by unfold inB onB setOf offOf; rw [getD_at hlt]
    conv => whnf
    have h68 := c68 gl day fs[i].2.1 fs[i].2.2.2
    conv => whnf
    rw [hp] at h68
    conv => whnf
    refine byC h68 op68 ?_
    conv => whnf
    refine bcase_iff.2 ⟨fun h5 => ?_, fun h5 => ?_⟩
    · skip
      have q : onB fs day i = true := h5
      conv => whnf
      refine ⟨_, rfl, ?_⟩
      conv => whnf
      have hfl := filt_len (onB fs day) i
      conv => whnf
      refine ⟨Pln.lim (by show (natsV ((List.range i).filter (onB fs day))).length + 1 ≤ _; omega), ?_⟩
      -- Z3:TT
      conv => whnf
      refine ⟨⟨102, [30, 31], []⟩, ?_⟩
      conv => whnf
      rw [hw, filt_T q]
      exact hZ1 (i + 1) (by omega) (by omega)
    · skip
      have q : onB fs day i = false := h5
      -- Z3:TF
      conv => whnf
      refine ⟨⟨102, [30, 31], []⟩, ?_⟩
      conv => whnf
      rw [hw, filt_F q]
      exact hZ1 (i + 1) (by omega) (by omega)
  · skip
    have hge : i = fs.length := by have := of_decide_eq_false h3; omega
    -- R:F
    conv => whnf
    rw [hge, onL_filter]

theorem op52 : Opens PR 52 := ⟨_, Tryd.func52, rfl, rfl⟩

theorem c39 (gl : Gl) (ts : List ByteArray) (fs : Fms) (ss : Sgs) (hL : LensJ ts fs ss) : PCalls PR gl 39 [.agg [strsV ts, fmsV fs, sgsV ss]] fun r => r = .tup [vI (standR ts fs ss).1, vL (standR ts fs ss).2.1, vI (standR ts fs ss).2.2] := by
  refine fnW_sound (par_ok gl) Tryd.func39 ?_
  conv => whnf
  refine byC (c17 gl ts fs ss hL) op17 ?_
  rcases Classical.em (chE ts fs ss = 0) with hk | hk
  · skip
    have hv := (chk_valid.1 hk).job
    have h8 := hv.n8
    have hR : standR ts fs ss = ((bestD fs 60 : Int), natsV (onL fs (bestD fs 60)), 0) := by unfold standR; rw [if_neg (fun h => h hk)]
    conv => whnf
    refine bcase_iff.2 ⟨fun h2 => ?_, fun h2 => ?_⟩
    · skip
      exfalso
      have g : (chE ts fs ss != 0) = true := h2
      rw [hk] at g; cases g --done
    · skip
      conv => whnf
      refine loop_q fun Q1 hQ1 => ?_
      refine ⟨⟨770, [3], [3]⟩, ?_⟩
      refine LoopW_ind _ (fun s9 : Nat × Nat => match s9 with | (d, b) => (({ tmps := [.undef, .own 1 [], .undef, .undef, .undef, .undef, .undef, .undef, vI b, vI (d + 1 : Nat), .undef, .undef, .undef, .undef, .undef, .undef, .undef, .undef, .undef, .undef, .undef, .undef, .undef, .undef, .undef, .undef, .undef, .undef, .undef, .undef, .undef, .undef, .undef, .undef, .undef, .undef, .undef], seg := [(1, .cells [strsV ts, fmsV fs, sgsV ss])], up := [] } : St S))) (fun s9 : Nat × Nat => match s9 with | (d, b) => (d ≤ 60 ∧ b = bestD fs d)) (fun s9 : Nat × Nat => match s9 with | (d, b) => (60 - d)) () ?_ (0, 0) ⟨Nat.zero_le _, rfl⟩
      rintro ⟨d, b⟩ hinv Z1 hZ1
      dsimp only at hinv hZ1
      obtain ⟨hd, hb⟩ := hinv
      conv => whnf
      refine bcase_iff.2 ⟨fun h6 => ?_, fun h6 => ?_⟩
      · skip
        have hlt : d < 60 := by have := of_decide_eq_true h6; omega
        have hw : IntKind.i64.wrap (((d + 1 : Nat) : Int) + 1) = ((d + 1 + 1 : Nat) : Int) := wrap_nat (by omega)
        conv => whnf
        refine ⟨[0, 1, 4, 5, 2, 3, 6, 7, 8], [], [], [], ⟨137438953471, [], []⟩, by decide +kernel, ?_⟩
        conv => whnf
        refine byC (c52 gl ts fs ss (by omega) ((d + 1 : Nat) : Int)) op52 ?_
        conv => whnf
        refine byC (c52 gl ts fs ss (by omega) b) op52 ?_
        conv => whnf
        refine bcase_iff.2 ⟨fun h8x => ?_, fun h8x => ?_⟩
        · skip
          have q : (onL fs b).length < (onL fs ((d : Int) + 1)).length := by have g := of_decide_eq_true h8x; rw [natsV_length, natsV_length] at g; rw [show ((d + 1 : Nat) : Int) = (d : Int) + 1 by omega] at g; omega
          -- Z6:TT
          conv => whnf
          refine ⟨⟨770, [], []⟩, ?_⟩
          conv => whnf
          rw [hw]
          exact hZ1 (d + 1, d + 1) ⟨hlt, by show d + 1 = bestD fs (d + 1); rw [bestD, if_pos (by rw [← hb]; exact q)]⟩ (by dsimp only; omega)
        · skip
          have q : ¬ (onL fs b).length < (onL fs ((d : Int) + 1)).length := by have g := of_decide_eq_false h8x; rw [natsV_length, natsV_length] at g; rw [show ((d + 1 : Nat) : Int) = (d : Int) + 1 by omega] at g; omega
          -- Z6:TF
          conv => whnf
          refine ⟨⟨770, [], []⟩, ?_⟩
          conv => whnf
          rw [hw]
          exact hZ1 (d + 1, b) ⟨hlt, by show b = bestD fs (d + 1); rw [bestD, if_neg (by rw [← hb]; exact q)]; exact hb⟩ (by dsimp only; omega)
      · skip
        have hge : d = 60 := by have := of_decide_eq_false h6; omega
        conv => whnf
        refine (hQ1 _ _ _).mpr ?_
        conv => whnf
        refine byC (c52 gl ts fs ss (by omega) b) op52 ?_
        -- R:aFF
        conv => whnf
        rw [hR, hb, hge]
  · skip
    have hR : standR ts fs ss = (0, [], chE ts fs ss) := by unfold standR; rw [if_pos hk]
    conv => whnf
    refine bcase_iff.2 ⟨fun h2 => ?_, fun h2 => ?_⟩
    · skip
      -- R:bT
      conv => whnf
      rw [hR]
    · skip
      exfalso
      have g : (chE ts fs ss != 0) = false := h2
      exact hk (by simpa using g) --done

theorem op39 : Opens PR 39 := ⟨_, Tryd.func39, rfl, rfl⟩


theorem press_len9 {ts : List ByteArray} {fs : Fms} {ss : Sgs} : (pressR ts fs ss).1.length ≤ 9223372036854775807 := by
  unfold pressR
  by_cases hk : chE ts fs ss = 0
  · rw [if_neg (fun h => h hk)]
    have hv := (chk_valid.1 hk).job
    have h8 := hv.n8
    obtain ⟨x, u, hF⟩ := press_few hv.n0
    have := hF.way.len
    unfold pressJ
    rw [hF.eq, natsV_length]; dsimp only; omega
  · rw [if_pos hk]; simp
theorem stand_len9 {ts : List ByteArray} {fs : Fms} {ss : Sgs} : (standR ts fs ss).2.1.length ≤ 9223372036854775807 := by
  unfold standR
  by_cases hk : chE ts fs ss = 0
  · rw [if_neg (fun h => h hk)]
    have h8 := (chk_valid.1 hk).job.n8
    have := onL_len fs (bestD fs 60)
    rw [natsV_length]; omega
  · rw [if_pos hk]; simp

theorem c5 (ts : List ByteArray) (fs : List Fm) (ss : List Sg) (hL : LensJ ts fs ss) (tys : List Int) (hty : tys.length ≤ 9223372036854775807) (days : Int) : PCalls PR glT 5 [.agg [strsV ts, fmsV fs, sgsV ss], vL tys, vI days] fun r => r = vB true := by
  have hp9 := press_len9 (ts := ts) (fs := fs) (ss := ss)
  have hs9 := stand_len9 (ts := ts) (fs := fs) (ss := ss)
  refine fnW_sound (par_ok glT) Tryd.func5 ?_
  conv => whnf
  refine byC ((c34 ts fs ss hL tys hty days)) op34 ?_
  conv => whnf
  refine byC (c35 glT ts fs ss hL tys hty days) op35 ?_
  conv => whnf
  refine bcase_iff.2 ⟨fun g3_3 => ?_, fun g3_3 => ?_⟩
  · skip
    exact neqX g3_3 --done
  · skip
    conv => whnf
    refine bcase_iff.2 ⟨fun h3 => ?_, fun h3 => ?_⟩
    · skip
      exact neqX h3 --done
    · skip
      conv => whnf
      refine byC ((c36 ts fs ss hL)) op36 ?_
      conv => whnf
      refine byC (c37 glT ts fs ss hL) op37 ?_
      conv => whnf
      refine byC (c20 glT _ _ hp9) op20 ?_
      conv => whnf
      refine bcase_iff.2 ⟨fun g7_4 => ?_, fun g7_4 => ?_⟩
      · skip
        exact decX g7_4 --done
      · skip
        conv => whnf
        refine bcase_iff.2 ⟨fun g7_9 => ?_, fun g7_9 => ?_⟩
        · skip
          exact neqX g7_9 --done
        · skip
          conv => whnf
          refine bcase_iff.2 ⟨fun h7 => ?_, fun h7 => ?_⟩
          · skip
            exact neqX h7 --done
          · skip
            conv => whnf
            refine byC (c38 glT ts fs ss hL) op38 ?_
            conv => whnf
            refine byC (c39 glT ts fs ss hL) op39 ?_
            conv => whnf
            refine bcase_iff.2 ⟨fun g11_3 => ?_, fun g11_3 => ?_⟩
            · skip
              conv => whnf
              refine byC (c20 glT _ _ hs9) op20 ?_
              conv => whnf
              refine bcase_iff.2 ⟨fun g11_8 => ?_, fun g11_8 => ?_⟩
              · skip
                conv => whnf
                refine bcase_iff.2 ⟨fun g11_13 => ?_, fun g11_13 => ?_⟩
                · skip
                  conv => whnf
                  refine byC ((c27)) op27 ?_
                  -- R:FFFFFTTT
                  conv => whnf
                  rfl
                · skip
                  exact eqX g11_13 --done
              · skip
                exact decY g11_8 --done
            · skip
              exact eqX g11_3 --done

end Go.Ab.SkF
