/-
  THE SKELETON FAMILY, PART PM: checks, groups, clashes of the reference: plain.
  THE SKELETON FAMILY, PART RA: checks, groups, clashes: of the reference.
  THE SKELETON FAMILY, PART RB: groups and clashes: of the reference.
-/
import Derived.Test.YtfhippofplmpdaaDoorSkelG
namespace Go.Ab.SkF
open Go Go.Ab Go.Ab.Pln

/-- The error of a forme but its name. -/
def foN (f : Fm) : Int := if [f.2.1, f.2.2.1, f.2.2.2].any (outB 0 60) then 7 else if [f.2.2.1].any (outB f.2.1 f.2.2.2) then 2 else 0
theorem foN_7 {f : Fm} (h : [f.2.1, f.2.2.1, f.2.2.2].any (outB 0 60) = true) : foN f = 7 := by unfold foN; rw [if_pos h]
theorem foN_2 {f : Fm} (h : [f.2.1, f.2.2.1, f.2.2.2].any (outB 0 60) = false) (h' : [f.2.2.1].any (outB f.2.1 f.2.2.2) = true) : foN f = 2 := by unfold foN; rw [if_neg (by rw [h]; simp), if_pos h']
theorem foN_0 {f : Fm} (h : [f.2.1, f.2.2.1, f.2.2.2].any (outB 0 60) = false) (h' : [f.2.2.1].any (outB f.2.1 f.2.2.2) = false) : foN f = 0 := by unfold foN; rw [if_neg (by rw [h]; simp), if_neg (by rw [h']; simp)]
theorem in_out (x lo hi : Int) : (!inB x lo hi) = outB lo hi x := by
  unfold inB outB
  by_cases h1 : lo ≤ x <;> by_cases h2 : x ≤ hi <;> simp [h1, h2] <;> omega
/-- The names of formes. -/
abbrev namesF (fs : Fms) : List ByteArray := fs.map fun f => f.1
theorem foE_names (pre : Fms) (f : Fm) : foE pre f = if tyE (namesF pre) f.1 = 0 then foN f else tyE (namesF pre) f.1 := by
  unfold foE tyE foN
  rw [List.any_map, show (pre.any ((fun p => strEq p f.1) ∘ fun f => f.1)) = pre.any fun p => strEq p.1 f.1 from rfl]
  cases nameB f.1 <;> cases (pre.any fun p => strEq p.1 f.1) <;> simp

theorem chk_long {ts : List ByteArray} {fs : Fms} {ss : Sgs} (h : ts.length > 6) : chk ts fs ss = (1, 0, 3) := by unfold chk; rw [if_pos h]
theorem chk_type {ts : List ByteArray} {fs : Fms} {ss : Sgs} (h : ¬ ts.length > 6) {i : Nat} (hi : i < ts.length) (h0 : ∀ j, j < i → tyF ts j = 0) (he : tyF ts i ≠ 0) : chk ts fs ss = (1, (i : Int), tyF ts i) := by
  unfold chk; rw [if_neg h, firstR_at hi h0 he, if_pos he]
theorem chk_2 {ts : List ByteArray} {fs : Fms} {ss : Sgs} (h : ¬ ts.length > 6) (h0 : ∀ j, j < ts.length → tyF ts j = 0) : chk ts fs ss = chk2 ts.length fs ss := by
  unfold chk; rw [if_neg h, firstR_no h0, if_neg (by simp)]
theorem chk2_long {nt : Nat} {fs : Fms} {ss : Sgs} (h : [(fs.length : Int)].any (outB 1 7) = true) : chk2 nt fs ss = (2, 0, 3) := by unfold chk2; rw [if_pos h]
theorem chk2_forme {nt : Nat} {fs : Fms} {ss : Sgs} (h : [(fs.length : Int)].any (outB 1 7) = false) {i : Nat} (hi : i < fs.length) (h0 : ∀ j, j < i → foF fs j = 0) (he : foF fs i ≠ 0) : chk2 nt fs ss = (2, (i : Int), foF fs i) := by
  unfold chk2; rw [if_neg (by rw [h]; simp), firstR_at hi h0 he, if_pos he]
theorem chk2_3 {nt : Nat} {fs : Fms} {ss : Sgs} (h : [(fs.length : Int)].any (outB 1 7) = false) (h0 : ∀ j, j < fs.length → foF fs j = 0) : chk2 nt fs ss = chk3 nt fs.length ss := by
  unfold chk2; rw [if_neg (by rw [h]; simp), firstR_no h0, if_neg (by simp)]
theorem chk3_long {nt n : Nat} {ss : Sgs} (h : ss.length > 12) : chk3 nt n ss = (3, 0, 3) := by unfold chk3; rw [if_pos h]
theorem chk3_sight {nt n : Nat} {ss : Sgs} (h : ¬ ss.length > 12) {i : Nat} (hi : i < ss.length) (h0 : ∀ j, j < i → siF n nt ss j = 0) (he : siF n nt ss i ≠ 0) : chk3 nt n ss = (3, (i : Int), siF n nt ss i) := by
  unfold chk3; rw [if_neg h, firstR_at hi h0 he, if_pos he]
theorem chk3_ok {nt n : Nat} {ss : Sgs} (h : ¬ ss.length > 12) (h0 : ∀ j, j < ss.length → siF n nt ss j = 0) : chk3 nt n ss = (0, 0, 0) := by
  unfold chk3; rw [if_neg h, firstR_no h0, if_neg (by simp)]

/-! ### Sightings -/
def seenB (ss : Sgs) (f t : Int) : Bool := ss.any fun s => s.1 == f && s.2.1 == t
theorem seenB_iff (ss : Sgs) (f t : Nat) : seenB ss f t = true ↔ seenP ss f t := by
  unfold seenB seenP
  rw [List.any_eq_true]
  simp
def comB (nt : Nat) (ss : Sgs) (a b : Int) : Bool := (List.range nt).any fun t => seenB ss a t && seenB ss b t
theorem comB_iff {n nt : Nat} {ss : Sgs} (h : SsOk n nt ss) (a b : Nat) : comB nt ss a b = true ↔ comP ss a b := by
  rw [← comT_full h]
  unfold comB comT
  rw [List.any_eq_true]
  simp [seenB_iff]
/-- The groups, as rounds give them. -/
abbrev comR (nt : Nat) (ss : Sgs) : Rel := fun a b => comB nt ss a b
def rndU (c : Rel) (n r : Nat) : List Nat := (List.range r).foldl (fun o _ => joinRound c n o) (List.range n)
def rowU (c : Rel) (n : Nat) (o : List Nat) (a : Nat) : List Nat := (List.range a).foldl (joinRow c n) o
def stpU (c : Rel) (a : Nat) (o : List Nat) (b : Nat) : List Nat := (List.range b).foldl (joinStep c a) o
theorem rndU_succ (c : Rel) (n r : Nat) : rndU c n (r + 1) = rowU c n (rndU c n r) n := by unfold rndU rowU; rw [List.range_succ, List.foldl_append]; rfl
theorem rowU_succ (c : Rel) (n : Nat) (o : List Nat) (a : Nat) : rowU c n o (a + 1) = stpU c a (rowU c n o a) n := by unfold rowU stpU; rw [List.range_succ, List.foldl_append]; rfl
theorem stpU_succ (c : Rel) (a : Nat) (o : List Nat) (b : Nat) : stpU c a o (b + 1) = joinStep c a (stpU c a o b) b := by unfold stpU; rw [List.range_succ, List.foldl_append]; rfl
theorem stpU_len (c : Rel) (a : Nat) (o : List Nat) (b : Nat) : (stpU c a o b).length = o.length := (fold_le (step_le c a) _ _).1
theorem rowU_len (c : Rel) (n : Nat) (o : List Nat) (a : Nat) : (rowU c n o a).length = o.length := (fold_le (row_le c n) _ _).1
theorem rndU_len (c : Rel) (n r : Nat) : (rndU c n r).length = n := by
  have : Le (rndU c n r) (List.range n) := fold_le (f := fun o _ => joinRound c n o) (fun o _ => round_le c n o) _ _
  rw [this.1, List.length_range]
theorem rndU_all (c : Rel) (n : Nat) : rndU c n n = joinL c n := rfl
theorem join_lab {n nt : Nat} {ss : Sgs} (hn : n ≤ 8) (h : SsOk n 6 ss) (h' : SsOk n nt ss) : joinL (comR nt ss) n = (List.range n).map (lab n ss) := joinL_lab hn h fun a b _ _ => comB_iff h' a b
theorem min_int (a b : Nat) : (if (b : Int) < (a : Int) then (b : Int) else (a : Int)) = ((min a b : Nat) : Int) := by
  split <;> omega
theorem step_T {c : Rel} {a b : Nat} {o : List Nat} (h : c a b = true) : joinStep c a o b = o.set a (min (o.getD a 0) (o.getD b 0)) := by unfold joinStep; rw [if_pos h]
theorem step_F {c : Rel} {a b : Nat} {o : List Nat} (h : c a b = false) : joinStep c a o b = o := by unfold joinStep; rw [if_neg (by rw [h]; simp)]

/-! ### The first two formes that clash -/
def labL (n : Nat) (ss : Sgs) : List Nat := (List.range n).map (lab n ss)
theorem labL_len (n : Nat) (ss : Sgs) : (labL n ss).length = n := by simp [labL]
theorem labL_get {n i : Nat} {ss : Sgs} (h : i < n) : (labL n ss).getD i 0 = lab n ss i := by simp [labL, List.getD_eq_getElem?_getD, h]
def firV (fs : Fms) (ss : Sgs) : Int × Int := match clashJ fs ss with
  | some (a, b) => ((a : Int), (b : Int))
  | none => (-1, -1)
/-- Do two formes clash, as the reference has it? -/
def cl2 (fs : Fms) (ss : Sgs) (i k : Nat) : Bool := lab fs.length ss i == lab fs.length ss k && stB (fs.getD i f0) (fs.getD k f0)
theorem cl2_iff {fs : Fms} {ss : Sgs} (h8 : fs.length ≤ 8) (hs : SsOk fs.length 6 ss) {i k : Nat} (hi : i < fs.length) (hk : k < fs.length) (hne : i ≠ k) : cl2 fs ss i k = (grpB fs.length ss i k && stN fs i k) := by
  unfold cl2 stN
  rw [lab_grp h8 hs hi hk, show (i != k) = true by simpa using hne, Bool.true_and]
theorem cl2_symm (fs : Fms) (ss : Sgs) (i k : Nat) : cl2 fs ss i k = cl2 fs ss k i := by
  have e : ∀ a b : Nat, (a == b) = (b == a) := fun a b => by rw [Bool.eq_iff_iff, beq_iff_eq, beq_iff_eq]; exact ⟨Eq.symm, Eq.symm⟩
  unfold cl2; rw [stB_symm (fs.getD i f0), e (lab fs.length ss i)]
theorem fir_at {fs : Fms} {ss : Sgs} (h8 : fs.length ≤ 8) (hs : SsOk fs.length 6 ss) {i k : Nat} (hik : i < k) (hk : k < fs.length) (hc : cl2 fs ss i k = true) (h1 : ∀ a, a < i → ∀ b, a < b → b < fs.length → cl2 fs ss a b = false) (h2 : ∀ b, i < b → b < k → cl2 fs ss i b = false) : clashJ fs ss = some (i, k) := by
  have hi : i < fs.length := by omega
  have hno : ∀ a b, a < fs.length → b < fs.length → a ≠ b → cl2 fs ss a b = false → grpB fs.length ss a b = true → stN fs a b = true → False := fun a b ha hb hne h hg hm => by
    rw [cl2_iff h8 hs ha hb hne, hg, hm] at h; cases h
  have hcc := hc
  rw [cl2_iff h8 hs hi hk (by omega), Bool.and_eq_true] at hcc
  unfold clashJ
  refine clash_at hi hk hcc.1 hcc.2 (fun a b ha hb hg hm => ?_) fun b hb hg hm => ?_
  · have hne := stN_self hm
    rcases Nat.lt_or_ge a b with hab | hab
    · exact hno a b (by omega) hb hne (h1 a ha b hab hb) hg hm
    · exact hno a b (by omega) hb hne (by rw [cl2_symm]; exact h1 b (by omega) a (by omega) (by omega)) hg hm
  · have hne := stN_self hm
    rcases Nat.lt_or_ge i b with hib | hib
    · exact hno i b hi (by omega) hne (h2 b hib hb) hg hm
    · exact hno i b hi (by omega) hne (by rw [cl2_symm]; exact h1 b (by omega) i (by omega) hi) hg hm
theorem fir_no {fs : Fms} {ss : Sgs} (h8 : fs.length ≤ 8) (hs : SsOk fs.length 6 ss) (h1 : ∀ a, a < fs.length → ∀ b, a < b → b < fs.length → cl2 fs ss a b = false) : clashJ fs ss = none := by
  unfold clashJ
  rw [clash_none]
  intro i k hi hk hg hm
  have hne := stN_self hm
  have hc : cl2 fs ss i k = true := by rw [cl2_iff h8 hs hi hk hne, hg, hm]; rfl
  rcases Nat.lt_or_ge i k with hik | hik
  · rw [h1 i hi k hik hk] at hc; cases hc
  · rw [cl2_symm, h1 k hk i (by omega) hi] at hc; cases hc
end Go.Ab.SkF

namespace Go.Ab.SkF
open Go Go.Ab Go.Ab.Pln Go.Proofs
set_option maxHeartbeats 1000000
set_option maxRecDepth 100000

theorem names_snoc {fs : Fms} {k : Nat} (h : k < fs.length) : namesF (fs.take k) ++ [fs[k].1] = namesF (fs.take (k + 1)) := by
  rw [take_snoc h]
  show (fs.take k).map (fun f => f.1) ++ [fs[k]].map (fun f => f.1) = _
  rw [← List.map_append]

theorem c69 (gl : Gl) (f : Fm) : PCalls PR gl 69 [.agg [.str f.1, vI f.2.1, vI f.2.2.1, vI f.2.2.2]] fun r => r = vI (foN f) := by
  refine fnW_sound (par_ok gl) Tryd.func69 ?_
  conv => whnf
  refine byC (c68 gl _ _ _) op68 ?_
  conv => whnf
  refine bcase_iff.2 ⟨fun g1_4 => ?_, fun g1_4 => ?_⟩
  · skip
    have qg1_4 : outB 0 60 f.2.1 = true := by have g : (!inB f.2.1 0 60) = true := g1_4; rw [in_out] at g; exact g
    -- R:T
    conv => whnf
    rw [foN_7 (by simp only [List.any_cons, qg1_4, Bool.true_or])]
  · skip
    have qg1_4 : outB 0 60 f.2.1 = false := by have g : (!inB f.2.1 0 60) = false := g1_4; rw [in_out] at g; exact g
    conv => whnf
    refine byC (c68 gl _ _ _) op68 ?_
    conv => whnf
    refine bcase_iff.2 ⟨fun g1_10 => ?_, fun g1_10 => ?_⟩
    · skip
      have qg1_10 : outB 0 60 f.2.2.1 = true := by have g : (!inB f.2.2.1 0 60) = true := g1_10; rw [in_out] at g; exact g
      -- R:FT
      conv => whnf
      rw [foN_7 (by simp only [List.any_cons, qg1_10, Bool.true_or, Bool.or_true])]
    · skip
      have qg1_10 : outB 0 60 f.2.2.1 = false := by have g : (!inB f.2.2.1 0 60) = false := g1_10; rw [in_out] at g; exact g
      conv => whnf
      refine byC (c68 gl _ _ _) op68 ?_
      conv => whnf
      refine bcase_iff.2 ⟨fun h1 => ?_, fun h1 => ?_⟩
      · skip
        have qh1 : outB 0 60 f.2.2.2 = true := by have g : (!inB f.2.2.2 0 60) = true := h1; rw [in_out] at g; exact g
        -- R:FFT
        conv => whnf
        rw [foN_7 (by simp only [List.any_cons, qh1, Bool.true_or, Bool.or_true])]
      · skip
        have qh1 : outB 0 60 f.2.2.2 = false := by have g : (!inB f.2.2.2 0 60) = false := h1; rw [in_out] at g; exact g
        conv => whnf
        refine bcase_iff.2 ⟨fun g3_5 => ?_, fun g3_5 => ?_⟩
        · skip
          have q : [f.2.1, f.2.2.1, f.2.2.2].any (outB 0 60) = false := by simp only [List.any_cons, List.any_nil, qg1_4, qg1_10, qh1, Bool.or_false]
          have g := of_decide_eq_true g3_5
          -- R:FFFT
          conv => whnf
          rw [foN_2 q (by simp [outB]; omega)]
        · skip
          have q : [f.2.1, f.2.2.1, f.2.2.2].any (outB 0 60) = false := by simp only [List.any_cons, List.any_nil, qg1_4, qg1_10, qh1, Bool.or_false]
          conv => whnf
          refine bcase_iff.2 ⟨fun h3 => ?_, fun h3 => ?_⟩
          · skip
            have g := of_decide_eq_true h3
            -- R:FFFFT
            conv => whnf
            rw [foN_2 q (by simp [outB]; omega)]
          · skip
            have g := of_decide_eq_false h3
            have g2 := of_decide_eq_false g3_5
            -- R:FFFFF
            conv => whnf
            rw [foN_0 q (by simp [outB]; omega)]

theorem op69 : Opens PR 69 := ⟨_, Tryd.func69, rfl, rfl⟩

theorem c70 (gl : Gl) (ts : List ByteArray) (fs : Fms) (ss : Sgs) (hf : fs.length ≤ 9223372036854775807) (ht : ts.length ≤ 9223372036854775807) (hs : ss.length ≤ 9223372036854775807) (i : Nat) (hi : i < ss.length) : PCalls PR gl 70 [.agg [strsV ts, fmsV fs, sgsV ss], vI i] fun r => r = vI (siF fs.length ts.length ss i) := by
  have w1 : IntKind.i64.wrap ((fs.length : Int) - 1) = (fs.length : Int) - 1 := wrap_int (by omega) (by omega)
  have w2 : IntKind.i64.wrap ((ts.length : Int) - 1) = (ts.length : Int) - 1 := wrap_int (by omega) (by omega)
  have hg : ss.getD i s0 = ss[i] := getD_at hi
  unfold siF
  rw [hg]
  refine fnW_sound (par_ok gl) Tryd.func70 ?_
  conv => whnf
  refine ⟨_, getI_nat hi, ?_⟩
  conv => whnf
  refine byC (c68 gl _ _ _) op68 ?_
  conv => whnf
  refine bcase_iff.2 ⟨fun g2_8 => ?_, fun g2_8 => ?_⟩
  · skip
    have q1 : outB 0 ((fs.length : Int) - 1) ss[i].1 = true := by have g : (!inB ss[i].1 0 (IntKind.i64.wrap ((fs.length : Int) - 1))) = true := g2_8; rw [w1, in_out] at g; exact g
    -- R:T
    conv => whnf
    unfold siE
    rw [if_pos (by simp only [List.any_cons, q1, Bool.true_or])]
  · skip
    have q1 : outB 0 ((fs.length : Int) - 1) ss[i].1 = false := by have g : (!inB ss[i].1 0 (IntKind.i64.wrap ((fs.length : Int) - 1))) = false := g2_8; rw [w1, in_out] at g; exact g
    conv => whnf
    refine byC (c68 gl _ _ _) op68 ?_
    conv => whnf
    refine bcase_iff.2 ⟨fun h2 => ?_, fun h2 => ?_⟩
    · skip
      have q2 : outB 0 ((ts.length : Int) - 1) ss[i].2.1 = true := by have g : (!inB ss[i].2.1 0 (IntKind.i64.wrap ((ts.length : Int) - 1))) = true := h2; rw [w2, in_out] at g; exact g
      -- R:FT
      conv => whnf
      unfold siE
      rw [if_pos (by simp only [List.any_cons, q2, Bool.true_or, Bool.or_true])]
    · skip
      have q2 : outB 0 ((ts.length : Int) - 1) ss[i].2.1 = false := by have g : (!inB ss[i].2.1 0 (IntKind.i64.wrap ((ts.length : Int) - 1))) = false := h2; rw [w2, in_out] at g; exact g
      unfold siE
      rw [if_neg (by simp only [List.any_cons, List.any_nil, q1, q2, Bool.or_false]; decide)]
      conv => whnf
      refine byC (c68 gl _ _ _) op68 ?_
      conv => whnf
      refine bcase_iff.2 ⟨fun h4 => ?_, fun h4 => ?_⟩
      · skip
        have q3 : outB 0 2 ss[i].2.2 = true := by have g : (!inB ss[i].2.2 0 2) = true := h4; rw [in_out] at g; exact g
        -- R:FFT
        conv => whnf
        rw [if_pos (by simp only [List.any_cons, q3, Bool.true_or])]
      · skip
        have q3 : outB 0 2 ss[i].2.2 = false := by have g : (!inB ss[i].2.2 0 2) = false := h4; rw [in_out] at g; exact g
        rw [if_neg (by simp only [List.any_cons, List.any_nil, q3, Bool.or_false]; decide)]
        conv => whnf
        refine ⟨⟨102, [], []⟩, ?_⟩
        refine LoopW_ind _ (fun k : Nat => (({ tmps := [.undef, vI i, .own 2 [], .undef, .undef, .own 5 [], vI k, .undef, .undef, .undef, .undef, .undef, .undef, .undef, .undef, .undef, .undef, .undef, .undef, .undef, .undef, .undef, .undef, .undef, .undef, .undef, .undef, .undef, .undef, .undef, .undef, .undef, .undef, .undef, .undef, .undef, .undef, .undef, .undef, .undef, .undef, .undef, .undef, .undef, .undef, .undef, .undef, .undef, .undef, .undef, .undef, .undef, .undef, .undef, .undef, .undef, .undef, .undef, .undef], seg := [(2, .cells [strsV ts, fmsV fs, sgsV ss]), (5, .cells [vI ss[i].1, vI ss[i].2.1, vI ss[i].2.2])], up := [] } : St S))) (fun k : Nat => (k ≤ i ∧ ∀ j, (hj : j < k) → ∀ hl : j < ss.length, (ss[j].1 == ss[i].1 && ss[j].2.1 == ss[i].2.1) = false)) (fun k : Nat => (i - k)) () ?_ 0 ⟨Nat.zero_le _, fun j h => absurd h (Nat.not_lt_zero j)⟩
        intro k hinv Z1 hZ1
        obtain ⟨hk, hn⟩ := hinv
        conv => whnf
        refine bcase_iff.2 ⟨fun h7 => ?_, fun h7 => ?_⟩
        · skip
          have hlt : k < i := by have := of_decide_eq_true h7; omega
          have hw : IntKind.i64.wrap ((k : Int) + 1) = ((k + 1 : Nat) : Int) := wrap_nat (by omega)
          have hks : k < ss.length := by omega
          conv => whnf
          refine ⟨[0, 1, 2, 3, 4, 5, 6, 7, 8, 9, 10, 11, 12, 13, 14, 15, 16, 17, 18, 19], [], [], [], ⟨576460752303423487, [], []⟩, by decide +kernel, ?_⟩
          conv => whnf
          refine ⟨_, getI_nat hks, ?_⟩
          conv => whnf
          refine bcase_iff.2 ⟨fun g9_9 => ?_, fun g9_9 => ?_⟩
          · skip
            have q4 : (ss[k].1 == ss[i].1) = true := g9_9
            conv => whnf
            refine ⟨_, getI_nat hks, ?_⟩
            conv => whnf
            refine bcase_iff.2 ⟨fun h9 => ?_, fun h9 => ?_⟩
            · skip
              have q5 : (ss[k].2.1 == ss[i].2.1) = true := h9
              -- R:FFFTTT
              conv => whnf
              rw [if_pos (List.any_eq_true.2 ⟨ss[k], List.mem_take_iff_getElem.2 ⟨k, by omega, rfl⟩, by rw [q4, q5]; rfl⟩)]
            · skip
              have q5 : (ss[k].2.1 == ss[i].2.1) = false := h9
              -- Z7:TTF
              conv => whnf
              refine ⟨⟨102, [], []⟩, ?_⟩
              conv => whnf
              rw [hw]
              exact hZ1 (k + 1) ⟨by omega, fun j hj hl => by
                rcases Nat.lt_or_ge j k with h | h
                · exact hn j h hl
                · obtain rfl : j = k := by omega
                  rw [q5, Bool.and_false]⟩ (by omega)
          · skip
            have q4 : (ss[k].1 == ss[i].1) = false := g9_9
            -- Z7:TF
            conv => whnf
            refine ⟨⟨102, [], []⟩, ?_⟩
            conv => whnf
            rw [hw]
            exact hZ1 (k + 1) ⟨by omega, fun j hj hl => by
              rcases Nat.lt_or_ge j k with h | h
              · exact hn j h hl
              · obtain rfl : j = k := by omega
                rw [q4, Bool.false_and]⟩ (by omega)
        · skip
          have hge : k = i := by have := of_decide_eq_false h7; omega
          -- R:FFFF
          conv => whnf
          rw [if_neg (fun h => by
            obtain ⟨y, hy, he⟩ := List.any_eq_true.1 h
            obtain ⟨j, hj, rfl⟩ := List.mem_take_iff_getElem.1 hy
            rw [hn j (by omega) (by omega)] at he; cases he)]

theorem op70 : Opens PR 70 := ⟨_, Tryd.func70, rfl, rfl⟩

theorem c17 (gl : Gl) (ts : List ByteArray) (fs : Fms) (ss : Sgs) (hL : LensJ ts fs ss) : PCalls PR gl 17 [.agg [strsV ts, fmsV fs, sgsV ss]] fun r => r = .tup [vI (chk ts fs ss).1, vI (chk ts fs ss).2.1, vI (chk ts fs ss).2.2] := by
  have h1t := hL.t
  have h1f := hL.f
  have h1s := hL.s
  refine fnW_sound (par_ok gl) Tryd.func17 ?_
  conv => whnf
  refine bcase_iff.2 ⟨fun h1 => ?_, fun h1 => ?_⟩
  · skip
    have h1 : ts.length > 6 := by have := of_decide_eq_true h1; omega
    -- R:T
    conv => whnf
    rw [chk_long h1]
  · skip
    have h1 : ¬ ts.length > 6 := by have := of_decide_eq_false h1; omega
    conv => whnf
    refine ⟨⟨34, [], []⟩, ?_⟩
    refine LoopW_ind _ (fun i : Nat => (({ tmps := [.undef, .own 1 [], .undef, .undef, .undef, vI i, .undef, .undef, .undef, .undef, .undef, .undef, .undef, .undef, .undef, .undef, .undef, .undef, .undef, .undef, .undef, .undef, .undef, .undef, .undef, .undef, .undef, .undef, .undef, .undef, .undef, .undef, .undef, .undef, .undef, .undef, .undef, .undef, .undef, .undef, .undef, .undef, .undef, .undef, .undef, .undef, .undef, .undef, .undef, .undef, .undef, .undef, .undef, .undef, .undef, .undef, .undef, .undef, .undef, .undef, .undef, .undef, .undef, .undef, .undef, .undef, .undef, .undef, .undef, .undef, .undef, .undef, .undef, .undef, .undef, .undef, .undef, .undef, .undef, .undef, .undef, .undef, .undef, .undef, .undef, .undef, .undef, .undef, .undef, .undef, .undef, .undef, .undef, .undef, .undef, .undef], seg := [(1, .cells [strsV ts, fmsV fs, sgsV ss])], up := [] } : St S))) (fun i : Nat => (i ≤ ts.length ∧ ∀ j, j < i → tyF ts j = 0)) (fun i : Nat => (ts.length - i)) () ?_ 0 ⟨Nat.zero_le _, fun j h => absurd h (Nat.not_lt_zero j)⟩
    intro i hinv Z1 hZ1
    obtain ⟨hi, hd⟩ := hinv
    conv => whnf
    refine bcase_iff.2 ⟨fun h4 => ?_, fun h4 => ?_⟩
    · skip
      have hlt : i < ts.length := by have := of_decide_eq_true h4; omega
      have hw : IntKind.i64.wrap ((i : Int) + 1) = ((i + 1 : Nat) : Int) := wrap_nat (by omega)
      conv => whnf
      refine ⟨[0, 1, 2, 3, 4, 5, 6, 7, 8, 9, 10], [], [], [], ⟨79228162514264337593543950335, [], []⟩, by decide +kernel, ?_⟩
      conv => whnf
      refine ⟨_, getI_nat hlt, ?_⟩
      conv => whnf
      refine ⟨by omega, ?_⟩
      conv => whnf
      refine ⟨by omega, by simp <;> omega, ?_⟩
      conv => whnf
      have hty : freE ts[i] (ts.take i) = tyF ts i := by unfold tyF; rw [getD_at hlt]; rfl
      conv => whnf
      have h67 : PCalls PR gl 67 [.str ts[i], strsV (ts.take i)] fun r => r = vI (tyF ts i) := by have h := c67 gl ts[i] (hL.tn _ (List.getElem_mem hlt)) (ts.take i) (by rw [List.length_take]; omega); rw [hty] at h; exact h
      conv => whnf
      refine byC h67 op67 ?_
      conv => whnf
      refine bcase_iff.2 ⟨fun h7 => ?_, fun h7 => ?_⟩
      · skip
        have h7 : tyF ts i ≠ 0 := by have g : (tyF ts i != 0) = true := h7; simpa using g
        -- R:FTT
        conv => whnf
        rw [chk_type h1 hlt hd h7]
      · skip
        have h7 : tyF ts i = 0 := by have g : (tyF ts i != 0) = false := h7; simpa using g
        -- Z4:TF
        conv => whnf
        refine ⟨⟨34, [], []⟩, ?_⟩
        conv => whnf
        rw [hw]
        exact hZ1 (i + 1) ⟨hlt, up_succ hd h7⟩ (by omega)
    · skip
      have hge : i = ts.length := by have := of_decide_eq_false h4; omega
      have hC2 := chk_2 (fs := fs) (ss := ss) h1 (by rw [← hge]; exact hd)
      clear hd hi h4 hZ1
      conv => whnf
      refine byC (c68 gl _ _ _) op68 ?_
      conv => whnf
      refine bcase_iff.2 ⟨fun h9 => ?_, fun h9 => ?_⟩
      · skip
        have h9 : [(fs.length : Int)].any (outB 1 7) = true := by have g : (!inB (fs.length : Int) 1 7) = true := h9; rw [in_out] at g; simpa using g
        -- R:FFT
        conv => whnf
        rw [hC2, chk2_long h9]
      · skip
        have h9 : [(fs.length : Int)].any (outB 1 7) = false := by have g : (!inB (fs.length : Int) 1 7) = false := h9; rw [in_out] at g; simpa using g
        have h9n := (out1 _ _ _).1 h9
        conv => whnf
        refine ⟨⟨386, [], [7]⟩, ?_⟩
        refine LoopW_ind _ (fun s9 : Nat × List ByteArray => match s9 with | (k, nm) => (({ tmps := [.undef, .own 1 [], .undef, .undef, .undef, .undef, .undef, .sl (S := S) U.str nm (some 7), vI k, .undef, .undef, .undef, .undef, .undef, .undef, .undef, .undef, .undef, .undef, .undef, .undef, .undef, .undef, .undef, .undef, .undef, .undef, .undef, .undef, .undef, .undef, .undef, .undef, .undef, .undef, .undef, .undef, .undef, .undef, .undef, .undef, .undef, .undef, .undef, .undef, .undef, .undef, .undef, .undef, .undef, .undef, .undef, .undef, .undef, .undef, .undef, .undef, .undef, .undef, .undef, .undef, .undef, .undef, .undef, .undef, .undef, .undef, .undef, .undef, .undef, .undef, .undef, .undef, .undef, .undef, .undef, .undef, .undef, .undef, .undef, .undef, .undef, .undef, .undef, .undef, .undef, .undef, .undef, .undef, .undef, .undef, .undef, .undef, .undef, .undef, .undef], seg := [(1, .cells [strsV ts, fmsV fs, sgsV ss]), (7, .row U.str false)], up := [] } : St S))) (fun s9 : Nat × List ByteArray => match s9 with | (k, nm) => (k ≤ fs.length ∧ nm = namesF (fs.take k) ∧ ∀ j, j < k → foF fs j = 0)) (fun s9 : Nat × List ByteArray => match s9 with | (k, nm) => (fs.length - k)) () ?_ (0, _) ⟨Nat.zero_le _, rfl, fun j h => absurd h (Nat.not_lt_zero j)⟩
        rintro ⟨k, nm⟩ hinv Z2 hZ2
        dsimp only at hinv hZ2
        obtain ⟨hk, hnm, hd⟩ := hinv
        conv => whnf
        refine bcase_iff.2 ⟨fun h13 => ?_, fun h13 => ?_⟩
        · skip
          have hltk : k < fs.length := by have := of_decide_eq_true h13; omega
          have hwk : IntKind.i64.wrap ((k : Int) + 1) = ((k + 1 : Nat) : Int) := wrap_nat (by omega)
          conv => whnf
          refine ⟨_, getI_nat hltk, ?_⟩
          conv => whnf
          have hnl : nm.length ≤ 9223372036854775807 := by rw [hnm]; simp; omega
          conv => whnf
          refine byC (c67 gl fs[k].1 (hL.fn _ (List.getElem_mem hltk)) nm hnl) op67 ?_
          conv => whnf
          have hff : foF fs k = if freE fs[k].1 nm = 0 then foN fs[k] else freE fs[k].1 nm := by unfold foF; rw [getD_at hltk, foE_names, hnm]; rfl
          conv => whnf
          refine bcase_iff.2 ⟨fun h16 => ?_, fun h16 => ?_⟩
          · skip
            have h16 : freE fs[k].1 nm = 0 := by have g : (freE fs[k].1 nm == 0) = true := h16; simpa using g
            rw [if_pos h16] at hff
            conv => whnf
            refine ⟨_, getI_nat hltk, ?_⟩
            conv => whnf
            refine byC (c69 gl fs[k]) op69 ?_
            conv => whnf
            refine bcase_iff.2 ⟨fun h18 => ?_, fun h18 => ?_⟩
            · skip
              have h18 : foF fs k ≠ 0 := by have g : (foN fs[k] != 0) = true := h18; rw [hff]; simpa using g
              -- R:FFFTTT
              conv => whnf
              rw [hC2, chk2_forme h9 hltk hd h18, hff]
            · skip
              have h18 : foF fs k = 0 := by have g : (foN fs[k] != 0) = false := h18; rw [hff]; simpa using g
              conv => whnf
              refine ⟨_, getI_nat hltk, ?_⟩
              conv => whnf
              refine ⟨_, rfl, ?_⟩
              conv => whnf
              refine ⟨lim (by rw [hnm]; simp; omega), ?_⟩
              -- Z13:TTF
              conv => whnf
              refine ⟨⟨386, [76, 77], []⟩, ?_⟩
              conv => whnf
              rw [hwk]
              exact hZ2 (k + 1, _) ⟨hltk, by rw [hnm]; exact names_snoc hltk, up_succ hd h18⟩ (by dsimp only; omega)
          · skip
            have h16 : freE fs[k].1 nm ≠ 0 := by have g : (freE fs[k].1 nm == 0) = false := h16; simpa using g
            rw [if_neg h16] at hff
            conv => whnf
            refine bcase_iff.2 ⟨fun h18 => ?_, fun h18 => ?_⟩
            · skip
              have h18 : foF fs k ≠ 0 := by rw [hff]; exact h16
              -- R:FFFTFT
              conv => whnf
              rw [hC2, chk2_forme h9 hltk hd h18, hff]
            · skip
              exfalso
              have g : (freE fs[k].1 nm != 0) = false := h18
              exact h16 (by simpa using g) --done
        · skip
          have hgek : k = fs.length := by have := of_decide_eq_false h13; omega
          have hC3 := chk2_3 (nt := ts.length) (ss := ss) h9 (by rw [← hgek]; exact hd)
          clear hd hk h13 hZ2
          conv => whnf
          refine bcase_iff.2 ⟨fun h21 => ?_, fun h21 => ?_⟩
          · skip
            have h21 : ss.length > 12 := by have := of_decide_eq_true h21; omega
            -- R:FFFFT
            conv => whnf
            rw [hC2, hC3, chk3_long h21]
          · skip
            have h21 : ¬ ss.length > 12 := by have := of_decide_eq_false h21; omega
            conv => whnf
            refine ⟨⟨1026, [7], []⟩, ?_⟩
            refine LoopW_ind _ (fun q : Nat => (({ tmps := [.undef, .own 1 [], .undef, .undef, .undef, .undef, .undef, .undef, .undef, .undef, vI q, .undef, .undef, .undef, .undef, .undef, .undef, .undef, .undef, .undef, .undef, .undef, .undef, .undef, .undef, .undef, .undef, .undef, .undef, .undef, .undef, .undef, .undef, .undef, .undef, .undef, .undef, .undef, .undef, .undef, .undef, .undef, .undef, .undef, .undef, .undef, .undef, .undef, .undef, .undef, .undef, .undef, .undef, .undef, .undef, .undef, .undef, .undef, .undef, .undef, .undef, .undef, .undef, .undef, .undef, .undef, .undef, .undef, .undef, .undef, .undef, .undef, .undef, .undef, .undef, .undef, .undef, .undef, .undef, .undef, .undef, .undef, .undef, .undef, .undef, .undef, .undef, .undef, .undef, .undef, .undef, .undef, .undef, .undef, .undef, .undef], seg := [(1, .cells [strsV ts, fmsV fs, sgsV ss])], up := [] } : St S))) (fun q : Nat => (q ≤ ss.length ∧ ∀ j, j < q → siF fs.length ts.length ss j = 0)) (fun q : Nat => (ss.length - q)) () ?_ 0 ⟨Nat.zero_le _, fun j h => absurd h (Nat.not_lt_zero j)⟩
            intro q hinv Z3 hZ3
            obtain ⟨hq, hd⟩ := hinv
            conv => whnf
            refine bcase_iff.2 ⟨fun h24 => ?_, fun h24 => ?_⟩
            · skip
              have hltq : q < ss.length := by have := of_decide_eq_true h24; omega
              have hwq : IntKind.i64.wrap ((q : Int) + 1) = ((q + 1 : Nat) : Int) := wrap_nat (by omega)
              conv => whnf
              refine byC (c70 gl ts fs ss h1f h1t h1s q hltq) op70 ?_
              conv => whnf
              refine bcase_iff.2 ⟨fun h27 => ?_, fun h27 => ?_⟩
              · skip
                have h27 : siF fs.length ts.length ss q ≠ 0 := by have g : (siF fs.length ts.length ss q != 0) = true := h27; simpa using g
                -- R:FFFFFTT
                conv => whnf
                rw [hC2, hC3, chk3_sight h21 hltq hd h27]
              · skip
                have h27 : siF fs.length ts.length ss q = 0 := by have g : (siF fs.length ts.length ss q != 0) = false := h27; simpa using g
                -- Z24:TF
                conv => whnf
                refine ⟨⟨1026, [], []⟩, ?_⟩
                conv => whnf
                rw [hwq]
                exact hZ3 (q + 1) ⟨hltq, up_succ hd h27⟩ (by omega)
            · skip
              have hgeq : q = ss.length := by have := of_decide_eq_false h24; omega
              -- R:FFFFFF
              conv => whnf
              rw [hC2, hC3, chk3_ok h21 (by rw [← hgeq]; exact hd)]

theorem op17 : Opens PR 17 := ⟨_, Tryd.func17, rfl, rfl⟩

theorem c47 (gl : Gl) (p q : Fm) : PCalls PR gl 47 [.agg [.str p.1, vI p.2.1, vI p.2.2.1, vI p.2.2.2], .agg [.str q.1, vI q.2.1, vI q.2.2.1, vI q.2.2.2]] fun r => r = vB (stB p q) := by
  refine fnW_sound (par_ok gl) Tryd.func47 ?_
  conv => whnf
  refine bcase_iff.2 ⟨fun g1_5 => ?_, fun g1_5 => ?_⟩
  · skip
    have g : decide (p.2.1 ≤ q.2.2.2) = true := g1_5
    -- R:T
    conv => whnf
    show vB (decide (q.2.1 ≤ p.2.2.2)) = _
    unfold stB
    rw [g, Bool.true_and]
  · skip
    have g : decide (p.2.1 ≤ q.2.2.2) = false := g1_5
    -- R:F
    conv => whnf
    unfold stB
    rw [g, Bool.false_and]

theorem op47 : Opens PR 47 := ⟨_, Tryd.func47, rfl, rfl⟩

theorem c53 (gl : Gl) (p q : Fm) : PCalls PR gl 53 [.agg [.str p.1, vI p.2.1, vI p.2.2.1, vI p.2.2.2], .agg [.str q.1, vI q.2.1, vI q.2.2.1, vI q.2.2.2]] fun r => r = vB (prB p q) := by
  refine fnW_sound (par_ok gl) Tryd.func53 ?_
  conv => whnf
  refine bcase_iff.2 ⟨fun g1_5 => ?_, fun g1_5 => ?_⟩
  · skip
    have g : decide (p.2.2.1 ≤ q.2.2.2) = true := g1_5
    -- R:T
    conv => whnf
    show vB (decide (q.2.2.1 ≤ p.2.2.2)) = _
    unfold prB
    rw [g, Bool.true_and]
  · skip
    have g : decide (p.2.2.1 ≤ q.2.2.2) = false := g1_5
    -- R:F
    conv => whnf
    unfold prB
    rw [g, Bool.false_and]

theorem op53 : Opens PR 53 := ⟨_, Tryd.func53, rfl, rfl⟩

end Go.Ab.SkF

namespace Go.Ab.SkF
open Go Go.Ab Go.Ab.Pln Go.Proofs
set_option maxHeartbeats 1000000
set_option maxRecDepth 100000

theorem nset {l : List Nat} {a v : Nat} : (natsV l).set a ((v : Nat) : Int) = natsV (l.set a v) := by
  apply List.ext_getElem
  · simp [natsV]
  · intro i h1 h2
    simp only [natsV, List.getElem_set, List.getElem_map]
    split <;> rfl
/-- As 'par'; what others see may be forgotten where a loop begins anew, and rows of our own stay our own. -/
noncomputable abbrev parO (gl : Gl) : Par S Unit := { par gl with ow := true }
theorem parO_ok (gl : Gl) (En : Env Unit) : ParOk PR gl (parO gl) En :=
  have h := par_ok gl En
  ⟨h.ti, h.call, h.mono, h.wit, h.mix, h.fn, h.ucall, h.ufn, h.iter, h.ifn, h.cb, h.eqt, h.mi, h.ai⟩
theorem range_snoc (i : Nat) : natsV (List.range i) ++ [((i : Nat) : Int)] = natsV (List.range (i + 1)) := by rw [List.range_succ]; simp [natsV]

theorem any_upto {α : Type} {p : α → Bool} {xs : List α} {i : Nat} (h : i < xs.length) (hn : (xs.take i).any p = false) (hp : p xs[i] = false) : (xs.take (i + 1)).any p = false := by
  rw [take_snoc h, List.any_append, hn]; simp [hp]
theorem any_hit {α : Type} {p : α → Bool} {xs : List α} {i : Nat} (h : i < xs.length) (hp : p xs[i] = true) : xs.any p = true := List.any_eq_true.2 ⟨xs[i], List.getElem_mem h, hp⟩

theorem c122 (gl : Gl) (ts : List ByteArray) (fs : Fms) (ss : Sgs) (hs : ss.length ≤ 9223372036854775807) (f t : Int) : PCalls PR gl 122 [.agg [strsV ts, fmsV fs, sgsV ss], vI f, vI t] fun r => r = vB (seenB ss f t) := by
  refine fnW_sound (par_ok gl) Tryd.func122 ?_
  conv => whnf
  refine ⟨⟨142, [], []⟩, ?_⟩
  refine LoopW_ind _ (fun i : Nat => (({ tmps := [.undef, vI f, vI t, .own 3 [], .undef, .undef, .undef, vI i, .undef, .undef, .undef, .undef, .undef, .undef, .undef, .undef, .undef, .undef, .undef, .undef, .undef, .undef, .undef, .undef, .undef, .undef, .undef, .undef, .undef, .undef, .undef, .undef, .undef], seg := [(3, .cells [strsV ts, fmsV fs, sgsV ss])], up := [] } : St S))) (fun i : Nat => (i ≤ ss.length ∧ (ss.take i).any (fun s : Sg => s.1 == f && s.2.1 == t) = false)) (fun i : Nat => (ss.length - i)) () ?_ 0 ⟨Nat.zero_le _, rfl⟩
  intro i hinv Z1 hZ1
  obtain ⟨hi, hn⟩ := hinv
  conv => whnf
  refine bcase_iff.2 ⟨fun h2 => ?_, fun h2 => ?_⟩
  · skip
    have hlt : i < ss.length := by have := of_decide_eq_true h2; omega
    have hw : IntKind.i64.wrap ((i : Int) + 1) = ((i + 1 : Nat) : Int) := wrap_nat (by omega)
    conv => whnf
    refine ⟨_, getI_nat hlt, ?_⟩
    conv => whnf
    refine bcase_iff.2 ⟨fun g4_8 => ?_, fun g4_8 => ?_⟩
    · skip
      have q1 : (ss[i].1 == f) = true := g4_8
      conv => whnf
      refine ⟨_, getI_nat hlt, ?_⟩
      conv => whnf
      refine bcase_iff.2 ⟨fun h4 => ?_, fun h4 => ?_⟩
      · skip
        have q2 : (ss[i].2.1 == t) = true := h4
        -- R:TTT
        conv => whnf
        unfold seenB
        rw [any_hit hlt (by rw [q1, q2]; rfl)]
      · skip
        have q2 : (ss[i].2.1 == t) = false := h4
        -- Z2:TTF
        conv => whnf
        refine ⟨⟨142, [], []⟩, ?_⟩
        conv => whnf
        rw [hw]
        exact hZ1 (i + 1) ⟨hlt, any_upto hlt hn (by rw [q2, Bool.and_false])⟩ (by omega)
    · skip
      have q1 : (ss[i].1 == f) = false := g4_8
      -- Z2:TF
      conv => whnf
      refine ⟨⟨142, [], []⟩, ?_⟩
      conv => whnf
      rw [hw]
      exact hZ1 (i + 1) ⟨hlt, any_upto hlt hn (by rw [q1, Bool.false_and])⟩ (by omega)
  · skip
    have hge : i = ss.length := by have := of_decide_eq_false h2; omega
    -- R:F
    conv => whnf
    rw [hge, List.take_length] at hn
    unfold seenB
    rw [hn]

theorem op122 : Opens PR 122 := ⟨_, Tryd.func122, rfl, rfl⟩

theorem rany_succ {p : Nat → Bool} {i : Nat} (hn : (List.range i).any p = false) (hp : p i = false) : (List.range (i + 1)).any p = false := by
  rw [List.range_succ, List.any_append, hn]; simp [hp]
theorem rany_hit {p : Nat → Bool} {n i : Nat} (h : i < n) (hp : p i = true) : (List.range n).any p = true := List.any_eq_true.2 ⟨i, List.mem_range.2 h, hp⟩

theorem c109 (gl : Gl) (ts : List ByteArray) (fs : Fms) (ss : Sgs) (hs : ss.length ≤ 9223372036854775807) (ht : ts.length ≤ 9223372036854775807) (a b : Int) : PCalls PR gl 109 [.agg [strsV ts, fmsV fs, sgsV ss], vI a, vI b] fun r => r = vB (comB ts.length ss a b) := by
  refine fnW_sound (par_ok gl) Tryd.func109 ?_
  conv => whnf
  refine ⟨⟨142, [], []⟩, ?_⟩
  refine LoopW_ind _ (fun i : Nat => (({ tmps := [.undef, vI a, vI b, .own 3 [], .undef, .undef, .undef, vI i, .undef, .undef, .undef, .undef, .undef, .undef, .undef, .undef, .undef, .undef, .undef, .undef, .undef, .undef, .undef, .undef, .undef], seg := [(3, .cells [strsV ts, fmsV fs, sgsV ss])], up := [] } : St S))) (fun i : Nat => (i ≤ ts.length ∧ (List.range i).any (fun t : Nat => seenB ss a t && seenB ss b t) = false)) (fun i : Nat => (ts.length - i)) () ?_ 0 ⟨Nat.zero_le _, rfl⟩
  intro i hinv Z1 hZ1
  obtain ⟨hi, hn⟩ := hinv
  conv => whnf
  refine bcase_iff.2 ⟨fun h2 => ?_, fun h2 => ?_⟩
  · skip
    have hlt : i < ts.length := by have := of_decide_eq_true h2; omega
    have hw : IntKind.i64.wrap ((i : Int) + 1) = ((i + 1 : Nat) : Int) := wrap_nat (by omega)
    conv => whnf
    refine byC (c122 gl ts fs ss hs a i) op122 ?_
    conv => whnf
    refine bcase_iff.2 ⟨fun g4_4 => ?_, fun g4_4 => ?_⟩
    · skip
      have q1 : seenB ss a i = true := g4_4
      conv => whnf
      refine byC (c122 gl ts fs ss hs b i) op122 ?_
      conv => whnf
      refine bcase_iff.2 ⟨fun h4 => ?_, fun h4 => ?_⟩
      · skip
        have q2 : seenB ss b i = true := h4
        -- R:TTT
        conv => whnf
        unfold comB
        rw [rany_hit (p := (fun t : Nat => seenB ss a t && seenB ss b t)) hlt (by rw [q1, q2]; rfl)]
      · skip
        have q2 : seenB ss b i = false := h4
        -- Z2:TTF
        conv => whnf
        refine ⟨⟨142, [], []⟩, ?_⟩
        conv => whnf
        rw [hw]
        exact hZ1 (i + 1) ⟨hlt, rany_succ hn (by rw [q2, Bool.and_false])⟩ (by omega)
    · skip
      have q1 : seenB ss a i = false := g4_4
      -- Z2:TF
      conv => whnf
      refine ⟨⟨142, [], []⟩, ?_⟩
      conv => whnf
      rw [hw]
      exact hZ1 (i + 1) ⟨hlt, rany_succ hn (by rw [q1, Bool.false_and])⟩ (by omega)
  · skip
    have hge : i = ts.length := by have := of_decide_eq_false h2; omega
    -- R:F
    conv => whnf
    rw [hge] at hn
    unfold comB
    rw [hn]

theorem op109 : Opens PR 109 := ⟨_, Tryd.func109, rfl, rfl⟩

theorem c73 (gl : Gl) (ts : List ByteArray) (fs : Fms) (ss : Sgs) (h8 : fs.length ≤ 8) (hs : SsOk fs.length ts.length ss) (ht6 : ts.length ≤ 6) (hsl : ss.length ≤ 9223372036854775807) : PCalls PR gl 73 [.agg [strsV ts, fmsV fs, sgsV ss]] fun r => r = vL (natsV (labL fs.length ss)) := by
  have hs6 : SsOk fs.length 6 ss := ⟨hs.f, fun s h => by have := hs.t s h; omega⟩
  refine fnW_sound (parO_ok gl) Tryd.func73 ?_
  conv => whnf
  refine loop_q fun Q1 hQ1 => ?_
  refine ⟨⟨26, [2], [2]⟩, ?_⟩
  refine LoopW_ind _ (fun i : Nat => (({ tmps := [.undef, .own 1 [], .undef, .sl (S := S) U.int (natsV (List.range i)) (some 3), vI i, .undef, .undef, .undef, .undef, .undef, .undef, .undef, .undef, .undef, .undef, .undef, .undef, .undef, .undef, .undef, .undef, .undef, .undef, .undef, .undef, .undef, .undef, .undef, .undef, .undef, .undef, .undef, .undef, .undef, .undef, .undef, .undef, .undef, .undef, .undef, .undef, .undef, .undef, .undef, .undef, .undef, .undef, .undef, .undef, .undef, .undef, .undef, .undef, .undef, .undef, .undef, .undef], seg := [(1, .cells [strsV ts, fmsV fs, sgsV ss]), (3, .row U.int true)], up := [] } : St S))) (fun i : Nat => (i ≤ fs.length)) (fun i : Nat => (fs.length - i)) () ?_ 0 (Nat.zero_le _)
  intro i hi Z1 hZ1
  conv => whnf
  refine bcase_iff.2 ⟨fun h3 => ?_, fun h3 => ?_⟩
  · skip
    have hlt : i < fs.length := by have := of_decide_eq_true h3; omega
    have hw : IntKind.i64.wrap ((i : Int) + 1) = ((i + 1 : Nat) : Int) := wrap_nat (by omega)
    conv => whnf
    refine ⟨_, rfl, ?_⟩
    conv => whnf
    refine ⟨lim (by simp [natsV] <;> omega), ?_⟩
    -- Z3:T
    conv => whnf
    refine ⟨⟨26, [17, 18], []⟩, ?_⟩
    conv => whnf
    rw [hw, range_snoc]
    exact hZ1 (i + 1) hlt (by omega)
  · skip
    have hge : i = fs.length := by have := of_decide_eq_false h3; omega
    subst hge
    conv => whnf
    refine (hQ1 _ _ _).mpr ?_
    conv => whnf
    refine loop_q fun Q2 hQ2 => ?_
    refine ⟨⟨42, [], []⟩, ?_⟩
    refine LoopW_ind _ (fun r : Nat => (({ tmps := [.undef, .own 1 [], .undef, .sl (S := S) U.int (natsV (rndU (comR ts.length ss) fs.length r)) (some 3), .undef, vI r, .undef, .undef, .undef, .undef, .undef, .undef, .undef, .undef, .undef, .undef, .undef, .undef, .undef, .undef, .undef, .undef, .undef, .undef, .undef, .undef, .undef, .undef, .undef, .undef, .undef, .undef, .undef, .undef, .undef, .undef, .undef, .undef, .undef, .undef, .undef, .undef, .undef, .undef, .undef, .undef, .undef, .undef, .undef, .undef, .undef, .undef, .undef, .undef, .undef, .undef, .undef], seg := [(1, .cells [strsV ts, fmsV fs, sgsV ss]), (3, .row U.int true)], up := [] } : St S))) (fun r : Nat => (r ≤ fs.length)) (fun r : Nat => (fs.length - r)) () ?_ 0 (Nat.zero_le _)
    intro r hr Z2 hZ2
    conv => whnf
    refine bcase_iff.2 ⟨fun h7 => ?_, fun h7 => ?_⟩
    · skip
      have hltr : r < fs.length := by have := of_decide_eq_true h7; omega
      have hwr : IntKind.i64.wrap ((r : Int) + 1) = ((r + 1 : Nat) : Int) := wrap_nat (by omega)
      conv => whnf
      refine loop_q fun Q3 hQ3 => ?_
      refine ⟨⟨106, [], []⟩, ?_⟩
      refine LoopW_ind _ (fun a : Nat => (({ tmps := [.undef, .own 1 [], .undef, .sl (S := S) U.int (natsV (rowU (comR ts.length ss) fs.length (rndU (comR ts.length ss) fs.length r) a)) (some 3), .undef, vI r, vI a, .undef, .undef, .undef, .undef, .undef, .undef, .undef, .undef, .undef, .undef, .undef, .undef, .undef, .undef, .undef, .undef, .undef, .undef, .undef, .undef, .undef, .undef, .undef, .undef, .undef, .undef, .undef, .undef, .undef, .undef, .undef, .undef, .undef, .undef, .undef, .undef, .undef, .undef, .undef, .undef, .undef, .undef, .undef, .undef, .undef, .undef, .undef, .undef, .undef, .undef], seg := [(1, .cells [strsV ts, fmsV fs, sgsV ss]), (3, .row U.int true)], up := [] } : St S))) (fun a : Nat => (a ≤ fs.length)) (fun a : Nat => (fs.length - a)) () ?_ 0 (Nat.zero_le _)
      intro a ha Z3 hZ3
      conv => whnf
      refine bcase_iff.2 ⟨fun h10 => ?_, fun h10 => ?_⟩
      · skip
        have hlta : a < fs.length := by have := of_decide_eq_true h10; omega
        have hwa : IntKind.i64.wrap ((a : Int) + 1) = ((a + 1 : Nat) : Int) := wrap_nat (by omega)
        conv => whnf
        refine loop_q fun Q4 hQ4 => ?_
        refine ⟨⟨234, [], []⟩, ?_⟩
        refine LoopW_ind _ (fun b : Nat => (({ tmps := [.undef, .own 1 [], .undef, .sl (S := S) U.int (natsV (stpU (comR ts.length ss) a (rowU (comR ts.length ss) fs.length (rndU (comR ts.length ss) fs.length r) a) b)) (some 3), .undef, vI r, vI a, vI b, .undef, .undef, .undef, .undef, .undef, .undef, .undef, .undef, .undef, .undef, .undef, .undef, .undef, .undef, .undef, .undef, .undef, .undef, .undef, .undef, .undef, .undef, .undef, .undef, .undef, .undef, .undef, .undef, .undef, .undef, .undef, .undef, .undef, .undef, .undef, .undef, .undef, .undef, .undef, .undef, .undef, .undef, .undef, .undef, .undef, .undef, .undef, .undef, .undef], seg := [(1, .cells [strsV ts, fmsV fs, sgsV ss]), (3, .row U.int true)], up := [] } : St S))) (fun b : Nat => (b ≤ fs.length)) (fun b : Nat => (fs.length - b)) () ?_ 0 (Nat.zero_le _)
        intro b hb Z4 hZ4
        conv => whnf
        refine bcase_iff.2 ⟨fun h13 => ?_, fun h13 => ?_⟩
        · skip
          have hltb : b < fs.length := by have := of_decide_eq_true h13; omega
          have hwb : IntKind.i64.wrap ((b : Int) + 1) = ((b + 1 : Nat) : Int) := wrap_nat (by omega)
          conv => whnf
          refine byC (c109 gl ts fs ss hsl (by omega) a b) op109 ?_
          conv => whnf
          refine bcase_iff.2 ⟨fun h15 => ?_, fun h15 => ?_⟩
          · skip
            have q : (comR ts.length ss) a b = true := h15
            have hl : (stpU (comR ts.length ss) a (rowU (comR ts.length ss) fs.length (rndU (comR ts.length ss) fs.length r) a) b).length = fs.length := by rw [stpU_len, rowU_len, rndU_len]
            conv => whnf
            refine ⟨[0, 1, 2, 3, 4, 5, 6, 7, 8, 9, 10, 11, 12], [4, 5, 8, 9, 11, 600046, 1000050], [4, 5, 8, 9, 11], [], ⟨144115188075855871, [], []⟩, by decide +kernel, ?_⟩
            conv => whnf
            refine ⟨_, getI_natsD (l := (stpU (comR ts.length ss) a (rowU (comR ts.length ss) fs.length (rndU (comR ts.length ss) fs.length r) a) b)) (by omega), ?_⟩
            conv => whnf
            refine ⟨_, getI_natsD (l := (stpU (comR ts.length ss) a (rowU (comR ts.length ss) fs.length (rndU (comR ts.length ss) fs.length r) a) b)) (by omega), ?_⟩
            conv => whnf
            refine ⟨_, getI_natsD (l := (stpU (comR ts.length ss) a (rowU (comR ts.length ss) fs.length (rndU (comR ts.length ss) fs.length r) a) b)) (by omega), ?_⟩
            conv => whnf
            refine ⟨_, getI_natsD (l := (stpU (comR ts.length ss) a (rowU (comR ts.length ss) fs.length (rndU (comR ts.length ss) fs.length r) a) b)) (by omega), ?_⟩
            conv => whnf
            refine ⟨_, getI_natsD (l := (stpU (comR ts.length ss) a (rowU (comR ts.length ss) fs.length (rndU (comR ts.length ss) fs.length r) a) b)) (by omega), ?_⟩
            conv => whnf
            refine ⟨_, rfl, ?_⟩
            -- Z13:TT
            conv => whnf
            refine ⟨⟨234, [], []⟩, ?_⟩
            conv => whnf
            rw [hwb, min_int]
            have hz := hZ4 (b + 1) hltb (by omega)
            rw [stpU_succ, step_T q, ← nset] at hz
            exact hz
          · skip
            have q : (comR ts.length ss) a b = false := h15
            -- Z13:TF
            conv => whnf
            refine ⟨⟨234, [], []⟩, ?_⟩
            conv => whnf
            rw [hwb]
            have hz := hZ4 (b + 1) hltb (by omega)
            rw [stpU_succ, step_F q] at hz
            exact hz
        · skip
          have hgeb : b = fs.length := by have := of_decide_eq_false h13; omega
          subst hgeb
          conv => whnf
          refine (hQ4 _ _ _).mpr ?_
          -- Z10:TF
          conv => whnf
          refine ⟨⟨106, [], []⟩, ?_⟩
          conv => whnf
          rw [hwa, ← rowU_succ]
          exact hZ3 (a + 1) hlta (by omega)
      · skip
        have hgea : a = fs.length := by have := of_decide_eq_false h10; omega
        subst hgea
        conv => whnf
        refine (hQ3 _ _ _).mpr ?_
        -- Z7:TF
        conv => whnf
        refine ⟨⟨42, [], []⟩, ?_⟩
        conv => whnf
        rw [hwr, ← rndU_succ]
        exact hZ2 (r + 1) hltr (by omega)
    · skip
      have hger : r = fs.length := by have := of_decide_eq_false h7; omega
      conv => whnf
      refine (hQ2 _ _ _).mpr ?_
      -- R:FF
      conv => whnf
      rw [hger, rndU_all, join_lab h8 hs6 hs]; rfl

theorem op73 : Opens PR 73 := ⟨_, Tryd.func73, rfl, rfl⟩

theorem c75 (gl : Gl) (ts : List ByteArray) (fs : Fms) (ss : Sgs) (h8 : fs.length ≤ 8) (hs : SsOk fs.length ts.length ss) (ht6 : ts.length ≤ 6) (hsl : ss.length ≤ 9223372036854775807) : PCalls PR gl 75 [.agg [strsV ts, fmsV fs, sgsV ss]] fun r => r = .tup [vI (firV fs ss).1, vI (firV fs ss).2] := by
  have hs6 : SsOk fs.length 6 ss := ⟨hs.f, fun s h => by have := hs.t s h; omega⟩
  have hll := labL_len fs.length ss
  refine fnW_sound (par_ok gl) Tryd.func75 ?_
  conv => whnf
  refine byC (c73 gl ts fs ss h8 hs ht6 hsl) op73 ?_
  conv => whnf
  refine loop_q fun Q1 hQ1 => ?_
  refine ⟨⟨50, [], []⟩, ?_⟩
  refine LoopW_ind _ (fun i : Nat => (({ tmps := [.undef, .own 1 [], .undef, .undef, vL (natsV (labL fs.length ss)), vI i, .undef, .undef, .undef, .undef, .undef, .undef, .undef, .undef, .undef, .undef, .undef, .undef, .undef, .undef, .undef, .undef, .undef, .undef, .undef, .undef, .undef, .undef, .undef, .undef, .undef, .undef, .undef, .undef, .undef, .undef, .undef, .undef, .undef, .undef, .undef, .undef, .undef, .undef, .undef, .undef, .undef], seg := [(1, .cells [strsV ts, fmsV fs, sgsV ss])], up := [] } : St S))) (fun i : Nat => (i ≤ fs.length ∧ ∀ a, a < i → ∀ b, a < b → b < fs.length → cl2 fs ss a b = false)) (fun i : Nat => (fs.length - i)) () ?_ 0 ⟨Nat.zero_le _, fun j h => absurd h (Nat.not_lt_zero j)⟩
  intro i hinv Z1 hZ1
  obtain ⟨hi, hn⟩ := hinv
  conv => whnf
  refine bcase_iff.2 ⟨fun h3 => ?_, fun h3 => ?_⟩
  · skip
    have hlt : i < fs.length := by have := of_decide_eq_true h3; rw [natsV_length, hll] at this; omega
    have hw : IntKind.i64.wrap ((i : Int) + 1) = ((i + 1 : Nat) : Int) := wrap_nat (by omega)
    conv => whnf
    rw [hw]
    refine loop_q fun Q2 hQ2 => ?_
    refine ⟨⟨114, [], []⟩, ?_⟩
    refine LoopW_ind _ (fun k : Nat => (({ tmps := [.undef, .own 1 [], .undef, .undef, vL (natsV (labL fs.length ss)), vI i, vI k, .undef, .undef, .undef, .undef, .undef, .undef, .undef, .undef, .undef, .undef, .undef, .undef, .undef, .undef, .undef, .undef, .undef, .undef, .undef, .undef, .undef, .undef, .undef, .undef, .undef, .undef, .undef, .undef, .undef, .undef, .undef, .undef, .undef, .undef, .undef, .undef, .undef, .undef, .undef, .undef], seg := [(1, .cells [strsV ts, fmsV fs, sgsV ss])], up := [] } : St S))) (fun k : Nat => (i < k ∧ k ≤ fs.length ∧ ∀ b, i < b → b < k → cl2 fs ss i b = false)) (fun k : Nat => (fs.length - k)) () ?_ (i + 1) ⟨Nat.lt_succ_self i, hlt, fun b h1 h2 => by omega⟩
    intro k hinv Z2 hZ2
    obtain ⟨hik, hk, hm⟩ := hinv
    conv => whnf
    refine bcase_iff.2 ⟨fun h6 => ?_, fun h6 => ?_⟩
    · skip
      have hltk : k < fs.length := by have := of_decide_eq_true h6; rw [natsV_length, hll] at this; omega
      have hwk : IntKind.i64.wrap ((k : Int) + 1) = ((k + 1 : Nat) : Int) := wrap_nat (by omega)
      have hgi : fs.getD i f0 = fs[i] := getD_at hlt
      have hgk : fs.getD k f0 = fs[k] := getD_at hltk
      conv => whnf
      refine ⟨[0, 1, 2, 3, 4, 5, 6, 7, 8, 9, 10, 11, 12, 13, 14, 15, 16, 17, 18, 19, 20, 21], [], [], [], ⟨140737488355327, [], []⟩, by decide +kernel, ?_⟩
      conv => whnf
      refine ⟨_, getI_natsD (by rw [hll]; omega), ?_⟩
      conv => whnf
      refine ⟨_, getI_natsD (by rw [hll]; omega), ?_⟩
      conv => whnf
      refine bcase_iff.2 ⟨fun g8_9 => ?_, fun g8_9 => ?_⟩
      · skip
        have q1 : (lab fs.length ss i == lab fs.length ss k) = true := by have g : ((((labL fs.length ss).getD i 0 : Nat) : Int) == (((labL fs.length ss).getD k 0 : Nat) : Int)) = true := g8_9; rw [eqN, labL_get hlt, labL_get hltk] at g; exact g
        conv => whnf
        refine ⟨_, getI_nat hlt, ?_⟩
        conv => whnf
        refine ⟨_, getI_nat hltk, ?_⟩
        conv => whnf
        refine byC (c47 gl fs[i] fs[k]) op47 ?_
        conv => whnf
        refine bcase_iff.2 ⟨fun h88 => ?_, fun h88 => ?_⟩
        · skip
          have hc : cl2 fs ss i k = true := by unfold cl2; rw [q1, hgi, hgk, Bool.true_and]; exact h88
          conv => whnf
          refine (hQ2 _ _ _).mpr ?_
          conv => whnf
          refine (hQ1 _ _ _).mpr ?_
          -- R:TTTT
          conv => whnf
          unfold firV
          rw [fir_at h8 hs6 hik hltk hc hn hm]
        · skip
          have hc : cl2 fs ss i k = false := by unfold cl2; rw [q1, hgi, hgk, Bool.true_and]; exact h88
          -- Z6:TTF
          conv => whnf
          refine ⟨⟨114, [], []⟩, ?_⟩
          conv => whnf
          rw [hwk]
          exact hZ2 (k + 1) ⟨by omega, hltk, fun b h1 h2 => by
            rcases Nat.lt_or_ge b k with h | h
            · exact hm b h1 h
            · obtain rfl : b = k := by omega
              exact hc⟩ (by omega)
      · skip
        have q1 : (lab fs.length ss i == lab fs.length ss k) = false := by have g : ((((labL fs.length ss).getD i 0 : Nat) : Int) == (((labL fs.length ss).getD k 0 : Nat) : Int)) = false := g8_9; rw [eqN, labL_get hlt, labL_get hltk] at g; exact g
        have hc : cl2 fs ss i k = false := by unfold cl2; rw [q1, Bool.false_and]
        -- Z6:TF
        conv => whnf
        refine ⟨⟨114, [], []⟩, ?_⟩
        conv => whnf
        rw [hwk]
        exact hZ2 (k + 1) ⟨by omega, hltk, fun b h1 h2 => by
          rcases Nat.lt_or_ge b k with h | h
          · exact hm b h1 h
          · obtain rfl : b = k := by omega
            exact hc⟩ (by omega)
    · skip
      have hgek : k = fs.length := by have := of_decide_eq_false h6; rw [natsV_length, hll] at this; omega
      conv => whnf
      refine (hQ2 _ _ _).mpr ?_
      -- Z3:TF
      conv => whnf
      refine ⟨⟨50, [], []⟩, ?_⟩
      conv => whnf
      rw [hw]
      exact hZ1 (i + 1) ⟨hlt, up_succ hn (by rw [← hgek]; exact hm)⟩ (by omega)
  · skip
    have hge : i = fs.length := by have := of_decide_eq_false h3; rw [natsV_length, hll] at this; omega
    conv => whnf
    refine (hQ1 _ _ _).mpr ?_
    -- R:F
    conv => whnf
    unfold firV
    rw [fir_no h8 hs6 (by rw [hge] at hn; exact hn)]

theorem op75 : Opens PR 75 := ⟨_, Tryd.func75, rfl, rfl⟩

end Go.Ab.SkF
