/-
  THE SKELETON FAMILY, PART PM: checks, groups, clashes of the reference: plain.
  THE SKELETON FAMILY, PART RA: checks, groups, clashes: of the reference.
  THE SKELETON FAMILY, PART RB: groups and clashes: of the reference.
-/
import Derived.Test.YtfhippofplmpdaaDoorSkelG
namespace Go.Ab.SkF
open Go Go.Ab Go.Ab.Pln

/-- The error of a forme but its name. -/
def foN (f : Fm) : Int := if [f.2.1, f.2.2.1, f.2.2.2].any (outB 0 60) then 7 else if [f.2.2.1].any (outB f.2.1 f.2.2.2) then 2 else 0
theorem foN_7 {f : Fm} (h : [f.2.1, f.2.2.1, f.2.2.2].any (outB 0 60) = true) : foN f = 7 := by unfold foN; rw [if_pos h]
theorem foN_2 {f : Fm} (h : [f.2.1, f.2.2.1, f.2.2.2].any (outB 0 60) = false) (h' : [f.2.2.1].any (outB f.2.1 f.2.2.2) = true) : foN f = 2 := by unfold foN; rw [if_neg (by rw [h]; simp), if_pos h']
theorem foN_0 {f : Fm} (h : [f.2.1, f.2.2.1, f.2.2.2].any (outB 0 60) = false) (h' : [f.2.2.1].any (outB f.2.1 f.2.2.2) = false) : foN f = 0 := by unfold foN; rw [if_neg (by rw [h]; simp), if_neg (by rw [h']; simp)]
theorem in_out (x lo hi : Int) : (!inB x lo hi) = outB lo hi x := by
  unfold inB outB
  by_cases h1 : lo ≤ x <;> by_cases h2 : x ≤ hi <;> simp [h1, h2] <;> omega
/-- The names of formes. -/
abbrev namesF (fs : Fms) : List ByteArray := fs.map fun f => f.1
theorem foE_names (pre : Fms) (f : Fm) : foE pre f = if tyE (namesF pre) f.1 = 0 then foN f else tyE (namesF pre) f.1 := by
  unfold foE tyE foN
  rw [List.any_map, show (pre.any ((fun p => strEq p f.1) ∘ fun f => f.1)) = pre.any fun p => strEq p.1 f.1 from rfl]
  cases nameB f.1 <;> cases (pre.any fun p => strEq p.1 f.1) <;> simp

theorem chk_long {ts : List ByteArray} {fs : Fms} {ss : Sgs} (h : ts.length > 6) : chk ts fs ss = (1, 0, 3) := by unfold chk; rw [if_pos h]
theorem chk_type {ts : List ByteArray} {fs : Fms} {ss : Sgs} (h : ¬ ts.length > 6) {i : Nat} (hi : i < ts.length) (h0 : ∀ j, j < i → tyF ts j = 0) (he : tyF ts i ≠ 0) : chk ts fs ss = (1, (i : Int), tyF ts i) := by
  unfold chk; rw [if_neg h, firstR_at hi h0 he, if_pos he]
theorem chk_2 {ts : List ByteArray} {fs : Fms} {ss : Sgs} (h : ¬ ts.length > 6) (h0 : ∀ j, j < ts.length → tyF ts j = 0) : chk ts fs ss = chk2 ts.length fs ss := by
  unfold chk; rw [if_neg h, firstR_no h0, if_neg (by simp)]
theorem chk2_long {nt : Nat} {fs : Fms} {ss : Sgs} (h : [(fs.length : Int)].any (outB 1 7) = true) : chk2 nt fs ss = (2, 0, 3) := by unfold chk2; rw [if_pos h]
theorem chk2_forme {nt : Nat} {fs : Fms} {ss : Sgs} (h : [(fs.length : Int)].any (outB 1 7) = false) {i : Nat} (hi : i < fs.length) (h0 : ∀ j, j < i → foF fs j = 0) (he : foF fs i ≠ 0) : chk2 nt fs ss = (2, (i : Int), foF fs i) := by
  unfold chk2; rw [if_neg (by rw [h]; simp), firstR_at hi h0 he, if_pos he]
theorem chk2_3 {nt : Nat} {fs : Fms} {ss : Sgs} (h : [(fs.length : Int)].any (outB 1 7) = false) (h0 : ∀ j, j < fs.length → foF fs j = 0) : chk2 nt fs ss = chk3 nt fs.length ss := by
  unfold chk2; rw [if_neg (by rw [h]; simp), firstR_no h0, if_neg (by simp)]
theorem chk3_long {nt n : Nat} {ss : Sgs} (h : ss.length > 12) : chk3 nt n ss = (3, 0, 3) := by unfold chk3; rw [if_pos h]
theorem chk3_sight {nt n : Nat} {ss : Sgs} (h : ¬ ss.length > 12) {i : Nat} (hi : i < ss.length) (h0 : ∀ j, j < i → siF n nt ss j = 0) (he : siF n nt ss i ≠ 0) : chk3 nt n ss = (3, (i : Int), siF n nt ss i) := by
  unfold chk3; rw [if_neg h, firstR_at hi h0 he, if_pos he]
theorem chk3_ok {nt n : Nat} {ss : Sgs} (h : ¬ ss.length > 12) (h0 : ∀ j, j < ss.length → siF n nt ss j = 0) : chk3 nt n ss = (0, 0, 0) := by
  unfold chk3; rw [if_neg h, firstR_no h0, if_neg (by simp)]

/-! ### Sightings -/
def seenB (ss : Sgs) (f t : Int) : Bool := ss.any fun s => s.1 == f && s.2.1 == t
def comB (nt : Nat) (ss : Sgs) (a b : Int) : Bool := (List.range nt).any fun t => seenB ss a t && seenB ss b t
/-- The groups, as rounds give them. -/
abbrev comR (nt : Nat) (ss : Sgs) : Rel := fun a b => comB nt ss a b
def rndU (c : Rel) (n r : Nat) : List Nat := (List.range r).foldl (fun o _ => joinRound c n o) (List.range n)
def rowU (c : Rel) (n : Nat) (o : List Nat) (a : Nat) : List Nat := (List.range a).foldl (joinRow c n) o
def stpU (c : Rel) (a : Nat) (o : List Nat) (b : Nat) : List Nat := (List.range b).foldl (joinStep c a) o
/-! ### The first two formes that clash -/
def labL (n : Nat) (ss : Sgs) : List Nat := (List.range n).map (lab n ss)
theorem labL_len (n : Nat) (ss : Sgs) : (labL n ss).length = n := by simp [labL]
theorem labL_get {n i : Nat} {ss : Sgs} (h : i < n) : (labL n ss).getD i 0 = lab n ss i := by simp [labL, List.getD_eq_getElem?_getD, h]
def firV (fs : Fms) (ss : Sgs) : Int × Int := match clashJ fs ss with
  | some (a, b) => ((a : Int), (b : Int))
  | none => (-1, -1)
/-- Do two formes clash, as the reference has it? -/
def cl2 (fs : Fms) (ss : Sgs) (i k : Nat) : Bool := lab fs.length ss i == lab fs.length ss k && stB (fs.getD i f0) (fs.getD k f0)
end Go.Ab.SkF

namespace Go.Ab.SkF
open Go Go.Ab Go.Ab.Pln Go.Proofs
set_option maxHeartbeats 1000000
set_option maxRecDepth 100000

theorem names_snoc {fs : Fms} {k : Nat} (h : k < fs.length) : namesF (fs.take k) ++ [fs[k].1] = namesF (fs.take (k + 1)) := by
  rw [take_snoc h]
  show (fs.take k).map (fun f => f.1) ++ [fs[k]].map (fun f => f.1) = _
  rw [← List.map_append]

theorem c69 (gl : Gl) (f : Fm) : PCalls PR gl 69 [.agg [.str f.1, vI f.2.1, vI f.2.2.1, vI f.2.2.2]] fun r => r = vI (foN f) := by
  refine fnW_sound (par_ok gl) Tryd.func69 ?_
  conv => whnf
  refine byC (c68 gl _ _ _) op68 ?_
  conv => whnf
  refine bcase_iff.2 ⟨fun g1_4 => ?_, fun g1_4 => ?_⟩
  · skip
    have qg1_4 : outB 0 60 f.2.1 = true := by have g : (!inB f.2.1 0 60) = true := g1_4; rw [in_out] at g; exact g
    -- R:T
    conv => whnf
    rw [foN_7 (by simp only [List.any_cons, qg1_4, Bool.true_or])]
  · skip
    have qg1_4 : outB 0 60 f.2.1 = false := by have g : (!inB f.2.1 0 60) = false := g1_4; rw [in_out] at g; exact g
    conv => whnf
    refine byC (c68 gl _ _ _) op68 ?_
    conv => whnf
    refine bcase_iff.2 ⟨fun g1_10 => ?_, fun g1_10 => ?_⟩
    · skip
      have qg1_10 : outB 0 60 f.2.2.1 = true := by have g : (!inB f.2.2.1 0 60) = true := g1_10; rw [in_out] at g; exact g
      -- R:FT
      conv => whnf
      rw [foN_7 (by simp only [List.any_cons, qg1_10, Bool.true_or, Bool.or_true])]
    · skip
      have qg1_10 : outB 0 60 f.2.2.1 = false := by have g : (!inB f.2.2.1 0 60) = false := g1_10; rw [in_out] at g; exact g
      conv => whnf
      refine byC (c68 gl _ _ _) op68 ?_
      conv => whnf
      refine bcase_iff.2 ⟨fun h1 => ?_, fun h1 => ?_⟩
      · skip
        have qh1 : outB 0 60 f.2.2.2 = true := by have g : (!inB f.2.2.2 0 60) = true := h1; rw [in_out] at g; exact g
        -- R:FFT
        conv => whnf
        rw [foN_7 (by simp only [List.any_cons, qh1, Bool.true_or, Bool.or_true])]
      · skip
        have qh1 : outB 0 60 f.2.2.2 = false := by have g : (!inB f.2.2.2 0 60) = false := h1; rw [in_out] at g; exact g
        conv => whnf
        refine bcase_iff.2 ⟨fun g3_5 => ?_, fun g3_5 => ?_⟩
        · skip
          have q : [f.2.1, f.2.2.1, f.2.2.2].any (outB 0 60) = false := by simp only [List.any_cons, List.any_nil, qg1_4, qg1_10, qh1, Bool.or_false]
          have g := of_decide_eq_true g3_5
          -- R:FFFT
          conv => whnf
          rw [foN_2 q (by simp [outB]; omega)]
        · skip
          have q : [f.2.1, f.2.2.1, f.2.2.2].any (outB 0 60) = false := by simp only [List.any_cons, List.any_nil, qg1_4, qg1_10, qh1, Bool.or_false]
          conv => whnf
          refine bcase_iff.2 ⟨fun h3 => ?_, fun h3 => ?_⟩
          · skip
            have g := of_decide_eq_true h3
            -- R:FFFFT
            conv => whnf
            rw [foN_2 q (by simp [outB]; omega)]
          · skip
            have g := of_decide_eq_false h3
            have g2 := of_decide_eq_false g3_5
            -- R:FFFFF
            conv => whnf
            rw [foN_0 q (by simp [outB]; omega)]

theorem op69 : Opens PR 69 := ⟨_, Tryd.func69, rfl, rfl⟩

theorem c70 (gl : Gl) (ts : List ByteArray) (fs : Fms) (ss : Sgs) (hf : fs.length ≤ 9223372036854775807) (ht : ts.length ≤ 9223372036854775807) (hs : ss.length ≤ 9223372036854775807) (i : Nat) (hi : i < ss.length) : PCalls PR gl 70 [.agg [strsV ts, fmsV fs, sgsV ss], vI i] fun r => r = vI (siF fs.length ts.length ss i) := by
  have w1 : IntKind.i64.wrap ((fs.length : Int) - 1) = (fs.length : Int) - 1 := wrap_int (by omega) (by omega)
  have w2 : IntKind.i64.wrap ((ts.length : Int) - 1) = (ts.length : Int) - 1 := wrap_int (by omega) (by omega)
  have hg : ss.getD i s0 = ss[i] := getD_at hi
  unfold siF
  rw [hg]
  refine fnW_sound (par_ok gl) Tryd.func70 ?_
  conv => whnf
  refine ⟨_, getI_nat hi, ?_⟩
  conv => whnf
  refine byC (c68 gl _ _ _) op68 ?_
  conv => whnf
  refine bcase_iff.2 ⟨fun g2_8 => ?_, fun g2_8 => ?_⟩
  · skip
    have q1 : outB 0 ((fs.length : Int) - 1) ss[i].1 = true := by have g : (!inB ss[i].1 0 (IntKind.i64.wrap ((fs.length : Int) - 1))) = true := g2_8; rw [w1, in_out] at g; exact g
    -- R:T
    conv => whnf
    unfold siE
    rw [if_pos (by simp only [List.any_cons, q1, Bool.true_or])]
  · skip
    have q1 : outB 0 ((fs.length : Int) - 1) ss[i].1 = false := by have g : (!inB ss[i].1 0 (IntKind.i64.wrap ((fs.length : Int) - 1))) = false := g2_8; rw [w1, in_out] at g; exact g
    conv => whnf
    refine byC (c68 gl _ _ _) op68 ?_
    conv => whnf
    refine bcase_iff.2 ⟨fun h2 => ?_, fun h2 => ?_⟩
    · skip
      have q2 : outB 0 ((ts.length : Int) - 1) ss[i].2.1 = true := by have g : (!inB ss[i].2.1 0 (IntKind.i64.wrap ((ts.length : Int) - 1))) = true := h2; rw [w2, in_out] at g; exact g
      -- R:FT
      conv => whnf
      unfold siE
      rw [if_pos (by simp only [List.any_cons, q2, Bool.true_or, Bool.or_true])]
    · skip
      have q2 : outB 0 ((ts.length : Int) - 1) ss[i].2.1 = false := by have g : (!inB ss[i].2.1 0 (IntKind.i64.wrap ((ts.length : Int) - 1))) = false := h2; rw [w2, in_out] at g; exact g
      unfold siE
      rw [if_neg (by simp only [List.any_cons, List.any_nil, q1, q2, Bool.or_false]; decide)]
      conv => whnf
      refine byC (c68 gl _ _ _) op68 ?_
      conv => whnf
      refine bcase_iff.2 ⟨fun h4 => ?_, fun h4 => ?_⟩
      · skip
        have q3 : outB 0 2 ss[i].2.2 = true := by have g : (!inB ss[i].2.2 0 2) = true := h4; rw [in_out] at g; exact g
        -- R:FFT
        conv => whnf
        rw [if_pos (by simp only [List.any_cons, q3, Bool.true_or])]
      · skip
        have q3 : outB 0 2 ss[i].2.2 = false := by have g : (!inB ss[i].2.2 0 2) = false := h4; rw [in_out] at g; exact g
        rw [if_neg (by simp only [List.any_cons, List.any_nil, q3, Bool.or_false]; decide)]
        conv => whnf
        refine ⟨⟨102, [], []⟩, ?_⟩
        refine LoopW_ind _ (fun k : Nat => (({ tmps := [.undef, vI i, .own 2 [], .undef, .undef, .own 5 [], vI k, .undef, .undef, .undef, .undef, .undef, .undef, .undef, .undef, .undef, .undef, .undef, .undef, .undef, .undef, .undef, .undef, .undef, .undef, .undef, .undef, .undef, .undef, .undef, .undef, .undef, .undef, .undef, .undef, .undef, .undef, .undef, .undef, .undef, .undef, .undef, .undef, .undef, .undef, .undef, .undef, .undef, .undef, .undef, .undef, .undef, .undef, .undef, .undef, .undef, .undef, .undef, .undef], seg := [(2, .cells [strsV ts, fmsV fs, sgsV ss]), (5, .cells [vI ss[i].1, vI ss[i].2.1, vI ss[i].2.2])], up := [] } : St S))) (fun k : Nat => (k ≤ i ∧ ∀ j, (hj : j < k) → ∀ hl : j < ss.length, (ss[j].1 == ss[i].1 && ss[j].2.1 == ss[i].2.1) = false)) (fun k : Nat => (i - k)) () ?_ 0 ⟨Nat.zero_le _, fun j h => absurd h (Nat.not_lt_zero j)⟩
        intro k hinv Z1 hZ1
        obtain ⟨hk, hn⟩ := hinv
        conv => whnf
        refine bcase_iff.2 ⟨fun h7 => ?_, fun h7 => ?_⟩
        · skip
          have hlt : k < i := by have := of_decide_eq_true h7; omega
          have hw : IntKind.i64.wrap ((k : Int) + 1) = ((k + 1 : Nat) : Int) := wrap_nat (by omega)
          have hks : k < ss.length := by omega
          conv => whnf
          refine ⟨[0, 1, 2, 3, 4, 5, 6, 7, 8, 9, 10, 11, 12, 13, 14, 15, 16, 17, 18, 19], [], [], [], ⟨576460752303423487, [], []⟩, by decide +kernel, ?_⟩
          conv => whnf
          refine ⟨_, getI_nat hks, ?_⟩
          conv => whnf
          refine bcase_iff.2 ⟨fun g9_9 => ?_, fun g9_9 => ?_⟩
          · skip
            have q4 : (ss[k].1 == ss[i].1) = true := g9_9
            conv => whnf
            refine ⟨_, getI_nat hks, ?_⟩
            conv => whnf
            refine bcase_iff.2 ⟨fun h9 => ?_, fun h9 => ?_⟩
            · skip
              have q5 : (ss[k].2.1 == ss[i].2.1) = true := h9
              -- R:FFFTTT
              conv => whnf
              rw [if_pos (List.any_eq_true.2 ⟨ss[k], List.mem_take_iff_getElem.2 ⟨k, by omega, rfl⟩, by rw [q4, q5]; rfl⟩)]
            · skip
              have q5 : (ss[k].2.1 == ss[i].2.1) = false := h9
              -- Z7:TTF
              conv => whnf
              refine ⟨⟨102, [], []⟩, ?_⟩
              conv => whnf
              rw [hw]
              exact hZ1 (k + 1) ⟨by omega, fun j hj hl => by
                rcases Nat.lt_or_ge j k with h | h
                · exact hn j h hl
                · obtain rfl : j = k := by omega
                  rw [q5, Bool.and_false]⟩ (by omega)
          · skip
            have q4 : (ss[k].1 == ss[i].1) = false := g9_9
            -- Z7:TF
            conv => whnf
            refine ⟨⟨102, [], []⟩, ?_⟩
            conv => whnf
            rw [hw]
            exact hZ1 (k + 1) ⟨by omega, fun j hj hl => by
              rcases Nat.lt_or_ge j k with h | h
              · exact hn j h hl
              · obtain rfl : j = k := by omega
                rw [q4, Bool.false_and]⟩ (by omega)
        · skip
          have hge : k = i := by have := of_decide_eq_false h7; omega
          -- R:FFFF
          conv => whnf
          rw [if_neg (fun h => by
            obtain ⟨y, hy, he⟩ := List.any_eq_true.1 h
            obtain ⟨j, hj, rfl⟩ := List.mem_take_iff_getElem.1 hy
            rw [hn j (by omega) (by omega)] at he; cases he)]

theorem op70 : Opens PR 70 := ⟨_, Tryd.func70, rfl, rfl⟩

theorem c17 (gl : Gl) (ts : List ByteArray) (fs : Fms) (ss : Sgs) (hL : LensJ ts fs ss) : PCalls PR gl 17 [.agg [strsV ts, fmsV fs, sgsV ss]] fun r => r = .tup [vI (chk ts fs ss).1, vI (chk ts fs ss).2.1, vI (chk ts fs ss).2.2] := by
  have h1t := hL.t
  have h1f := hL.f
  have h1s := hL.s
  refine fnW_sound (par_ok gl) Tryd.func17 ?_
  conv => whnf
  refine bcase_iff.2 ⟨fun h1 => ?_, fun h1 => ?_⟩
  · skip
    have h1 : ts.length > 6 := by have := of_decide_eq_true h1; omega
    -- R:T
    conv => whnf
    rw [chk_long h1]
  · skip
    have h1 : ¬ ts.length > 6 := by have := of_decide_eq_false h1; omega
    conv => whnf
    refine ⟨⟨34, [], []⟩, ?_⟩
    refine LoopW_ind _ (fun i : Nat => (({ tmps := [.undef, .own 1 [], .undef, .undef, .undef, vI i, .undef, .undef, .undef, .undef, .undef, .undef, .undef, .undef, .undef, .undef, .undef, .undef, .undef, .undef, .undef, .undef, .undef, .undef, .undef, .undef, .undef, .undef, .undef, .undef, .undef, .undef, .undef, .undef, .undef, .undef, .undef, .undef, .undef, .undef, .undef, .undef, .undef, .undef, .undef, .undef, .undef, .undef, .undef, .undef, .undef, .undef, .undef, .undef, .undef, .undef, .undef, .undef, .undef, .undef, .undef, .undef, .undef, .undef, .undef, .undef, .undef, .undef, .undef, .undef, .undef, .undef, .undef, .undef, .undef, .undef, .undef, .undef, .undef, .undef, .undef, .undef, .undef, .undef, .undef, .undef, .undef, .undef, .undef, .undef, .undef, .undef, .undef, .undef, .undef, .undef], seg := [(1, .cells [strsV ts, fmsV fs, sgsV ss])], up := [] } : St S))) (fun i : Nat => (i ≤ ts.length ∧ ∀ j, j < i → tyF ts j = 0)) (fun i : Nat => (ts.length - i)) () ?_ 0 ⟨Nat.zero_le _, fun j h => absurd h (Nat.not_lt_zero j)⟩
    intro i hinv Z1 hZ1
    obtain ⟨hi, hd⟩ := hinv
    conv => whnf
    refine bcase_iff.2 ⟨fun h4 => ?_, fun h4 => ?_⟩
    · skip
      have hlt : i < ts.length := by have := of_decide_eq_true h4; omega
      have hw : IntKind.i64.wrap ((i : Int) + 1) = ((i + 1 : Nat) : Int) := wrap_nat (by omega)
      conv => whnf
      refine ⟨[0, 1, 2, 3, 4, 5, 6, 7, 8, 9, 10], [], [], [], ⟨79228162514264337593543950335, [], []⟩, by decide +kernel, ?_⟩
      conv => whnf
      refine ⟨_, getI_nat hlt, ?_⟩
      conv => whnf
      refine ⟨by omega, ?_⟩
      conv => whnf
      refine ⟨by omega, by simp <;> omega, ?_⟩
      conv => whnf
      have hty : freE ts[i] (ts.take i) = tyF ts i := by unfold tyF; rw [getD_at hlt]; rfl
      conv => whnf
      have h67 : PCalls PR gl 67 [.str ts[i], strsV (ts.take i)] fun r => r = vI (tyF ts i) := by have h := c67 gl ts[i] (hL.tn _ (List.getElem_mem hlt)) (ts.take i) (by rw [List.length_take]; omega); rw [hty] at h; exact h
      conv => whnf
      refine byC h67 op67 ?_
      conv => whnf
      refine bcase_iff.2 ⟨fun h7 => ?_, fun h7 => ?_⟩
      · skip
        have h7 : tyF ts i ≠ 0 := by have g : (tyF ts i != 0) = true := h7; simpa using g
        -- R:FTT
        conv => whnf
        rw [chk_type h1 hlt hd h7]
      · skip
        have h7 : tyF ts i = 0 := by have g : (tyF ts i != 0) = false := h7; simpa using g
        -- Z4:TF
        conv => whnf
        refine ⟨⟨34, [], []⟩, ?_⟩
        conv => whnf
        rw [hw]
        exact hZ1 (i + 1) ⟨hlt, up_succ hd h7⟩ (by omega)
    · skip
      have hge : i = ts.length := by have := of_decide_eq_false h4; omega
      have hC2 := chk_2 (fs := fs) (ss := ss) h1 (by rw [← hge]; exact hd)
      clear hd hi h4 hZ1
      conv => whnf
      refine byC (c68 gl _ _ _) op68 ?_
      conv => whnf
      refine bcase_iff.2 ⟨fun h9 => ?_, fun h9 => ?_⟩
      · skip
        have h9 : [(fs.length : Int)].any (outB 1 7) = true := by have g : (!inB (fs.length : Int) 1 7) = true := h9; rw [in_out] at g; simpa using g
        -- R:FFT
        conv => whnf
        rw [hC2, chk2_long h9]
      · skip
        have h9 : [(fs.length : Int)].any (outB 1 7) = false := by have g : (!inB (fs.length : Int) 1 7) = false := h9; rw [in_out] at g; simpa using g
        have h9n := (out1 _ _ _).1 h9
        conv => whnf
        refine ⟨⟨386, [], [7]⟩, ?_⟩
        refine LoopW_ind _ (fun s9 : Nat × List ByteArray => match s9 with | (k, nm) => (({ tmps := [.undef, .own 1 [], .undef, .undef, .undef, .undef, .undef, .sl (S := S) U.str nm (some 7), vI k, .undef, .undef, .undef, .undef, .undef, .undef, .undef, .undef, .undef, .undef, .undef, .undef, .undef, .undef, .undef, .undef, .undef, .undef, .undef, .undef, .undef, .undef, .undef, .undef, .undef, .undef, .undef, .undef, .undef, .undef, .undef, .undef, .undef, .undef, .undef, .undef, .undef, .undef, .undef, .undef, .undef, .undef, .undef, .undef, .undef, .undef, .undef, .undef, .undef, .undef, .undef, .undef, .undef, .undef, .undef, .undef, .undef, .undef, .undef, .undef, .undef, .undef, .undef, .undef, .undef, .undef, .undef, .undef, .undef, .undef, .undef, .undef, .undef, .undef, .undef, .undef, .undef, .undef, .undef, .undef, .undef, .undef, .undef, .undef, .undef, .undef, .undef], seg := [(1, .cells [strsV ts, fmsV fs, sgsV ss]), (7, .row U.str false)], up := [] } : St S))) (fun s9 : Nat × List ByteArray => match s9 with | (k, nm) => (k ≤ fs.length ∧ nm = namesF (fs.take k) ∧ ∀ j, j < k → foF fs j = 0)) (fun s9 : Nat × List ByteArray => match s9 with | (k, nm) => (fs.length - k)) () ?_ (0, _) ⟨Nat.zero_le _, rfl, fun j h => absurd h (Nat.not_lt_zero j)⟩
        rintro ⟨k, nm⟩ hinv Z2 hZ2
        dsimp only at hinv hZ2
        obtain ⟨hk, hnm, hd⟩ := hinv
        conv => whnf
        refine bcase_iff.2 ⟨fun h13 => ?_, fun h13 => ?_⟩
        · skip
          have hltk : k < fs.length := by have := of_decide_eq_true h13; omega
          have hwk : IntKind.i64.wrap ((k : Int) + 1) = ((k + 1 : Nat) : Int) := wrap_nat (by omega)
          conv => whnf
          refine ⟨_, getI_nat hltk, ?_⟩
          conv => whnf
          have hnl : nm.length ≤ 9223372036854775807 := by rw [hnm]; simp; omega
          conv => whnf
          refine byC (c67 gl fs[k].1 (hL.fn _ (List.getElem_mem hltk)) nm hnl) op67 ?_
          conv => whnf
          have hff : foF fs k = if freE fs[k].1 nm = 0 then foN fs[k] else freE fs[k].1 nm := by unfold foF; rw [getD_at hltk, foE_names, hnm]; rfl
          conv => whnf
          refine bcase_iff.2 ⟨fun h16 => ?_, fun h16 => ?_⟩
          · skip
            have h16 : freE fs[k].1 nm = 0 := by have g : (freE fs[k].1 nm == 0) = true := h16; simpa using g
            rw [if_pos h16] at hff
            conv => whnf
            refine ⟨_, getI_nat hltk, ?_⟩
            conv => whnf
            refine byC (c69 gl fs[k]) op69 ?_
            conv => whnf
            refine bcase_iff.2 ⟨fun h18 => ?_, fun h18 => ?_⟩
            · skip
              have h18 : foF fs k ≠ 0 := by have g : (foN fs[k] != 0) = true := h18; rw [hff]; simpa using g
              -- R:FFFTTT
              conv => whnf
              rw [hC2, chk2_forme h9 hltk hd h18, hff]
            · skip
              have h18 : foF fs k = 0 := by have g : (foN fs[k] != 0) = false := h18; rw [hff]; simpa using g
              conv => whnf
              refine ⟨_, getI_nat hltk, ?_⟩
              conv => whnf
              refine ⟨_, rfl, ?_⟩
              conv => whnf
              refine ⟨lim (by rw [hnm]; simp; omega), ?_⟩
              -- Z13:TTF
              conv => whnf
              refine ⟨⟨386, [76, 77], []⟩, ?_⟩
              conv => whnf
              rw [hwk]
              exact hZ2 (k + 1, _) ⟨hltk, by rw [hnm]; exact names_snoc hltk, up_succ hd h18⟩ (by dsimp only; omega)
          · skip
            have h16 : freE fs[k].1 nm ≠ 0 := by have g : (freE fs[k].1 nm == 0) = false := h16; simpa using g
            rw [if_neg h16] at hff
            conv => whnf
            refine bcase_iff.2 ⟨fun h18 => ?_, fun h18 => ?_⟩
            · skip
              have h18 : foF fs k ≠ 0 := by rw [hff]; exact h16
              -- R:FFFTFT
              conv => whnf
              rw [hC2, chk2_forme h9 hltk hd h18, hff]
            · skip
              exfalso
              have g : (freE fs[k].1 nm != 0) = false := h18
              exact h16 (by simpa using g) --done
        · skip
          have hgek : k = fs.length := by have := of_decide_eq_false h13; omega
          have hC3 := chk2_3 (nt := ts.length) (ss := ss) h9 (by rw [← hgek]; exact hd)
          clear hd hk h13 hZ2
          conv => whnf
          refine bcase_iff.2 ⟨fun h21 => ?_, fun h21 => ?_⟩
          · skip
            have h21 : ss.length > 12 := by have := of_decide_eq_true h21; omega
            -- R:FFFFT
            conv => whnf
            rw [hC2, hC3, chk3_long h21]
          · skip
            have h21 : ¬ ss.length > 12 := by have := of_decide_eq_false h21; omega
            conv => whnf
            refine ⟨⟨1026, [7], []⟩, ?_⟩
            refine LoopW_ind _ (fun q : Nat => (({ tmps := [.undef, .own 1 [], .undef, .undef, .undef, .undef, .undef, .undef, .undef, .undef, vI q, .undef, .undef, .undef, .undef, .undef, .undef, .undef, .undef, .undef, .undef, .undef, .undef, .undef, .undef, .undef, .undef, .undef, .undef, .undef, .undef, .undef, .undef, .undef, .undef, .undef, .undef, .undef, .undef, .undef, .undef, .undef, .undef, .undef, .undef, .undef, .undef, .undef, .undef, .undef, .undef, .undef, .undef, .undef, .undef, .undef, .undef, .undef, .undef, .undef, .undef, .undef, .undef, .undef, .undef, .undef, .undef, .undef, .undef, .undef, .undef, .undef, .undef, .undef, .undef, .undef, .undef, .undef, .undef, .undef, .undef, .undef, .undef, .undef, .undef, .undef, .undef, .undef, .undef, .undef, .undef, .undef, .undef, .undef, .undef, .undef], seg := [(1, .cells [strsV ts, fmsV fs, sgsV ss])], up := [] } : St S))) (fun q : Nat => (q ≤ ss.length ∧ ∀ j, j < q → siF fs.length ts.length ss j = 0)) (fun q : Nat => (ss.length - q)) () ?_ 0 ⟨Nat.zero_le _, fun j h => absurd h (Nat.not_lt_zero j)⟩
            intro q hinv Z3 hZ3
            obtain ⟨hq, hd⟩ := hinv
            conv => whnf
            refine bcase_iff.2 ⟨fun h24 => ?_, fun h24 => ?_⟩
            · skip
              have hltq : q < ss.length := by have := of_decide_eq_true h24; omega
              have hwq : IntKind.i64.wrap ((q : Int) + 1) = ((q + 1 : Nat) : Int) := wrap_nat (by omega)
              conv => whnf
              refine byC (c70 gl ts fs ss h1f h1t h1s q hltq) op70 ?_
              conv => whnf
              refine bcase_iff.2 ⟨fun h27 => ?_, fun h27 => ?_⟩
              · skip
                have h27 : siF fs.length ts.length ss q ≠ 0 := by have g : (siF fs.length ts.length ss q != 0) = true := h27; simpa using g
                -- R:FFFFFTT
                conv => whnf
                rw [hC2, hC3, chk3_sight h21 hltq hd h27]
              · skip
                have h27 : siF fs.length ts.length ss q = 0 := by have g : (siF fs.length ts.length ss q != 0) = false := h27; simpa using g
                -- Z24:TF
                conv => whnf
                refine ⟨⟨1026, [], []⟩, ?_⟩
                conv => whnf
                rw [hwq]
                exact hZ3 (q + 1) ⟨hltq, up_succ hd h27⟩ (by omega)
            · skip
              have hgeq : q = ss.length := by have := of_decide_eq_false h24; omega
              -- R:FFFFFF
              conv => whnf
              rw [hC2, hC3, chk3_ok h21 (by rw [← hgeq]; exact hd)]

theorem op17 : Opens PR 17 := ⟨_, Tryd.func17, rfl, rfl⟩

theorem c47 (gl : Gl) (p q : Fm) : PCalls PR gl 47 [.agg [.str p.1, vI p.2.1, vI p.2.2.1, vI p.2.2.2], .agg [.str q.1, vI q.2.1, vI q.2.2.1, vI q.2.2.2]] fun r => r = vB (stB p q) := by
  refine fnW_sound (par_ok gl) Tryd.func47 ?_
  conv => whnf
  refine bcase_iff.2 ⟨fun g1_5 => ?_, fun g1_5 => ?_⟩
  · skip
    have g : decide (p.2.1 ≤ q.2.2.2) = true := g1_5
    -- R:T
    conv => whnf
    show vB (decide (q.2.1 ≤ p.2.2.2)) = _
    unfold stB
    rw [g, Bool.true_and]
  · skip
    have g : decide (p.2.1 ≤ q.2.2.2) = false := g1_5
    -- R:F
    conv => whnf
    unfold stB
    rw [g, Bool.false_and]

theorem op47 : Opens PR 47 := ⟨_, Tryd.func47, rfl, rfl⟩

end Go.Ab.SkF

namespace Go.Ab.SkF
open Go Go.Ab Go.Ab.Pln Go.Proofs
set_option maxHeartbeats 1000000
set_option maxRecDepth 100000

/-- As 'par'; what others see may be forgotten where a loop begins anew, and rows of our own stay our own. -/
noncomputable abbrev parO (gl : Gl) : Par S Unit := { par gl with ow := true }
theorem parO_ok (gl : Gl) (En : Env Unit) : ParOk PR gl (parO gl) En :=
  have h := par_ok gl En
  ⟨h.ti, h.call, h.mono, h.wit, h.mix, h.fn, h.ucall, h.ufn, h.iter, h.ifn, h.cb, h.eqt, h.mi, h.ai⟩
end Go.Ab.SkF
