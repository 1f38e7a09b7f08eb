/-
  THE MADE FAMILY, PART XF: plans.
  THE MADE FAMILY, PART XG: Whole.
-/
import Derived.Test.YtmchcpmkadhmjaaDoorMadeF
namespace Go.Ab.MkF
open Go Go.Ab Go.Ab.Pln Go.Proofs
set_option maxHeartbeats 1000000
set_option maxRecDepth 100000

theorem eachW_st {A X σ : Type} {pin params : List Nat} {Bd : (AExit → St S → X → Prop) → St S → X → Prop} {Q : AExit → St S → X → Prop} (enc : A → List (AV S)) (ts : List (AV S)) (sg : σ → List (Nat × AO S)) (up : List (Nat × AO S)) (R : List A → σ → X → Prop)
    (hnil : ∀ s x, R [] s x → Q .normal { tmps := ts, seg := sg s, up := up } x)
    (hcons : ∀ a l s x, R (a :: l) s x → ∀ Z : List (Nat × AO S) → List (Nat × AO S) → X → Prop, (∀ s' x', R l s' x' → Z (sg s') up x') → eachW.setsK params (enc a) ts fun ts' => Bd (fun e st' x' => match e with
      | .normal => ∃ m, wkP pin m st' fun s => match (boxesOf s.seg []).all (memb pin) with
        | true => Z s.seg s.up x'
        | false => False
      | e => Q e { tmps := ts, seg := st'.seg, up := st'.up } x') { tmps := ts', seg := sg s, up := up } x) :
    ∀ (l : List A) (s : σ) (x : X), R l s x → eachW pin params ts Bd Q (l.map enc) (sg s) up x
  | [], s, x, h => hnil s x h
  | a :: l, s, x, h => hcons a l s x h (fun sg' up' x' => eachW pin params ts Bd Q (l.map enc) sg' up' x') fun s' x' hR => eachW_st enc ts sg up R hnil hcons l s' x' hR
/-! ### What plans are made of -/
theorem Plan.set {A : Tb} (h : Plan A) {c l : Nat} {v : Int} (hc : c < 4) (hl : l < 6) (hv : -1 ≤ v ∧ v < 4) : Plan (set2 A c l v) :=
  ⟨h.t.set2 _ _ _, fun c' l' => by
    rw [get2_set2 h.t hc hl]
    split
    · exact hv
    · exact h.e c' l'⟩
theorem leafR_plan {cs : List Cp} {H : List Int} {g : List Nat} {Q : Tb} (h : Plan Q) {c : Nat} (hc : c < 4) : ∀ l, l ≤ 6 → Plan (leafR cs H g Q c l)
  | 0, _ => h
  | l + 1, hl => by
    simp only [leafR]
    split
    · exact leafR_plan h hc l (by omega)
    · refine (leafR_plan h hc l (by omega)).set hc (by omega) ?_
      split <;> omega
theorem leafU_plan {n : Nat} (hn : n ≤ 6) {cs : List Cp} {H : List Int} {g : List Nat} {P : Tb} (h : Plan P) : ∀ c, c ≤ 4 → Plan (leafU n cs H g P c)
  | 0, _ => h
  | c + 1, hc => leafR_plan (leafU_plan hn h c (by omega)) (by omega) n hn
theorem planR_plan {n i : Nat} (hn : n ≤ 6) {cs : List Cp} (hm : cs.length ≤ 4) {H : List Int} (hi : i < 4) {cont : Tb → List Nat → List Tb} (hcont : ∀ P g, Plan P → ∀ q ∈ cont P g, Plan q) : ∀ r P g, r ≤ n → Plan P → ∀ q ∈ planR n cs H i cont r P g, Plan q
  | 0, P, g, _, hP => hcont P g hP
  | r + 1, P, g, hr, hP => by
    intro q hq
    simp only [planR] at hq
    split at hq
    · exact hcont P g hP q hq
    · split at hq
      · exact planR_plan hn hm hi hcont r _ _ (by omega) (hP.set hi (by omega) ⟨by omega, by omega⟩) q hq
      · obtain ⟨d, hd, hq⟩ := List.mem_flatMap.1 hq
        have hd4 : d < 4 := bits_mem (n := 4) (by omega) (havN_lt hm _ _) _ hd
        split at hq
        · cases hq
        · exact planR_plan hn hm hi hcont r _ _ (by omega) (hP.set hi (by omega) ⟨by omega, by omega⟩) q hq
theorem planS_plan {n : Nat} (hn : n ≤ 6) {cs : List Cp} (hm1 : 1 ≤ cs.length) (hm : cs.length ≤ 4) {H : List Int} : ∀ s r P g, r ≤ n → Plan P → ∀ q ∈ planS n cs H s r P g, Plan q
  | 0, r, P, g, _, hP => fun q hq => by
    simp only [planS, List.mem_singleton] at hq
    subst hq
    exact leafU_plan hn hP _ hm
  | s + 1, r, P, g, hr, hP => fun q hq => by
    simp only [planS] at hq
    exact planR_plan hn hm (by omega) (fun P g hP => planS_plan hn hm1 hm s n P g (Nat.le_refl _) hP) r P g hr hP q hq
theorem z46_plan : Plan z46 := ⟨z46_ok, fun c l => by
  have : get2 z46 c l = 0 := by
    unfold get2 z46
    match c with
    | 0 => match l with
      | 0 => rfl
      | 1 => rfl
      | 2 => rfl
      | 3 => rfl
      | 4 => rfl
      | 5 => rfl
      | l + 6 => rfl
    | 1 => match l with
      | 0 => rfl
      | 1 => rfl
      | 2 => rfl
      | 3 => rfl
      | 4 => rfl
      | 5 => rfl
      | l + 6 => rfl
    | 2 => match l with
      | 0 => rfl
      | 1 => rfl
      | 2 => rfl
      | 3 => rfl
      | 4 => rfl
      | 5 => rfl
      | l + 6 => rfl
    | 3 => match l with
      | 0 => rfl
      | 1 => rfl
      | 2 => rfl
      | 3 => rfl
      | 4 => rfl
      | 5 => rfl
      | l + 6 => rfl
    | c + 4 => rfl
  omega⟩
theorem planA_plan {n : Nat} (hn : n ≤ 6) {cs : List Cp} (hm1 : 1 ≤ cs.length) (hm : cs.length ≤ 4) {H : List Int} : ∀ q ∈ planA n cs H, Plan q := planS_plan hn hm1 hm _ _ _ _ (Nat.le_refl _) z46_plan

theorem it134 (p : Int) (ls : List Lf) (cs : List Cp) (hV : Valid p ls cs) (H : List Int) (hH : H.length = 4) : ICalls PR glT 134 [.ref [setR p ls cs], .ref [.arr (S := S) U.int 4 H]] ((planA ls.length cs H).map (fun q : Tb => [.agg [.arr (S := S) U.row6 4 q]])) := by
  have hm1 := hV.m1
  have hm4 := hV.m4
  have hn1 := hV.n1
  have hn6 := hV.n6
  refine iter_sound Tryd.func134 (pb glT) (pb_ok glT) fun Y B hm y Q h => ?_
  conv => whnf
  refine ⟨fun En' hB' => u135 Y B hm p ls cs hV H hH _ cs.length ls.length 0 0 rfl (by omega) (by omega) z46 z46 [0, 0, 0, 0] ⟨z46_ok, z46_ok, fun _ _ _ => rfl⟩ rfl (fun q => by match q with | 0 => decide | 1 => decide | 2 => decide | 3 => decide | q + 4 => exact (by decide : (0 : Nat) < 2 ^ 6)) y _ ?_ En' hB', op135⟩
  refine eachR_mono hm _ _ _ _ (fun b y' hb cur' g' _ _ => ?_) (eachR_of_B hm _ _ _ h)
  rcases b with _ | _
  · skip
    -- R:a
    conv => whnf
    exact hb
  · skip
    -- R:b
    conv => whnf
    exact hb

theorem op134 : Opens PR 134 := ⟨_, Tryd.func134, rfl, rfl⟩

theorem c90 (gl : Gl) (p : Int) (ls : List Lf) (cs : List Cp) (H : List Int) : PCalls PR gl 90 [setR p ls cs, .agg [.arr (S := S) U.int 4 H]] fun r => r = .clo (.func 134) [] [.ref [setR p ls cs], .ref [.arr (S := S) U.int 4 H]] := by
  refine fnW_sound (par_ok gl) Tryd.func90 ?_
  -- R:
  conv => whnf

theorem op90 : Opens PR 90 := ⟨_, Tryd.func90, rfl, rfl⟩

end Go.Ab.MkF

namespace Go.Ab.MkF
open Go Go.Ab Go.Ab.Pln Go.Proofs
set_option maxHeartbeats 1000000
set_option maxRecDepth 100000

noncomputable abbrev parW (gl : Gl) : Par S Unit := { par gl with nk := true }
theorem parW_ok (gl : Gl) (En : Env Unit) : ParOk PR gl (parW gl) En := { par_ok gl En with }
theorem hostL_len : ∀ (m : Nat) (lf h : List Int), ∀ q ∈ hostL m lf h, q.length = h.length + m
  | 0, lf, h => fun q hq => by simp only [hostL, List.mem_singleton] at hq; subst hq; rfl
  | m + 1, lf, h => fun q hq => by
    simp only [hostL] at hq
    obtain ⟨k, _, hq⟩ := List.mem_flatMap.1 hq
    split at hq
    · cases hq
    · have := hostL_len m _ _ q hq
      rw [this, List.length_append]; simp; omega
theorem pad4_len {h : List Int} (hl : h.length ≤ 4) : (pad4 h).length = 4 := by simp; omega
def updW (n m : Nat) (w v : Way) : Way := if ((v.1 != w.1 && betB n m v w) || decide (w.2.1 > v.2.1)) = true then v else w
def wayQ (ls : List Lf) (cs : List Cp) (lk : Nat) (q : Tb) : Way := (q, (lk : Int), (cutN ls cs q : Int))
def roundW (ls : List Lf) (cs : List Cp) (w : Way) (h : List Int) : Way :=
  if (lackN cs (pad4 h) : Int) ≤ w.2.1 then (planA ls.length cs (pad4 h)).foldl (fun w q => updW ls.length cs.length w (wayQ ls cs (lackN cs (pad4 h)) q)) w else w
def bestW (ls : List Lf) (cs : List Cp) : Way := (hostA ls cs).foldl (roundW ls cs) (z46, 25, 0)
def manyU (ls : List Lf) (cs : List Cp) (k : Nat) : Int := if k ≤ 1 then 0 else if k = 2 then ((mostN ls cs 1).1 : Nat) else (((mostN ls cs 1).1 + (mostN ls cs 2).1 : Nat) : Int)
def rowsW (W : Way) (n m : Nat) : List (List Int) := (List.range m).map fun c => (W.1.getD c []).take n
def whoV (p : Int) (ls : List Lf) (cs : List Cp) : List (List Int) × Int × Int × Int × Int :=
  if chE p ls cs = 0 then (rowsW (bestW ls cs) ls.length cs.length, manyU ls cs 3, (bestW ls cs).2.1, (bestW ls cs).2.2, 0) else ([], 0, 0, 0, chE p ls cs)
theorem manyU_step {ls : List Lf} {cs : List Cp} {k : Nat} (h : k = 1 ∨ k = 2) (hm : cs.length ≤ 4) : IntKind.i64.wrap (manyU ls cs k + ((mostN ls cs (k : Int)).1 : Nat)) = manyU ls cs (k + 1) := by
  have h1 := mostU_fst (cs := cs) 1 ls.length
  have h2 := mostU_fst (cs := cs) 2 ls.length
  rcases h with rfl | rfl
  · show IntKind.i64.wrap (0 + ((mostN ls cs 1).1 : Int)) = ((mostN ls cs 1).1 : Int)
    rw [wrap_int (by unfold mostN; omega) (by unfold mostN; omega)]; omega
  · show IntKind.i64.wrap (((mostN ls cs 1).1 : Int) + ((mostN ls cs 2).1 : Int)) = (((mostN ls cs 1).1 + (mostN ls cs 2).1 : Nat) : Int)
    rw [wrap_int (by unfold mostN; omega) (by unfold mostN; omega)]; omega
def wS (W : Way) (n : Nat) : Nat → AV S
  | 0 => .nils
  | c + 1 => .sl (S := S) U.ints (rowsW W n (c + 1)) (some 100)
def wG (p : Int) (ls : List Lf) (cs : List Cp) (W : Way) : Nat → List (Nat × AO S)
  | 0 => [(1, .cells (setC p ls cs)), (9, .frz (wayC W))]
  | _ + 1 => [(1, .cells (setC p ls cs)), (9, .frz (wayC W)), (100, .row U.ints false)]
theorem rowsW_succ (W : Way) (n m : Nat) : rowsW W n (m + 1) = rowsW W n m ++ [(W.1.getD m []).take n] := by unfold rowsW; rw [List.range_succ, List.map_append]; rfl

theorem c28 (p : Int) (ls : List (ByteArray × Int × Int)) (cs : List (ByteArray × List Int)) (hL : LensS ls cs) : PCalls PR glT 28 [.agg [vI p, lfsV ls, cpsV cs]] fun r => r = .tup [intsV (whoV p ls cs).1, vI (whoV p ls cs).2.1, vI (whoV p ls cs).2.2.1, vI (whoV p ls cs).2.2.2.1, vI (whoV p ls cs).2.2.2.2] := by
  refine fnW_sound (parW_ok glT) Tryd.func28 ?_
  conv => whnf
  refine ⟨true, ?_⟩
  conv => whnf
  refine byC (c80 glT p ls cs hL) op80 ?_
  rcases Classical.em (chE p ls cs = 0) with hk | hk
  · skip
    rw [openV_ok hk]
    have hV := chk_valid.1 hk
    have hm1 := hV.m1
    have hm4 := hV.m4
    have hn1 := hV.n1
    have hn6 := hV.n6
    conv => whnf
    refine byC (c88 glT p ls cs) op88 ?_
    conv => whnf
    refine ⟨⟨1073742734, [], []⟩, ?_⟩
    conv => whnf
    refine ⟨(hostA ls cs).map fun h : List Int => [.agg [.arr (S := S) U.int 4 (pad4 h)]], ⟨it132 glT p ls cs hV, op132⟩, ?_⟩
    refine eachW_st (fun h : List Int => [.agg [.arr (S := S) U.int 4 (pad4 h)]]) [.undef, .own 1 [], .nils, vI 0, .undef, .undef, .undef, .own 7 [], .own 8 [], .own 9 [], .undef, .undef, .undef, .undef, .undef, .undef, .undef, .undef, .undef, .undef, .undef, .undef, .undef, .undef, .undef, .undef, .undef, .undef, .undef, .undef, .clo (.func 132) [] [.ref [setR p ls cs]], .undef, .undef, .undef, .undef, .undef, .undef, .undef, .undef, .undef, .undef, .undef, .undef, .undef, .undef, .undef, .undef, .undef, .undef, .undef, .undef, .undef, .undef, .undef, .undef, .undef, .undef, .undef, .undef, .undef, .undef, .undef, .undef, .undef, .undef, .undef, .undef, .undef, .undef, .undef, .undef, .undef, .undef, .undef, .undef, .undef, .undef, .undef, .undef, .undef, .undef, .undef, .undef, .undef, .undef, .undef, .undef, .undef, .undef, .undef, .undef, .undef, .undef, .undef, .undef, .undef, .undef, .undef, .undef, .undef, .undef, .undef, .undef, .undef, .undef, .undef, .undef, .undef] (fun w : Way => [(1, .cells (setC p ls cs)), (7, .cells [setR p ls cs]), (8, .cells [.clo (.func 86) [] [], .clo (.func 87) [] []]), (9, .cells (wayC w))]) [] (fun l (w : Way) _ => ((bestW ls cs) = l.foldl (roundW ls cs) w ∧ Plan w.1 ∧ ∀ h ∈ l, h.length ≤ 4)) ?_ ?_ _ ((z46, 25, 0)) () ⟨rfl, z46_plan, fun h hh => by have := hostL_len _ _ _ h hh; rw [this]; simpa using hm4⟩
    · rintro w ⟨⟩ hF7
      obtain ⟨hb, hPw, -⟩ := hF7
      have hb : (bestW ls cs) = w := hb
      rw [← hb] at hPw
      conv => whnf
      rw [← hb]
      refine ⟨⟨17038, [8], []⟩, ?_⟩
      refine LoopW_ind _ (fun k : Nat => (({ tmps := [.undef, .own 1 [], .nils, vI (manyU ls cs k), .undef, .undef, .undef, .own 7 [], .undef, .own 9 [], .undef, .undef, .undef, .undef, vI k, .undef, .undef, .undef, .undef, .undef, .undef, .undef, .undef, .undef, .undef, .undef, .undef, .undef, .undef, .undef, .undef, .undef, .undef, .undef, .undef, .undef, .undef, .undef, .undef, .undef, .undef, .undef, .undef, .undef, .undef, .undef, .undef, .undef, .undef, .undef, .undef, .undef, .undef, .undef, .undef, .undef, .undef, .undef, .undef, .undef, .undef, .undef, .undef, .undef, .undef, .undef, .undef, .undef, .undef, .undef, .undef, .undef, .undef, .undef, .undef, .undef, .undef, .undef, .undef, .undef, .undef, .undef, .undef, .undef, .undef, .undef, .undef, .undef, .undef, .undef, .undef, .undef, .undef, .undef, .undef, .undef, .undef, .undef, .undef, .undef, .undef, .undef, .undef, .undef, .undef, .undef, .undef, .undef], seg := [(1, .cells (setC p ls cs)), (7, .cells [setR p ls cs]), (9, .cells (wayC (bestW ls cs)))], up := [] } : St S))) (fun k : Nat => (1 ≤ k ∧ k ≤ 3)) (fun k : Nat => (3 - k)) () ?_ 1 ⟨by decide, by decide⟩
      intro k hinv Z2 hZ2
      obtain ⟨hk1, hk3⟩ := hinv
      conv => whnf
      refine bcase_iff.2 ⟨fun h16 => ?_, fun h16 => ?_⟩
      · skip
        have hk12 : k = 1 ∨ k = 2 := by have := of_decide_eq_true h16; omega
        have hw : IntKind.i64.wrap ((k : Int) + 1) = ((k + 1 : Nat) : Int) := wrap_nat (by omega)
        have hms := manyU_step (ls := ls) hk12 hm4
        conv => whnf
        refine byC (c81 glT p ls cs hV k) op81 ?_
        -- Z16:T
        conv => whnf
        refine ⟨⟨17038, [], []⟩, ?_⟩
        conv => whnf
        rw [hw, hms]
        exact hZ2 (k + 1) ⟨by omega, by omega⟩ (by omega)
      · skip
        have hke : k = 3 := by have := of_decide_eq_false h16; omega
        subst hke
        conv => whnf
        refine ⟨⟨29014219670751100192948750, [7], [9]⟩, ?_⟩
        refine LoopW_ind _ (fun c : Nat => (({ tmps := [.undef, .own 1 [], wS (bestW ls cs) ls.length c, vI (manyU ls cs 3), .undef, .undef, .undef, .undef, .undef, .own 9 [], .undef, .undef, .undef, .undef, .undef, .undef, .undef, .undef, .undef, .undef, .undef, .undef, .undef, .undef, .undef, .undef, .undef, .undef, .undef, .undef, .undef, .undef, .undef, .undef, .undef, .undef, .undef, .undef, .undef, .undef, .undef, .undef, .undef, .undef, .undef, .undef, .undef, .undef, .undef, .undef, .undef, .undef, .undef, .undef, .undef, .undef, .undef, .undef, .undef, .undef, .undef, .undef, .undef, .undef, .undef, .undef, .undef, .undef, .undef, .undef, .undef, .undef, .undef, .undef, .undef, .undef, .undef, .undef, .undef, .undef, .undef, .undef, .undef, vI cs.length, vI c, .undef, .undef, .undef, .undef, .undef, .undef, .undef, .undef, .undef, .undef, .undef, .undef, .undef, .undef, .undef, .undef, .undef, .undef, .undef, .undef, .undef, .undef, .undef], seg := wG p ls cs (bestW ls cs) c /- (100, . -/, up := [] } : St S))) (fun c : Nat => (c ≤ cs.length)) (fun c : Nat => (cs.length - c)) () ?_ 0 (Nat.zero_le _)
        intro c hi Z3 hZ3
        conv => whnf
        rcases c with _ | c
        · skip
          conv => whnf
          conv => whnf
          refine bcase_iff.2 ⟨fun h21 => ?_, fun h21 => ?_⟩
          · skip
            have hlt : 0 < cs.length := by have := of_decide_eq_true h21; omega
            have hw : IntKind.i64.wrap (((0 : Nat) : Int) + 1) = ((0 + 1 : Nat) : Int) := wrap_nat (by omega)
            have hrl : ((bestW ls cs).1.getD (0) []).length = 6 := hPw.t.row _ (by omega)
            have hraw : ovl ((((bestW ls cs).1.getD (0) []).take 6).drop 0) (List.replicate ((ls.length : Int)).toNat (0 : Int)) = ((bestW ls cs).1.getD (0) []).take ls.length := by rw [Int.toNat_natCast, List.take_of_length_le (by omega)]; unfold ovl; rw [List.drop_zero, List.length_replicate, List.drop_eq_nil_of_le (by rw [List.length_replicate, hrl]; exact hn6), List.append_nil]
            conv => whnf
            refine ⟨⟨by omega, by omega, by omega⟩, _, rfl, ?_⟩
            conv => whnf
            refine ⟨by omega, by omega, ?_⟩
            conv => whnf
            refine ⟨_, getI_DD (by rw [hPw.t.len]; omega), ?_⟩
            conv => whnf
            refine ⟨by omega, by omega, ?_⟩
            conv => whnf
            refine ⟨_, congrArg some hraw, ?_⟩
            conv => whnf
            first | refine ⟨lim (by simp), false, ?_⟩ | refine ⟨lim (by simp [rowsW]; omega), ?_⟩
            -- Z21:aT
            conv => whnf
            refine ⟨⟨29014219670751100192948750, [90, 99], []⟩, ?_⟩
            conv => whnf
            rw [hw]
            exact hZ3 (0 + 1) hlt (by omega)
          · skip
            exfalso
            have := of_decide_eq_false h21
            omega --done
        · skip
          conv => whnf
          conv => whnf
          refine bcase_iff.2 ⟨fun h21 => ?_, fun h21 => ?_⟩
          · skip
            have hlt : (c + 1) < cs.length := by have := of_decide_eq_true h21; omega
            have hw : IntKind.i64.wrap ((((c + 1) : Nat) : Int) + 1) = (((c + 1) + 1 : Nat) : Int) := wrap_nat (by omega)
            have hrl : ((bestW ls cs).1.getD ((c + 1)) []).length = 6 := hPw.t.row _ (by omega)
            have hraw : ovl ((((bestW ls cs).1.getD ((c + 1)) []).take 6).drop 0) (List.replicate ((ls.length : Int)).toNat (0 : Int)) = ((bestW ls cs).1.getD ((c + 1)) []).take ls.length := by rw [Int.toNat_natCast, List.take_of_length_le (by omega)]; unfold ovl; rw [List.drop_zero, List.length_replicate, List.drop_eq_nil_of_le (by rw [List.length_replicate, hrl]; exact hn6), List.append_nil]
            conv => whnf
            refine ⟨⟨by omega, by omega, by omega⟩, _, rfl, ?_⟩
            conv => whnf
            refine ⟨by omega, by omega, ?_⟩
            conv => whnf
            refine ⟨_, getI_DD (by rw [hPw.t.len]; omega), ?_⟩
            conv => whnf
            refine ⟨by omega, by omega, ?_⟩
            conv => whnf
            refine ⟨_, congrArg some hraw, ?_⟩
            conv => whnf
            first | refine ⟨lim (by simp), false, ?_⟩ | refine ⟨lim (by simp [rowsW]; omega), ?_⟩
            -- Z21:bT
            conv => whnf
            refine ⟨⟨29014219670751100192948750, [90, 99], []⟩, ?_⟩
            conv => whnf
            rw [hw]
            have hz := hZ3 (c + 1 + 1) hlt (by omega)
            rw [show wS (bestW ls cs) ls.length (c + 1 + 1) = .sl (S := S) U.ints (rowsW (bestW ls cs) ls.length (c + 1) ++ [((bestW ls cs).1.getD (c + 1) []).take ls.length]) (some 100) from by rw [← rowsW_succ]; rfl] at hz
            exact hz
          · skip
            have hge : c + 1 = cs.length := by have := of_decide_eq_false h21; omega
            conv => whnf
            refine ⟨[0, 1, 2, 3, 4, 5, 6, 7, 8, 9, 10], [], [], [], ⟨324518553658426726783156020576255, [], []⟩, by decide +kernel, ?_⟩
            -- R:anFbF
            conv => whnf
            unfold whoV
            rw [if_pos hk, ← hge]
    · rintro h hl w ⟨⟩ hF7 Z1 hZ1
      obtain ⟨hb, hPw, hl4⟩ := hF7
      have hh4 := pad4_len (hl4 h (List.mem_cons_self ..))
      rw [List.foldl_cons] at hb
      conv => whnf
      refine byC (c89 glT p ls cs hV (pad4 h) hh4) op89 ?_
      conv => whnf
      refine bcase_iff.2 ⟨fun h9 => ?_, fun h9 => ?_⟩
      · skip
        have h9 : (lackN cs (pad4 h) : Int) ≤ w.2.1 := of_decide_eq_true h9
        rw [roundW, if_pos h9] at hb
        conv => whnf
        refine byC (c90 glT p ls cs (pad4 h)) op90 ?_
        conv => whnf
        refine ⟨⟨2201170742158, [10], []⟩, ?_⟩
        conv => whnf
        refine ⟨(planA ls.length cs (pad4 h)).map fun q : Tb => [.agg [.arr (S := S) U.row6 4 q]], ⟨it134 p ls cs hV (pad4 h) hh4, op134⟩, ?_⟩
        refine eachW_st (fun q : Tb => [.agg [.arr (S := S) U.row6 4 q]]) [.undef, .own 1 [], .nils, vI 0, .undef, .undef, .undef, .own 7 [], .own 8 [], .own 9 [], .undef, .own 11 [], .undef, .undef, .undef, .undef, .undef, .undef, .undef, .undef, .undef, .undef, .undef, .undef, .undef, .undef, .undef, .undef, .undef, .undef, .undef, .agg [.arr (S := S) U.int 4 (pad4 h)], .undef, .undef, .undef, .undef, .undef, .undef, .undef, .undef, .undef, .clo (.func 134) [] [.ref [setR p ls cs], .ref [.arr (S := S) U.int 4 (pad4 h)]], .undef, .undef, .undef, .undef, .undef, .undef, .undef, .undef, .undef, .undef, .undef, .undef, .undef, .undef, .undef, .undef, .undef, .undef, .undef, .undef, .undef, .undef, .undef, .undef, .undef, .undef, .undef, .undef, .undef, .undef, .undef, .undef, .undef, .undef, .undef, .undef, .undef, .undef, .undef, .undef, .undef, .undef, .undef, .undef, .undef, .undef, .undef, .undef, .undef, .undef, .undef, .undef, .undef, .undef, .undef, .undef, .undef, .undef, .undef, .undef, .undef, .undef, .undef, .undef, .undef, .undef] (fun w : Way => [(1, .cells (setC p ls cs)), (7, .cells [setR p ls cs]), (8, .cells [.clo (.func 86) [] [], .clo (.func 87) [] []]), (9, .cells (wayC w)), (11, .cells [vI (lackN cs (pad4 h))])]) [] (fun l (w : Way) _ => ((bestW ls cs) = hl.foldl (roundW ls cs) (l.foldl (fun w q => updW ls.length cs.length w (wayQ ls cs (lackN cs (pad4 h)) q)) w) ∧ Plan w.1 ∧ ∀ q ∈ l, Plan q)) ?_ ?_ _ (w) () ⟨hb, hPw, planA_plan hn6 hm1 hm4⟩
        · rintro w ⟨⟩ hF11
          obtain ⟨hb, hPw, -⟩ := hF11
          have hb : (bestW ls cs) = hl.foldl (roundW ls cs) w := hb
          -- Y7:cTn
          conv => whnf
          refine ⟨⟨1073742734, [10, 11, 12, 13, 1010, 1011, 1012, 1013, 2010, 2011, 2012, 2013, 3010, 3011, 3012, 3013, 4010, 4011, 4012, 4013], []⟩, ?_⟩
          conv => whnf
          exact hZ1 w () ⟨hb, hPw, fun h hh => hl4 h (List.mem_cons_of_mem _ hh)⟩
        · rintro q l w ⟨⟩ hF11 Z2 hZ2
          obtain ⟨hb, hPw, hlq⟩ := hF11
          have hPq := hlq q (List.mem_cons_self ..)
          rw [List.foldl_cons] at hb
          conv => whnf
          refine ⟨[0, 1, 2, 3, 4, 5, 6, 7], [6], [], [], ⟨324518553658426726783156020576255, [], []⟩, by decide +kernel, ?_⟩
          conv => whnf
          refine byC (c91 glT p ls cs hV q hPq) op91 ?_
          conv => whnf
          refine ⟨_, rfl, ?_⟩
          conv => whnf
          refine bcase_iff.2 ⟨fun g13_4 => ?_, fun g13_4 => ?_⟩
          · skip
            have g4 : (q != w.1) = true := g13_4
            conv => whnf
            refine byC (c92 p ls cs hV (wayQ ls cs (lackN cs (pad4 h)) q) w hPq.t hPw.t) op92 ?_
            conv => whnf
            refine bcase_iff.2 ⟨fun g13_11 => ?_, fun g13_11 => ?_⟩
            · skip
              have g11 : betB ls.length cs.length (wayQ ls cs (lackN cs (pad4 h)) q) w = true := g13_11
              have hu : updW ls.length cs.length w (wayQ ls cs (lackN cs (pad4 h)) q) = (wayQ ls cs (lackN cs (pad4 h)) q) := by unfold updW; rw [show ((wayQ ls cs (lackN cs (pad4 h)) q).1 != w.1) = true from g4, g11]; rfl
              -- Y11:cTT
              conv => whnf
              refine ⟨⟨2201170742158, [12, 13, 1012, 1013, 2012, 2013, 3012, 3013, 4012, 4013], []⟩, ?_⟩
              conv => whnf
              rw [hu] at hb
              exact hZ2 (wayQ ls cs (lackN cs (pad4 h)) q) () ⟨hb, hPq, fun q hq => hlq q (List.mem_cons_of_mem _ hq)⟩
            · skip
              have g11 : betB ls.length cs.length (wayQ ls cs (lackN cs (pad4 h)) q) w = false := g13_11
              have hu0 : ((wayQ ls cs (lackN cs (pad4 h)) q).1 != w.1 && betB ls.length cs.length (wayQ ls cs (lackN cs (pad4 h)) q) w) = false := by rw [g11, Bool.and_false]
              conv => whnf
              refine bcase_iff.2 ⟨fun h13 => ?_, fun h13 => ?_⟩
              · skip
                have h13 : decide (w.2.1 > (wayQ ls cs (lackN cs (pad4 h)) q).2.1) = true := h13
                -- Y11:cTFT
                conv => whnf
                refine ⟨⟨2201170742158, [12, 13, 1012, 1013, 2012, 2013, 3012, 3013, 4012, 4013], []⟩, ?_⟩
                conv => whnf
                have hu : updW ls.length cs.length w (wayQ ls cs (lackN cs (pad4 h)) q) = (wayQ ls cs (lackN cs (pad4 h)) q) := by unfold updW; rw [hu0, h13]; rfl
                rw [hu] at hb
                exact hZ2 (wayQ ls cs (lackN cs (pad4 h)) q) () ⟨hb, hPq, fun q hq => hlq q (List.mem_cons_of_mem _ hq)⟩
              · skip
                have h13 : decide (w.2.1 > (wayQ ls cs (lackN cs (pad4 h)) q).2.1) = false := h13
                -- Y11:cTFF
                conv => whnf
                refine ⟨⟨2201170742158, [12, 13, 1012, 1013, 2012, 2013, 3012, 3013, 4012, 4013], []⟩, ?_⟩
                conv => whnf
                have hu : updW ls.length cs.length w (wayQ ls cs (lackN cs (pad4 h)) q) = w := by unfold updW; rw [hu0, h13]; rfl
                rw [hu] at hb
                exact hZ2 w () ⟨hb, hPw, fun q hq => hlq q (List.mem_cons_of_mem _ hq)⟩
          · skip
            have g4 : (q != w.1) = false := g13_4
            conv => whnf
            refine bcase_iff.2 ⟨fun h13 => ?_, fun h13 => ?_⟩
            · skip
              have h13 : decide (w.2.1 > (wayQ ls cs (lackN cs (pad4 h)) q).2.1) = true := h13
              -- Y11:cFT
              conv => whnf
              refine ⟨⟨2201170742158, [12, 13, 1012, 1013, 2012, 2013, 3012, 3013, 4012, 4013], []⟩, ?_⟩
              conv => whnf
              have hu : updW ls.length cs.length w (wayQ ls cs (lackN cs (pad4 h)) q) = (wayQ ls cs (lackN cs (pad4 h)) q) := by unfold updW; rw [show ((wayQ ls cs (lackN cs (pad4 h)) q).1 != w.1) = false from g4, h13]; rfl
              rw [hu] at hb
              exact hZ2 (wayQ ls cs (lackN cs (pad4 h)) q) () ⟨hb, hPq, fun q hq => hlq q (List.mem_cons_of_mem _ hq)⟩
            · skip
              have h13 : decide (w.2.1 > (wayQ ls cs (lackN cs (pad4 h)) q).2.1) = false := h13
              -- Y11:cFF
              conv => whnf
              refine ⟨⟨2201170742158, [12, 13, 1012, 1013, 2012, 2013, 3012, 3013, 4012, 4013], []⟩, ?_⟩
              conv => whnf
              have hu : updW ls.length cs.length w (wayQ ls cs (lackN cs (pad4 h)) q) = w := by unfold updW; rw [show ((wayQ ls cs (lackN cs (pad4 h)) q).1 != w.1) = false from g4, h13]; rfl
              rw [hu] at hb
              exact hZ2 w () ⟨hb, hPw, fun q hq => hlq q (List.mem_cons_of_mem _ hq)⟩
      · skip
        have h9 : ¬ (lackN cs (pad4 h) : Int) ≤ w.2.1 := of_decide_eq_false h9
        rw [roundW, if_neg h9] at hb
        -- Y7:cF
        conv => whnf
        refine ⟨⟨1073742734, [10, 11, 12, 13, 1010, 1011, 1012, 1013, 2010, 2011, 2012, 2013, 3010, 3011, 3012, 3013, 4010, 4011, 4012, 4013], []⟩, ?_⟩
        conv => whnf
        exact hZ1 w () ⟨hb, hPw, fun h hh => hl4 h (List.mem_cons_of_mem _ hh)⟩
  · skip
    rw [openV_no hk]
    conv => whnf
    refine bcase_iff.2 ⟨fun h2 => ?_, fun h2 => ?_⟩
    · skip
      conv => whnf
      refine ⟨false, ?_⟩
      -- R:bT
      conv => whnf
      unfold whoV
      rw [if_neg hk]
    · skip
      exfalso
      have h2 : (chE p ls cs != 0) = false := h2
      exact hk (by simpa using h2) --done

theorem op28 : Opens PR 28 := ⟨_, Tryd.func28, rfl, rfl⟩

end Go.Ab.MkF
