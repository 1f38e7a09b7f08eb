/-
  THE MADE FAMILY, PART XA: the iterator hosts.
  THE MADE FAMILY, PART XB: hosts, lacks.
  THE MADE FAMILY, PART XC: what is cut.
  THE MADE FAMILY, PART XD: which way is better.
-/
import Derived.Test.YtmchcpmkadhmjaaDoorMadeD
namespace Go.Ab.MkF
open Go Go.Ab Go.Ab.Pln Go.Proofs
set_option maxHeartbeats 1000000
set_option maxRecDepth 100000

theorem ucE {gl : Gl} {Y : Type} {En : Env Y} {g : FuncId} {args args' : List (AV S)} {ups ups' : List (Nat × AO S)} {y : Y} {Q : AV S → List (Nat × AO S) → Y → Prop} (e1 : args = args') (e : ups = ups')
    (h : UCalls PR gl En g args' ups' y Q) : UCalls PR gl En g args ups y Q := by rw [e1, e]; exact h
theorem getI_D {l : List Int} {i : Nat} (h : i < l.length) : getI l (i : Int) = some (l.getD i 0) := by rw [getI_nat h, getD_at h]
theorem setI_nat {α : Type} (l : List α) (t : Nat) (v : α) : setI l (t : Int) v = l.set t v := rfl
abbrev pad4 (l : List Int) : List Int := l ++ List.replicate (4 - l.length) 0
abbrev fillH (p : Int) (ls : List Lf) (cs : List Cp) : AV S := .clo (.func 133) [] [.ref [setR p ls cs], .up 2 [], .up 5 [], .up 3 [], .up 6 []]
abbrev upsH (p : Int) (ls : List Lf) (cs : List Cp) (lf cur : List Int) : List (Nat × AO S) := [(2, .cells [.cb]), (3, .cells [.arr (S := S) U.int 3 lf]), (5, .cells [.arr (S := S) U.int 4 cur]), (6, .cells [fillH p ls cs])]
/-- Which copies are hosts of which kind: in the order of the program. 'lf': how many are left of each kind. -/
def hostL : Nat → List Int → List Int → List (List Int)
  | 0, _, h => [h]
  | m + 1, lf, h => (List.range 3).flatMap fun k => if lf.getD k 0 = 0 then [] else hostL m (lf.set k (lf.getD k 0 - 1)) (h ++ [(k : Int)])
/-- What stands in an array while it is made. -/
structure CurI (N n t : Nat) (l cur : List Int) : Prop where
  len : cur.length = N
  tk : cur.take t = l
  z : ∀ j, n ≤ j → j < N → cur[j]? = some 0
theorem CurI.set {N n t : Nat} {k : Int} {l cur : List Int} (h : CurI N n t l cur) (ht : t < n) (hn : n ≤ N) : CurI N n (t + 1) (l ++ [k]) (cur.set t k) := by
  refine ⟨by simp [h.len], ?_, fun j hj hj5 => ?_⟩
  · rw [List.take_set, List.take_succ_eq_append_getElem (by rw [h.len]; omega), h.tk]
    have hp : l.length = t := by rw [← h.tk, List.length_take, h.len]; omega
    rw [List.set_append_right _ _ (by omega)]
    simp [hp]
  · rw [List.getElem?_set_ne (by omega)]
    exact h.z j hj hj5
theorem CurI.back {N n t : Nat} {k : Int} {l cur : List Int} (h : CurI N n (t + 1) (l ++ [k]) cur) (hp : l.length = t) : CurI N n t l cur :=
  ⟨h.len, by have := congrArg (List.take t) h.tk; rw [List.take_take, Nat.min_eq_left (Nat.le_succ t), List.take_append_of_le_length (by omega)] at this; rw [this, List.take_of_length_le (by omega)], h.z⟩
theorem CurI.done {N n : Nat} {l cur : List Int} (h : CurI N n n l cur) (hn : n ≤ N) : cur = l ++ List.replicate (N - l.length) 0 := by
  have hp : l.length = n := by rw [← h.tk, List.length_take, h.len]; omega
  apply List.ext_getElem?
  intro j
  rcases Nat.lt_or_ge j n with hj | hj
  · rw [List.getElem?_append_left (by omega), ← h.tk, List.getElem?_take, if_pos hj]
  · rw [List.getElem?_append_right (by omega)]
    rcases Nat.lt_or_ge j N with hj5 | hj5
    · rw [h.z j hj hj5, List.getElem?_replicate, if_pos (by omega)]
    · rw [List.getElem?_eq_none (by rw [h.len]; exact hj5), List.getElem?_eq_none (by simp; omega)]

theorem op133 : Opens PR 133 := ⟨_, Tryd.func133, rfl, rfl⟩

theorem u133 (gl : Gl) (Y : Type) (B : List (AV S) → Y → (AV S → Y → Prop) → Prop) (hm : BMono B) (p : Int) (ls : List Lf) (cs : List Cp) (hV : Valid p ls cs) :
    ∀ (m i : Nat) (h lf cur : List Int), i + m = cs.length → h.length = i → CurI 4 cs.length i h cur → lf.length = 3 → (∀ k, -100 - (i : Int) ≤ lf.getD k 0 ∧ lf.getD k 0 ≤ 100) → ∀ (y : Y) (Q : AV S → List (Nat × AO S) → Y → Prop),
    eachR B ((hostL m lf h).map (fun h : List Int => [.agg [.arr (S := S) U.int 4 (pad4 h)]])) y (fun b y' => ∀ cur' lf', CurI 4 cs.length i h cur' → (b = true → lf' = lf) → Q (.bool b) (upsH p ls cs lf' cur') y') → ∀ En : Env Y, CbOk PR gl En B →
    UCalls PR gl En 133 [vI i, .ref [setR p ls cs], .up 2 [], .up 5 [], .up 3 [], .up 6 []] (upsH p ls cs lf cur) y Q := by
  have hm1 := hV.m1
  have hm4 := hV.m4
  have hn1 := hV.n1
  have hn6 := hV.n6
  intro m
  induction m
  case zero =>
    intro i h lf cur him hp hc hl3 hlb y Q hq En hB
    refine fnU_sound (pb_ok gl Y B En hB) Tryd.func133 ?_
    conv => whnf
    refine bcase_iff.2 ⟨fun _ => ?_, fun h' => ?_⟩
    · conv => whnf
      have ht : i = cs.length := by omega
      subst ht
      have hq : B [.agg [.arr (S := S) U.int 4 (pad4 h)]] y fun r y' => match r with
        | .bool b => match b with
          | true => ∀ cur' lf', CurI 4 cs.length cs.length h cur' → (true = true → lf' = lf) → Q (.bool true) (upsH p ls cs lf' cur') y'
          | false => ∀ cur' lf', CurI 4 cs.length cs.length h cur' → (false = true → lf' = lf) → Q (.bool false) (upsH p ls cs lf' cur') y'
        | _ => False := hq
      rw [show pad4 h = cur from (hc.done hm4).symm] at hq
      refine hm _ _ _ _ (fun r y' hr => ?_) hq
      cases r with
      | bool b =>
        conv => whnf
        cases b with
        | true => exact hr _ _ hc fun _ => rfl
        | false => exact hr _ _ hc fun _ => rfl
      | _ => exact hr.elim
    · have : i = cs.length := by omega
      subst this
      simp at h'
  rename_i m ih
  intro i h lf cur him hp hc hl3 hlb y Q hq En hB
  refine fnU_sound (pb_ok gl Y B En hB) Tryd.func133 ?_
  conv => whnf
  refine bcase_iff.2 ⟨fun h1 => ?_, fun h1 => ?_⟩
  · skip
    exfalso
    have : (i : Int) = cs.length := by simpa using h1
    omega --done
  · skip
    have hin : i < cs.length := by omega
    have hwi : IntKind.i64.wrap ((i : Int) + 1) = ((i + 1 : Nat) : Int) := wrap_nat (by omega)
    rw [hostL, List.range_eq_range'] at hq
    conv => whnf
    refine ⟨⟨1048633, [], []⟩, ?_⟩
    refine LoopW_indX _ (fun s9 : Nat × List Int × Y => match s9 with | (k, cur, y) => (({ tmps := [vI i, .undef, .undef, .up 5 [], .up 3 [], .up 6 [], .undef, .undef, .undef, .undef, .undef, .undef, .undef, .undef, .undef, .undef, .undef, .undef, .undef, .undef, vI k, .undef, .undef, .undef, .undef, .undef, .undef, .undef, .undef, .undef, .undef, .undef, .undef, .undef, .undef, .undef, .undef, .undef, .undef, .undef, .undef, .undef, .undef, .undef, .undef, .undef], seg := [], up := upsH p ls cs lf cur } : St S))) (fun s9 : Nat × List Int × Y => match s9 with | (k, cur, y) => (y)) (fun s9 : Nat × List Int × Y => match s9 with | (k, cur, y) => (k ≤ 3 ∧ CurI 4 cs.length i h cur ∧ eachR B (((List.range' k (3 - k)).flatMap fun k => if lf.getD k 0 = 0 then [] else hostL m (lf.set k (lf.getD k 0 - 1)) (h ++ [(k : Int)])).map (fun h : List Int => [.agg [.arr (S := S) U.int 4 (pad4 h)]])) y (fun b y' => ∀ cur' lf', CurI 4 cs.length i h cur' → (b = true → lf' = lf) → Q (.bool b) (upsH p ls cs lf' cur') y'))) (fun s9 : Nat × List Int × Y => match s9 with | (k, cur, y) => (3 - k)) ?_ (0, cur, y) ⟨Nat.zero_le _, hc, hq⟩
    rintro ⟨k, cur, y⟩ hinv Z1 hZ1
    dsimp only at hinv hZ1
    obtain ⟨hk0, hc, hq⟩ := hinv
    conv => whnf
    refine bcase_iff.2 ⟨fun h4 => ?_, fun h4 => ?_⟩
    · skip
      have hk : k < 3 := by have := of_decide_eq_true h4; omega
      have hw : IntKind.i64.wrap ((k : Int) + 1) = ((k + 1 : Nat) : Int) := wrap_nat (by omega)
      have hkl : k < lf.length := by omega
      have hlk := hlb k
      rw [show 3 - k = (3 - (k + 1)) + 1 by omega, List.range'_succ, List.flatMap_cons, List.map_append] at hq
      conv => whnf
      refine ⟨by omega, by omega, ?_⟩
      conv => whnf
      refine ⟨_, getI_D hkl, ?_⟩
      conv => whnf
      refine bcase_iff.2 ⟨fun h6 => ?_, fun h6 => ?_⟩
      · skip
        have h6 : lf.getD k 0 = 0 := eq_of_beq (show (lf.getD k 0 == 0) = true from h6)
        rw [if_pos h6] at hq
        -- Z4:TT
        conv => whnf
        refine ⟨⟨1048633, [], []⟩, ?_⟩
        conv => whnf
        rw [hw]
        exact hZ1 (k + 1, cur, y) ⟨hk, hc, hq⟩ (by dsimp only; omega)
      · skip
        have h6 : ¬ lf.getD k 0 = 0 := by have h6 : (lf.getD k 0 == 0) = false := h6; intro e; rw [e] at h6; cases h6
        rw [if_neg h6] at hq
        have hws : IntKind.i64.wrap (lf.getD k 0 - 1) = lf.getD k 0 - 1 := wrap_int (by omega) (by omega)
        have hwa : IntKind.i64.wrap (lf.getD k 0 - 1 + 1) = lf.getD k 0 := by rw [wrap_int (by omega) (by omega)]; omega
        have hsl : k < (lf.set k (lf.getD k 0 - 1)).length := by simpa using hkl
        have hsg : (lf.set k (lf.getD k 0 - 1)).getD k 0 = lf.getD k 0 - 1 := by rw [getD_at hsl]; simp
        have hsb : (lf.set k (lf.getD k 0 - 1)).set k (lf.getD k 0) = lf := by rw [List.set_set, getD_at hkl, List.set_getElem_self]
        have hbn : ∀ q, -100 - ((i + 1 : Nat) : Int) ≤ (lf.set k (lf.getD k 0 - 1)).getD q 0 ∧ (lf.set k (lf.getD k 0 - 1)).getD q 0 ≤ 100 := fun q => by
          have hq1 := hlb q
          by_cases e : k = q
          · subst e; rw [hsg]; omega
          · rw [show (lf.set k (lf.getD k 0 - 1)).getD q 0 = lf.getD q 0 by simp [List.getD_eq_getElem?_getD, List.getElem?_set_ne e]]; omega
        conv => whnf
        refine ⟨by omega, by omega, ?_⟩
        conv => whnf
        refine ⟨_, getI_D hkl, ?_⟩
        conv => whnf
        refine ⟨by omega, by omega, ?_⟩
        conv => whnf
        refine ⟨_, getI_D hkl, ?_⟩
        conv => whnf
        refine ⟨_, rfl, ?_⟩
        conv => whnf
        refine ⟨by omega, by omega, ?_⟩
        conv => whnf
        refine ⟨_, getI_D (by rw [hc.len]; omega), ?_⟩
        conv => whnf
        refine ⟨_, rfl, ?_⟩
        conv => whnf
        refine ⟨fun En' hB' => ucE (by rw [hwi]) (by rw [setI_nat, setI_nat, hws]) (ih (i + 1) (h ++ [(k : Int)]) (lf.set k (lf.getD k 0 - 1)) (cur.set i (k : Int)) (by omega) (by simp [hp]) (hc.set hin hm4) (by simpa using hl3) hbn y _ ?_ En' hB'), op133⟩
        refine eachR_mono hm _ _ _ _ (fun b y' hb cur' lf' hc' hlf => ?_) (eachR_append hm _ _ _ _ hq)
        rcases b with _ | _
        · skip
          -- R:FTFa
          conv => whnf
          exact hb cur' lf' (hc'.back hp) fun e => by cases e
        · skip
          have hlf := hlf rfl
          subst hlf
          conv => whnf
          refine ⟨by omega, by omega, ?_⟩
          conv => whnf
          refine ⟨_, getI_D hsl, ?_⟩
          conv => whnf
          refine ⟨by omega, by omega, ?_⟩
          conv => whnf
          refine ⟨_, getI_D hsl, ?_⟩
          conv => whnf
          rw [hsg, hwa]
          conv => whnf
          refine ⟨_, rfl, ?_⟩
          -- Z4:TFb
          conv => whnf
          refine ⟨⟨1048633, [], []⟩, ?_⟩
          conv => whnf
          rw [hw, setI_nat, hsb]
          exact hZ1 (k + 1, cur', y') ⟨hk, hc'.back hp, hb⟩ (by dsimp only; omega)
    · skip
      have hke : 3 - k = 0 := by have := of_decide_eq_false h4; omega
      rw [hke] at hq
      have hq : (fun b y' => ∀ cur' lf', CurI 4 cs.length i h cur' → (b = true → lf' = lf) → Q (.bool b) (upsH p ls cs lf' cur') y') true y := hq
      -- R:FF
      conv => whnf
      exact hq cur lf hc fun _ => rfl

end Go.Ab.MkF

namespace Go.Ab.MkF
open Go Go.Ab Go.Ab.Pln Go.Proofs
set_option maxHeartbeats 1000000
set_option maxRecDepth 100000

theorem mostU_fst {cs : List Cp} (k : Int) : ∀ l, (mostU cs k l).1 ≤ cs.length + 1
  | 0 => Nat.le_refl _
  | l + 1 => by
    have := mostU_fst (cs := cs) k l
    simp only [mostU]
    split
    · rename_i h; show onesN _ ≤ _; omega
    · exact this
/-- How many hosts there are of each kind, when the first kinds have been reckoned. -/
def leftU (ls : List Lf) (cs : List Cp) (k : Nat) : List Int :=
  if k ≤ 1 then [(cs.length : Int), 0, 0] else if k = 2 then [(cs.length : Int) - (mostN ls cs 1).1, ((mostN ls cs 1).1 : Nat), 0] else [(cs.length : Int) - (mostN ls cs 1).1 - (mostN ls cs 2).1, ((mostN ls cs 1).1 : Nat), ((mostN ls cs 2).1 : Nat)]
theorem leftU_len (ls : List Lf) (cs : List Cp) (k : Nat) : (leftU ls cs k).length = 3 := by unfold leftU; split; rfl; split <;> rfl
theorem leftU_b {ls : List Lf} {cs : List Cp} (hm : cs.length ≤ 4) (k q : Nat) : -20 ≤ (leftU ls cs k).getD q 0 ∧ (leftU ls cs k).getD q 0 ≤ 20 := by
  have h1 := mostU_fst (cs := cs) 1 ls.length
  have h2 := mostU_fst (cs := cs) 2 ls.length
  unfold leftU mostN
  split
  · match q with
    | 0 => show -20 ≤ (cs.length : Int) ∧ (cs.length : Int) ≤ 20; omega
    | 1 => show -20 ≤ (0 : Int) ∧ (0 : Int) ≤ 20; omega
    | 2 => show -20 ≤ (0 : Int) ∧ (0 : Int) ≤ 20; omega
    | q + 3 => show -20 ≤ (0 : Int) ∧ (0 : Int) ≤ 20; omega
  · split
    · match q with
      | 0 => show -20 ≤ (cs.length : Int) - _ ∧ (cs.length : Int) - _ ≤ 20; omega
      | 1 => show -20 ≤ (((mostU cs 1 ls.length).1 : Nat) : Int) ∧ (((mostU cs 1 ls.length).1 : Nat) : Int) ≤ 20; omega
      | 2 => show -20 ≤ (0 : Int) ∧ (0 : Int) ≤ 20; omega
      | q + 3 => show -20 ≤ (0 : Int) ∧ (0 : Int) ≤ 20; omega
    · match q with
      | 0 => show -20 ≤ (cs.length : Int) - _ - _ ∧ (cs.length : Int) - _ - _ ≤ 20; omega
      | 1 => show -20 ≤ (((mostU cs 1 ls.length).1 : Nat) : Int) ∧ (((mostU cs 1 ls.length).1 : Nat) : Int) ≤ 20; omega
      | 2 => show -20 ≤ (((mostU cs 2 ls.length).1 : Nat) : Int) ∧ (((mostU cs 2 ls.length).1 : Nat) : Int) ≤ 20; omega
      | q + 3 => show -20 ≤ (0 : Int) ∧ (0 : Int) ≤ 20; omega
theorem leftU_step {ls : List Lf} {cs : List Cp} {k : Nat} (h : k = 1 ∨ k = 2) (hm : cs.length ≤ 4) :
    setI (setI (leftU ls cs k) (k : Int) (((mostN ls cs (k : Int)).1 : Nat) : Int)) 0 (IntKind.i64.wrap ((setI (leftU ls cs k) (k : Int) (((mostN ls cs (k : Int)).1 : Nat) : Int)).getD 0 0 - (setI (leftU ls cs k) (k : Int) (((mostN ls cs (k : Int)).1 : Nat) : Int)).getD k 0)) = leftU ls cs (k + 1) := by
  have h1 := mostU_fst (cs := cs) 1 ls.length
  have h2 := mostU_fst (cs := cs) 2 ls.length
  rcases h with rfl | rfl
  · show [IntKind.i64.wrap ((cs.length : Int) - (mostN ls cs 1).1), ((mostN ls cs 1).1 : Int), 0] = _
    rw [wrap_int (by unfold mostN; omega) (by unfold mostN; omega)]; rfl
  · show [IntKind.i64.wrap ((cs.length : Int) - (mostN ls cs 1).1 - (mostN ls cs 2).1), ((mostN ls cs 1).1 : Int), ((mostN ls cs 2).1 : Int)] = _
    rw [wrap_int (by unfold mostN; omega) (by unfold mostN; omega)]; rfl
/-- All hosts. -/
def hostA (ls : List Lf) (cs : List Cp) : List (List Int) := hostL cs.length (leftU ls cs 3) []

/-- What lacks at a copy with such a host. -/
def lkN (v : Int) (ks : List Int) : Nat := (ks.filter fun k => decide (v > 0) && v != k).length
theorem lkN_le (v : Int) (ks : List Int) : lkN v ks ≤ ks.length := List.length_filter_le _ _
theorem lkN_succ {v : Int} {ks : List Int} {q : Nat} (h : q < ks.length) : lkN v (ks.take (q + 1)) = lkN v (ks.take q) + if (decide (v > 0) && v != ks[q]) = true then 1 else 0 := by
  unfold lkN
  rw [take_succ' h, List.filter_append, List.length_append]
  congr 1
  rw [List.filter_cons]
  by_cases e : (decide (v > 0) && v != ks[q]) = true
  · rw [if_pos e, if_pos e]; rfl
  · rw [if_neg e, if_neg e]; rfl
def lackU (cs : List Cp) (H : List Int) : Nat → Nat
  | 0 => 0
  | i + 1 => lackU cs H i + lkN (H.getD i 0) (cs.getD i cp0).2
abbrev lackN (cs : List Cp) (H : List Int) : Nat := lackU cs H cs.length
theorem lackU_le {p : Int} {ls : List Lf} {cs : List Cp} (hV : Valid p ls cs) (H : List Int) : ∀ i, i ≤ cs.length → lackU cs H i ≤ 6 * i
  | 0, _ => Nat.le_refl _
  | i + 1, h => by
    have h1 := lackU_le hV H i (by omega)
    have h2 := lkN_le (H.getD i 0) (cs.getD i cp0).2
    rw [hV.len (show i < cs.length by omega)] at h2
    have := hV.n6
    simp only [lackU]; omega

theorem it132 (gl : Gl) (p : Int) (ls : List Lf) (cs : List Cp) (hV : Valid p ls cs) : ICalls PR gl 132 [.ref [setR p ls cs]] ((hostA ls cs).map (fun h : List Int => [.agg [.arr (S := S) U.int 4 (pad4 h)]])) := by
  have hm1 := hV.m1
  have hm4 := hV.m4
  have hn1 := hV.n1
  have hn6 := hV.n6
  refine iter_sound Tryd.func132 (pb gl) (pb_ok gl) fun Y B hm y Q h => ?_
  conv => whnf
  refine ⟨by omega, by omega, ?_⟩
  conv => whnf
  refine ⟨_, rfl, ?_⟩
  conv => whnf
  refine ⟨_, rfl, ?_⟩
  conv => whnf
  refine ⟨⟨30, [], []⟩, ?_⟩
  refine LoopW_indX _ (fun k : Nat => (({ tmps := [.undef, .ref [setR p ls cs], .own 2 [], .own 3 [], vI k, .undef, .undef, .undef, .undef, .undef, .undef, .undef, .undef, .undef, .undef, .undef, .undef, .undef, .undef, .undef, .undef, .undef, .undef, .undef, .undef, .undef, .undef, .undef, .undef, .undef, .undef, .undef, .undef, .undef, .undef, .undef], seg := [(2, .cells [.cb]), (3, .cells [.arr (S := S) U.int 3 (leftU ls cs k)])], up := [] } : St S))) (fun k : Nat => (y)) (fun k : Nat => (1 ≤ k ∧ k ≤ 3)) (fun k : Nat => (3 - k)) ?_ 1 ⟨by decide, by decide⟩
  intro k hinv Z1 hZ1
  obtain ⟨hk1, hk3⟩ := hinv
  conv => whnf
  refine bcase_iff.2 ⟨fun h4 => ?_, fun h4 => ?_⟩
  · skip
    have hk : k = 1 ∨ k = 2 := by have := of_decide_eq_true h4; omega
    have hw : IntKind.i64.wrap ((k : Int) + 1) = ((k + 1 : Nat) : Int) := wrap_nat (by omega)
    have hll := leftU_len ls cs k
    have hst := leftU_step (ls := ls) hk hm4
    have hl1 : (setI (leftU ls cs k) (k : Int) (((mostN ls cs (k : Int)).1 : Nat) : Int)).length = 3 := by rw [setI_nat, List.length_set]; exact hll
    conv => whnf
    refine byC (c81 gl p ls cs hV k) op81 ?_
    conv => whnf
    refine ⟨by omega, by omega, ?_⟩
    conv => whnf
    refine ⟨_, getI_D (by omega), ?_⟩
    conv => whnf
    refine ⟨_, rfl, ?_⟩
    conv => whnf
    refine ⟨[0, 1, 2, 3, 4, 5, 6, 7], [], [], [], ⟨68719476735, [], []⟩, by decide +kernel, ?_⟩
    conv => whnf
    refine ⟨by omega, by omega, ?_⟩
    conv => whnf
    refine ⟨_, getI_D (i := 0) (by omega), ?_⟩
    conv => whnf
    refine ⟨by omega, by omega, ?_⟩
    conv => whnf
    refine ⟨_, getI_D (by omega), ?_⟩
    conv => whnf
    refine ⟨by omega, by omega, ?_⟩
    conv => whnf
    refine ⟨_, getI_D (i := 0) (by omega), ?_⟩
    conv => whnf
    refine ⟨_, rfl, ?_⟩
    -- Z4:T
    conv => whnf
    refine ⟨⟨30, [], []⟩, ?_⟩
    conv => whnf
    rw [hw]
    have hz := hZ1 (k + 1) ⟨by omega, by omega⟩ (by omega)
    rw [← hst] at hz
    exact hz
  · skip
    have hke : k = 3 := by have := of_decide_eq_false h4; omega
    subst hke
    conv => whnf
    refine ⟨fun En' hB' => u133 gl Y B hm p ls cs hV cs.length 0 [] (leftU ls cs 3) [0, 0, 0, 0] (by omega) rfl ⟨rfl, rfl, fun j _ hj => by match j, hj with | 0, _ => rfl | 1, _ => rfl | 2, _ => rfl | 3, _ => rfl⟩ (leftU_len ls cs 3) (fun q => by have := leftU_b (ls := ls) hm4 3 q; omega) y _ ?_ En' hB', op133⟩
    refine eachR_mono hm _ _ _ _ (fun b y' hb cur' lf' _ _ => ?_) (eachR_of_B hm _ _ _ h)
    rcases b with _ | _
    · skip
      -- R:Fa
      conv => whnf
      exact hb
    · skip
      -- R:Fb
      conv => whnf
      exact hb

theorem op132 : Opens PR 132 := ⟨_, Tryd.func132, rfl, rfl⟩

theorem c88 (gl : Gl) (p : Int) (ls : List Lf) (cs : List Cp) : PCalls PR gl 88 [setR p ls cs] fun r => r = .clo (.func 132) [] [.ref [setR p ls cs]] := by
  refine fnW_sound (par_ok gl) Tryd.func88 ?_
  -- R:
  conv => whnf

theorem op88 : Opens PR 88 := ⟨_, Tryd.func88, rfl, rfl⟩

theorem c89 (gl : Gl) (p : Int) (ls : List Lf) (cs : List Cp) (hV : Valid p ls cs) (H : List Int) (hH : H.length = 4) : PCalls PR gl 89 [setR p ls cs, .agg [.arr (S := S) U.int 4 H]] fun r => r = vI (lackN cs H) := by
  have hm1 := hV.m1
  have hm4 := hV.m4
  have hn1 := hV.n1
  have hn6 := hV.n6
  refine fnW_sound (par_ok gl) Tryd.func89 ?_
  conv => whnf
  refine ⟨⟨57368, [], []⟩, ?_⟩
  refine LoopW_ind _ (fun i : Nat => (({ tmps := [.undef, .undef, .undef, .own 3 [], vI (lackU cs H i), .undef, .undef, .undef, .undef, .undef, .undef, .undef, .undef, cpsV cs, vI cs.length, vI i, .undef, .undef, .undef, .undef, .undef, .undef, .undef, .undef, .undef, .undef, .undef, .undef, .undef, .undef, .undef, .undef, .undef, .undef, .undef, .undef, .undef, .undef, .undef, .undef, .undef, .undef, .undef], seg := [(3, .cells [.arr (S := S) U.int 4 H])], up := [] } : St S))) (fun i : Nat => (i ≤ cs.length)) (fun i : Nat => (cs.length - i)) () ?_ 0 (Nat.zero_le _)
  intro i hi Z1 hZ1
  conv => whnf
  refine bcase_iff.2 ⟨fun h2 => ?_, fun h2 => ?_⟩
  · skip
    have hlt : i < cs.length := by have := of_decide_eq_true h2; omega
    have hw : IntKind.i64.wrap ((i : Int) + 1) = ((i + 1 : Nat) : Int) := wrap_nat (by omega)
    conv => whnf
    have hcl := (hV.cp hlt).2.1
    conv => whnf
    have hgd : cs.getD i cp0 = cs[i] := getD_at hlt
    conv => whnf
    have hlu := lackU_le hV H i (by omega)
    conv => whnf
    refine ⟨_, getI_nat hlt, ?_⟩
    conv => whnf
    refine ⟨⟨14737464, [6, 2006], [2006]⟩, ?_⟩
    refine LoopW_ind _ (fun q : Nat => (({ tmps := [.undef, .undef, .undef, .own 3 [], vI (lackU cs H i + lkN (H.getD i 0) (cs[i].2.take q) : Nat), vI i, .undef, .undef, .undef, .undef, .undef, .undef, .undef, cpsV cs, vI cs.length, vI i, .undef, .undef, .undef, .undef, .undef, vL cs[i].2, vI cs[i].2.length, vI q, .undef, .undef, .undef, .undef, .undef, .undef, .undef, .undef, .undef, .undef, .undef, .undef, .undef, .undef, .undef, .undef, .undef, .undef, .undef], seg := [(3, .cells [.arr (S := S) U.int 4 H])], up := [] } : St S))) (fun q : Nat => (q ≤ cs[i].2.length)) (fun q : Nat => (cs[i].2.length - q)) () ?_ 0 (Nat.zero_le _)
    intro q hq Z2 hZ2
    conv => whnf
    refine bcase_iff.2 ⟨fun h5 => ?_, fun h5 => ?_⟩
    · skip
      have hlq : q < cs[i].2.length := by have := of_decide_eq_true h5; omega
      have hwq : IntKind.i64.wrap ((q : Int) + 1) = ((q + 1 : Nat) : Int) := wrap_nat (by omega)
      conv => whnf
      have hlk := lkN_le (H.getD i 0) (cs[i].2.take q)
      conv => whnf
      rw [List.length_take] at hlk
      conv => whnf
      have hsu := lkN_succ (v := H.getD i 0) hlq
      conv => whnf
      refine ⟨_, getI_nat hlq, ?_⟩
      conv => whnf
      refine ⟨by omega, by omega, ?_⟩
      conv => whnf
      refine ⟨_, getI_D (by omega), ?_⟩
      conv => whnf
      refine bcase_iff.2 ⟨fun g7_4 => ?_, fun g7_4 => ?_⟩
      · skip
        have g7 : decide (H.getD i 0 > 0) = true := g7_4
        conv => whnf
        refine ⟨by omega, by omega, ?_⟩
        conv => whnf
        refine ⟨_, getI_D (by omega), ?_⟩
        conv => whnf
        refine bcase_iff.2 ⟨fun h7 => ?_, fun h7 => ?_⟩
        · skip
          have h7 : (H.getD i 0 != cs[i].2[q]) = true := h7
          rw [g7, h7] at hsu
          simp only [Bool.and_self, if_true] at hsu
          have hwn : IntKind.i64.wrap (((lackU cs H i + lkN (H.getD i 0) (cs[i].2.take q) : Nat) : Int) + 1) = ((lackU cs H i + lkN (H.getD i 0) (cs[i].2.take q) + 1 : Nat) : Int) := wrap_nat (by omega)
          -- Z5:TTT
          conv => whnf
          refine ⟨⟨14737464, [], []⟩, ?_⟩
          conv => whnf
          rw [hwq, hwn]
          have hz := hZ2 (q + 1) hlq (by omega)
          rw [hsu, ← Nat.add_assoc] at hz
          exact hz
        · skip
          have h7 : (H.getD i 0 != cs[i].2[q]) = false := h7
          rw [g7, h7] at hsu
          simp only [Bool.and_false, Bool.false_eq_true, if_false, Nat.add_zero] at hsu
          -- Z5:TTF
          conv => whnf
          refine ⟨⟨14737464, [], []⟩, ?_⟩
          conv => whnf
          rw [hwq]
          have hz := hZ2 (q + 1) hlq (by omega)
          rw [hsu] at hz
          exact hz
      · skip
        have g7 : decide (H.getD i 0 > 0) = false := g7_4
        rw [g7] at hsu
        simp only [Bool.false_and, Bool.false_eq_true, if_false, Nat.add_zero] at hsu
        -- Z5:TF
        conv => whnf
        refine ⟨⟨14737464, [], []⟩, ?_⟩
        conv => whnf
        rw [hwq]
        have hz := hZ2 (q + 1) hlq (by omega)
        rw [hsu] at hz
        exact hz
    · skip
      have hgq : q = cs[i].2.length := by have := of_decide_eq_false h5; omega
      -- Z2:TF
      conv => whnf
      refine ⟨⟨57368, [6, 1006, 2006, 3006, 4006], []⟩, ?_⟩
      conv => whnf
      rw [hw, hgq, List.take_length]
      have hz := hZ1 (i + 1) hlt (by omega)
      rw [lackU, hgd] at hz
      exact hz
  · skip
    have hge : i = cs.length := by have := of_decide_eq_false h2; omega
    -- R:F
    conv => whnf
    rw [hge]

theorem op89 : Opens PR 89 := ⟨_, Tryd.func89, rfl, rfl⟩

end Go.Ab.MkF

namespace Go.Ab.MkF
open Go Go.Ab Go.Ab.Pln Go.Proofs
set_option maxHeartbeats 1000000
set_option maxRecDepth 100000

theorem getI_DD {l : List (List Int)} {i : Nat} (h : i < l.length) : getI l (i : Int) = some (l.getD i []) := by rw [getI_nat h, getD_at h]
/-! ### A table of numbers -/
abbrev Tb := List (List Int)
def get2 (A : Tb) (c l : Nat) : Int := (A.getD c []).getD l 0
def set2 (A : Tb) (c l : Nat) (v : Int) : Tb := A.set c ((A.getD c []).set l v)
structure Tb46 (A : Tb) : Prop where
  len : A.length = 4
  row : ∀ c, c < 4 → (A.getD c []).length = 6
theorem getD_set_self {α : Type} {l : List α} {i : Nat} {v d : α} (h : i < l.length) : (l.set i v).getD i d = v := by rw [getD_at (by simpa using h)]; simp
theorem getD_set_ne {α : Type} {l : List α} {i j : Nat} {v d : α} (h : i ≠ j) : (l.set i v).getD j d = l.getD j d := by simp [List.getD_eq_getElem?_getD, List.getElem?_set_ne h]
theorem Tb46.set2 {A : Tb} (h : Tb46 A) (c l : Nat) (v : Int) : Tb46 (set2 A c l v) := by
  refine ⟨by unfold Go.Ab.MkF.set2; rw [List.length_set]; exact h.len, fun c' hc' => ?_⟩
  unfold Go.Ab.MkF.set2
  by_cases e : c = c'
  · subst e; rw [getD_set_self (by rw [h.len]; exact hc'), List.length_set]; exact h.row _ hc'
  · rw [getD_set_ne e]; exact h.row _ hc'
theorem get2_set2 {A : Tb} (h : Tb46 A) {c l : Nat} {v : Int} (hc : c < 4) (hl : l < 6) (c' l' : Nat) : get2 (set2 A c l v) c' l' = if c = c' ∧ l = l' then v else get2 A c' l' := by
  unfold get2 Go.Ab.MkF.set2
  by_cases e : c = c'
  · subst e
    rw [getD_set_self (by rw [h.len]; exact hc)]
    by_cases e2 : l = l'
    · subst e2; rw [getD_set_self (by rw [h.row _ hc]; exact hl), if_pos ⟨rfl, rfl⟩]
    · rw [getD_set_ne e2, if_neg fun h => e2 h.2]
  · rw [getD_set_ne e, if_neg fun h => e h.1]
def z46 : Tb := [[0, 0, 0, 0, 0, 0], [0, 0, 0, 0, 0, 0], [0, 0, 0, 0, 0, 0], [0, 0, 0, 0, 0, 0]]
theorem z46_ok : Tb46 z46 := ⟨rfl, fun c h => by match c, h with | 0, _ => rfl | 1, _ => rfl | 2, _ => rfl | 3, _ => rfl⟩
/-- A plan: each entry is a copy, or none. -/
structure Plan (A : Tb) : Prop where
  t : Tb46 A
  e : ∀ c l, -1 ≤ get2 A c l ∧ get2 A c l < 4
/-! ### Where what stands -/
def outR (A : Tb) (c : Nat) : Nat → Tb
  | 0 => A
  | l + 1 => set2 (outR A c l) c l (-1)
def outU (n : Nat) : Nat → Tb
  | 0 => z46
  | c + 1 => outR (outU n c) c n
def atR (P A : Tb) (c : Nat) : Nat → Tb
  | 0 => A
  | l + 1 => if get2 P c l ≠ -1 then set2 (atR P A c l) (get2 P c l).toNat l c else atR P A c l
def atU (P : Tb) (n m : Nat) : Nat → Tb
  | 0 => outU n m
  | c + 1 => atR P (atU P n m c) c n
theorem outR_ok {A : Tb} (h : Tb46 A) (c : Nat) : ∀ l, Tb46 (outR A c l)
  | 0 => h
  | l + 1 => (outR_ok h c l).set2 _ _ _
theorem outU_ok (n : Nat) : ∀ c, Tb46 (outU n c)
  | 0 => z46_ok
  | c + 1 => outR_ok (outU_ok n c) c n
theorem atR_ok {P A : Tb} (h : Tb46 A) (c : Nat) : ∀ l, Tb46 (atR P A c l)
  | 0 => h
  | l + 1 => by
    simp only [atR]
    split
    · exact (atR_ok h c l).set2 _ _ _
    · exact atR_ok h c l
theorem atU_ok (P : Tb) (n m : Nat) : ∀ c, Tb46 (atU P n m c)
  | 0 => outU_ok n m
  | c + 1 => atR_ok (atU_ok P n m c) c n
abbrev atA (ls : List Lf) (cs : List Cp) (P : Tb) : Tb := atU P ls.length cs.length cs.length
/-- Is a pair cut that a copy has? -/
def cutB (ls : List Lf) (cs : List Cp) (A : Tb) (c l : Nat) : Bool :=
  decide ((ls.getD l lf0).2.1 > (l : Int)) && decide (hasI cs c l * hasI cs c (ls.getD l lf0).2.1.toNat > 0) && get2 A c l != get2 A c (ls.getD l lf0).2.1.toNat
def cutR (ls : List Lf) (cs : List Cp) (A : Tb) (c : Nat) : Nat → Nat
  | 0 => 0
  | l + 1 => cutR ls cs A c l + if cutB ls cs A c l = true then 1 else 0
def cutU (ls : List Lf) (cs : List Cp) (A : Tb) : Nat → Nat
  | 0 => 0
  | c + 1 => cutU ls cs A c + cutR ls cs A c ls.length
def cutN (ls : List Lf) (cs : List Cp) (P : Tb) : Nat := cutU ls cs (atA ls cs P) cs.length
theorem cutR_le (ls : List Lf) (cs : List Cp) (A : Tb) (c : Nat) : ∀ l, cutR ls cs A c l ≤ l
  | 0 => Nat.le_refl _
  | l + 1 => by
    have := cutR_le ls cs A c l
    simp only [cutR]; split <;> omega
theorem cutU_le {ls : List Lf} (h : ls.length ≤ 6) (cs : List Cp) (A : Tb) : ∀ c, cutU ls cs A c ≤ 6 * c
  | 0 => Nat.le_refl _
  | c + 1 => by
    have := cutU_le h cs A c
    have := cutR_le ls cs A c ls.length
    simp only [cutU]; omega

theorem c86 (gl : Gl) (w : Tb × Int × Int) : PCalls PR gl 86 [.agg [.arr (S := S) U.row6 4 w.1, vI w.2.1, vI w.2.2]] fun r => r = vI w.2.1 := by
  refine fnW_sound (par_ok gl) Tryd.func86 ?_
  -- R:
  conv => whnf

theorem op86 : Opens PR 86 := ⟨_, Tryd.func86, rfl, rfl⟩

theorem c87 (gl : Gl) (w : Tb × Int × Int) : PCalls PR gl 87 [.agg [.arr (S := S) U.row6 4 w.1, vI w.2.1, vI w.2.2]] fun r => r = vI w.2.2 := by
  refine fnW_sound (par_ok gl) Tryd.func87 ?_
  -- R:
  conv => whnf

theorem op87 : Opens PR 87 := ⟨_, Tryd.func87, rfl, rfl⟩

theorem c91 (gl : Gl) (p : Int) (ls : List Lf) (cs : List Cp) (hV : Valid p ls cs) (P : Tb) (hP : Plan P) : PCalls PR gl 91 [setR p ls cs, .agg [.arr (S := S) U.row6 4 P]] fun r => r = vI (cutN ls cs P) := by
  have hm1 := hV.m1
  have hm4 := hV.m4
  have hn1 := hV.n1
  have hn6 := hV.n6
  refine fnW_sound (par_ok gl) Tryd.func91 ?_
  conv => whnf
  refine ⟨⟨1572921, [], []⟩, ?_⟩
  refine LoopW_ind _ (fun c : Nat => (({ tmps := [setR p ls cs, .undef, .undef, .own 3 [], vI 0, .own 5 [], .undef, .undef, .undef, .undef, .undef, .undef, .undef, .undef, .undef, .undef, .undef, .undef, .undef, vI cs.length, vI c, .undef, .undef, .undef, .undef, .undef, .undef, .undef, .undef, .undef, .undef, .undef, .undef, .undef, .undef, .undef, .undef, .undef, .undef, .undef, .undef, .undef, .undef, .undef, .undef, .undef, .undef, .undef, .undef, .undef, .undef, .undef, .undef, .undef, .undef, .undef, .undef, .undef, .undef, .undef, .undef, .undef, .undef, .undef, .undef, .undef, .undef, .undef, .undef, .undef, .undef, .undef, .undef, .undef, .undef, .undef, .undef, .undef, .undef, .undef, .undef, .undef, .undef, .undef, .undef, .undef, .undef, .undef, .undef, .undef, .undef, .undef, .undef, .undef, .undef, .undef, .undef, .undef, .undef, .undef, .undef, .undef, .undef, .undef, .undef, .undef, .undef, .undef, .undef, .undef, .undef, .undef, .undef, .undef, .undef, .undef, .undef, .undef, .undef, .undef, .undef, .undef, .undef, .undef, .undef, .undef, .undef, .undef, .undef, .undef, .undef, .undef, .undef], seg := [(3, .cells [.arr (S := S) U.row6 4 P]), (5, .cells [.arr (S := S) U.row6 4 (outU ls.length c)])], up := [] } : St S))) (fun c : Nat => (c ≤ cs.length)) (fun c : Nat => (cs.length - c)) () ?_ 0 (Nat.zero_le _)
  intro c hi Z1 hZ1
  conv => whnf
  refine bcase_iff.2 ⟨fun h3 => ?_, fun h3 => ?_⟩
  · skip
    have hlt : c < cs.length := by have := of_decide_eq_true h3; omega
    have hw : IntKind.i64.wrap ((c : Int) + 1) = ((c + 1 : Nat) : Int) := wrap_nat (by omega)
    conv => whnf
    refine ⟨⟨806879353, [], []⟩, ?_⟩
    refine LoopW_ind _ (fun l : Nat => (({ tmps := [setR p ls cs, .undef, .undef, .own 3 [], vI 0, .own 5 [], vI c, .undef, .undef, .undef, .undef, .undef, .undef, .undef, .undef, .undef, .undef, .undef, .undef, vI cs.length, vI c, .undef, .undef, .undef, .undef, .undef, .undef, .undef, vI ls.length, vI l, .undef, .undef, .undef, .undef, .undef, .undef, .undef, .undef, .undef, .undef, .undef, .undef, .undef, .undef, .undef, .undef, .undef, .undef, .undef, .undef, .undef, .undef, .undef, .undef, .undef, .undef, .undef, .undef, .undef, .undef, .undef, .undef, .undef, .undef, .undef, .undef, .undef, .undef, .undef, .undef, .undef, .undef, .undef, .undef, .undef, .undef, .undef, .undef, .undef, .undef, .undef, .undef, .undef, .undef, .undef, .undef, .undef, .undef, .undef, .undef, .undef, .undef, .undef, .undef, .undef, .undef, .undef, .undef, .undef, .undef, .undef, .undef, .undef, .undef, .undef, .undef, .undef, .undef, .undef, .undef, .undef, .undef, .undef, .undef, .undef, .undef, .undef, .undef, .undef, .undef, .undef, .undef, .undef, .undef, .undef, .undef, .undef, .undef, .undef, .undef, .undef, .undef, .undef], seg := [(3, .cells [.arr (S := S) U.row6 4 P]), (5, .cells [.arr (S := S) U.row6 4 (outR (outU ls.length c) c l)])], up := [] } : St S))) (fun l : Nat => (l ≤ ls.length)) (fun l : Nat => (ls.length - l)) () ?_ 0 (Nat.zero_le _)
    intro l hl Z2 hZ2
    conv => whnf
    refine bcase_iff.2 ⟨fun h6 => ?_, fun h6 => ?_⟩
    · skip
      have hll : l < ls.length := by have := of_decide_eq_true h6; omega
      have hwl : IntKind.i64.wrap ((l : Int) + 1) = ((l + 1 : Nat) : Int) := wrap_nat (by omega)
      conv => whnf
      have hA := outR_ok (outU_ok ls.length c) c l
      conv => whnf
      refine ⟨by omega, by omega, ?_⟩
      conv => whnf
      refine ⟨by omega, by omega, ?_⟩
      conv => whnf
      refine ⟨_, getI_DD (by rw [hA.len]; omega), ?_⟩
      conv => whnf
      refine ⟨_, getI_D (by rw [hA.row _ (by omega)]; omega), ?_⟩
      conv => whnf
      refine ⟨_, rfl, ?_⟩
      conv => whnf
      refine ⟨_, rfl, ?_⟩
      -- Z6:T
      conv => whnf
      refine ⟨⟨806879353, [], []⟩, ?_⟩
      conv => whnf
      rw [hwl]
      exact hZ2 (l + 1) hll (by omega)
    · skip
      have hgl : l = ls.length := by have := of_decide_eq_false h6; omega
      -- Z3:TF
      conv => whnf
      refine ⟨⟨1572921, [], []⟩, ?_⟩
      conv => whnf
      rw [hw, hgl]
      exact hZ1 (c + 1) hlt (by omega)
  · skip
    have hge : c = cs.length := by have := of_decide_eq_false h3; omega
    conv => whnf
    rw [hge]
    refine ⟨⟨26388279066681, [], []⟩, ?_⟩
    refine LoopW_ind _ (fun c : Nat => (({ tmps := [setR p ls cs, .undef, .undef, .own 3 [], vI 0, .own 5 [], .undef, .undef, .undef, .undef, .undef, .undef, .undef, .undef, .undef, .undef, .undef, .undef, .undef, .undef, .undef, .undef, .undef, .undef, .undef, .undef, .undef, .undef, .undef, .undef, .undef, .undef, .undef, .undef, .undef, .undef, .undef, .undef, .undef, .undef, .undef, .undef, .undef, vI cs.length, vI c, .undef, .undef, .undef, .undef, .undef, .undef, .undef, .undef, .undef, .undef, .undef, .undef, .undef, .undef, .undef, .undef, .undef, .undef, .undef, .undef, .undef, .undef, .undef, .undef, .undef, .undef, .undef, .undef, .undef, .undef, .undef, .undef, .undef, .undef, .undef, .undef, .undef, .undef, .undef, .undef, .undef, .undef, .undef, .undef, .undef, .undef, .undef, .undef, .undef, .undef, .undef, .undef, .undef, .undef, .undef, .undef, .undef, .undef, .undef, .undef, .undef, .undef, .undef, .undef, .undef, .undef, .undef, .undef, .undef, .undef, .undef, .undef, .undef, .undef, .undef, .undef, .undef, .undef, .undef, .undef, .undef, .undef, .undef, .undef, .undef, .undef, .undef, .undef], seg := [(3, .cells [.arr (S := S) U.row6 4 P]), (5, .cells [.arr (S := S) U.row6 4 (atU P ls.length cs.length c)])], up := [] } : St S))) (fun c : Nat => (c ≤ cs.length)) (fun c : Nat => (cs.length - c)) () ?_ 0 (Nat.zero_le _)
    intro c hi Z2 hZ2
    conv => whnf
    refine bcase_iff.2 ⟨fun h12 => ?_, fun h12 => ?_⟩
    · skip
      have hlt : c < cs.length := by have := of_decide_eq_true h12; omega
      have hw : IntKind.i64.wrap ((c : Int) + 1) = ((c + 1 : Nat) : Int) := wrap_nat (by omega)
      conv => whnf
      refine ⟨⟨13537187161178425, [], []⟩, ?_⟩
      refine LoopW_ind _ (fun l : Nat => (({ tmps := [setR p ls cs, .undef, .undef, .own 3 [], vI 0, .own 5 [], .undef, .undef, vI c, .undef, .undef, .undef, .undef, .undef, .undef, .undef, .undef, .undef, .undef, .undef, .undef, .undef, .undef, .undef, .undef, .undef, .undef, .undef, .undef, .undef, .undef, .undef, .undef, .undef, .undef, .undef, .undef, .undef, .undef, .undef, .undef, .undef, .undef, vI cs.length, vI c, .undef, .undef, .undef, .undef, .undef, .undef, .undef, vI ls.length, vI l, .undef, .undef, .undef, .undef, .undef, .undef, .undef, .undef, .undef, .undef, .undef, .undef, .undef, .undef, .undef, .undef, .undef, .undef, .undef, .undef, .undef, .undef, .undef, .undef, .undef, .undef, .undef, .undef, .undef, .undef, .undef, .undef, .undef, .undef, .undef, .undef, .undef, .undef, .undef, .undef, .undef, .undef, .undef, .undef, .undef, .undef, .undef, .undef, .undef, .undef, .undef, .undef, .undef, .undef, .undef, .undef, .undef, .undef, .undef, .undef, .undef, .undef, .undef, .undef, .undef, .undef, .undef, .undef, .undef, .undef, .undef, .undef, .undef, .undef, .undef, .undef, .undef, .undef, .undef], seg := [(3, .cells [.arr (S := S) U.row6 4 P]), (5, .cells [.arr (S := S) U.row6 4 (atR P (atU P ls.length cs.length c) c l)])], up := [] } : St S))) (fun l : Nat => (l ≤ ls.length)) (fun l : Nat => (ls.length - l)) () ?_ 0 (Nat.zero_le _)
      intro l hl Z3 hZ3
      conv => whnf
      refine bcase_iff.2 ⟨fun h15 => ?_, fun h15 => ?_⟩
      · skip
        have hll : l < ls.length := by have := of_decide_eq_true h15; omega
        have hwl : IntKind.i64.wrap ((l : Int) + 1) = ((l + 1 : Nat) : Int) := wrap_nat (by omega)
        conv => whnf
        have hA := atR_ok (P := P) (atU_ok P ls.length cs.length c) c l
        conv => whnf
        have hPe := hP.e c l
        conv => whnf
        have hPt := hP.t
        conv => whnf
        refine ⟨by omega, by omega, ?_⟩
        conv => whnf
        refine ⟨by omega, by omega, ?_⟩
        conv => whnf
        refine ⟨_, getI_DD (by rw [hPt.len]; omega), ?_⟩
        conv => whnf
        refine ⟨_, getI_D (by rw [hPt.row _ (by omega)]; omega), ?_⟩
        conv => whnf
        refine bcase_iff.2 ⟨fun h17 => ?_, fun h17 => ?_⟩
        · skip
          have h17 : get2 P c l ≠ -1 := by have h17 : (get2 P c l != -1) = true := h17; simpa using h17
          obtain ⟨d, hd⟩ : ∃ d : Nat, get2 P c l = (d : Int) := ⟨(get2 P c l).toNat, by omega⟩
          conv => whnf
          refine ⟨by omega, by omega, ?_⟩
          conv => whnf
          refine ⟨by omega, by omega, ?_⟩
          conv => whnf
          refine ⟨_, getI_DD (by rw [hPt.len]; omega), ?_⟩
          conv => whnf
          refine ⟨(d : Int), by rw [getI_D (by rw [hPt.row _ (by omega)]; omega)]; exact congrArg some hd, ?_⟩
          conv => whnf
          refine ⟨by omega, by omega, ?_⟩
          conv => whnf
          refine ⟨by omega, by omega, ?_⟩
          conv => whnf
          refine ⟨_, getI_DD (by rw [hA.len]; omega), ?_⟩
          conv => whnf
          refine ⟨_, getI_D (by rw [hA.row _ (by omega)]; omega), ?_⟩
          conv => whnf
          refine ⟨_, rfl, ?_⟩
          conv => whnf
          refine ⟨_, rfl, ?_⟩
          -- Z15:TT
          conv => whnf
          refine ⟨⟨13537187161178425, [], []⟩, ?_⟩
          conv => whnf
          rw [hwl]
          have hz := hZ3 (l + 1) hll (by omega)
          rw [atR, if_pos h17, hd, Int.toNat_natCast] at hz
          exact hz
        · skip
          have h17 : ¬ get2 P c l ≠ -1 := by have h17 : (get2 P c l != -1) = false := h17; simpa using h17
          -- Z15:TF
          conv => whnf
          refine ⟨⟨13537187161178425, [], []⟩, ?_⟩
          conv => whnf
          rw [hwl]
          have hz := hZ3 (l + 1) hll (by omega)
          rw [atR, if_neg h17] at hz
          exact hz
      · skip
        have hgl : l = ls.length := by have := of_decide_eq_false h15; omega
        -- Z12:TF
        conv => whnf
        refine ⟨⟨26388279066681, [], []⟩, ?_⟩
        conv => whnf
        rw [hw, hgl]
        exact hZ2 (c + 1) hlt (by omega)
    · skip
      have hge : c = cs.length := by have := of_decide_eq_false h12; omega
      conv => whnf
      rw [hge]
      refine ⟨⟨1057810092162800527867953, [3], []⟩, ?_⟩
      refine LoopW_ind _ (fun c : Nat => (({ tmps := [setR p ls cs, .undef, .undef, .undef, vI (cutU ls cs (atA ls cs P) c), .own 5 [], .undef, .undef, .undef, .undef, .undef, .undef, .undef, .undef, .undef, .undef, .undef, .undef, .undef, .undef, .undef, .undef, .undef, .undef, .undef, .undef, .undef, .undef, .undef, .undef, .undef, .undef, .undef, .undef, .undef, .undef, .undef, .undef, .undef, .undef, .undef, .undef, .undef, .undef, .undef, .undef, .undef, .undef, .undef, .undef, .undef, .undef, .undef, .undef, .undef, .undef, .undef, .undef, .undef, .undef, .undef, .undef, .undef, .undef, .undef, .undef, .undef, .undef, .undef, .undef, .undef, .undef, .undef, .undef, .undef, .undef, .undef, cpsV cs, vI cs.length, vI c, .undef, .undef, .undef, .undef, .undef, .undef, .undef, .undef, .undef, .undef, .undef, .undef, .undef, .undef, .undef, .undef, .undef, .undef, .undef, .undef, .undef, .undef, .undef, .undef, .undef, .undef, .undef, .undef, .undef, .undef, .undef, .undef, .undef, .undef, .undef, .undef, .undef, .undef, .undef, .undef, .undef, .undef, .undef, .undef, .undef, .undef, .undef, .undef, .undef, .undef, .undef, .undef, .undef], seg := [(5, .cells [.arr (S := S) U.row6 4 (atA ls cs P)])], up := [] } : St S))) (fun c : Nat => (c ≤ cs.length)) (fun c : Nat => (cs.length - c)) () ?_ 0 (Nat.zero_le _)
      intro c hi Z3 hZ3
      conv => whnf
      refine bcase_iff.2 ⟨fun h22 => ?_, fun h22 => ?_⟩
      · skip
        have hlt : c < cs.length := by have := of_decide_eq_true h22; omega
        have hw : IntKind.i64.wrap ((c : Int) + 1) = ((c + 1 : Nat) : Int) := wrap_nat (by omega)
        conv => whnf
        have hA := atU_ok P ls.length cs.length cs.length
        conv => whnf
        have hgc : cs.getD c cp0 = cs[c] := getD_at hlt
        conv => whnf
        have hcl := (hV.cp hlt).2.1
        conv => whnf
        have hcu := cutU_le hn6 cs (atA ls cs P) c
        conv => whnf
        refine ⟨_, getI_nat hlt, ?_⟩
        conv => whnf
        refine ⟨⟨2167452878841578281601338417, [2011], [2011]⟩, ?_⟩
        refine LoopW_ind _ (fun l : Nat => (({ tmps := [setR p ls cs, .undef, .undef, .undef, vI (cutU ls cs (atA ls cs P) c + cutR ls cs (atA ls cs P) c l : Nat), .own 5 [], .undef, .undef, .undef, .undef, vI c, .own 11 [], .undef, .undef, .undef, .undef, .undef, .undef, .undef, .undef, .undef, .undef, .undef, .undef, .undef, .undef, .undef, .undef, .undef, .undef, .undef, .undef, .undef, .undef, .undef, .undef, .undef, .undef, .undef, .undef, .undef, .undef, .undef, .undef, .undef, .undef, .undef, .undef, .undef, .undef, .undef, .undef, .undef, .undef, .undef, .undef, .undef, .undef, .undef, .undef, .undef, .undef, .undef, .undef, .undef, .undef, .undef, .undef, .undef, .undef, .undef, .undef, .undef, .undef, .undef, .undef, .undef, cpsV cs, vI cs.length, vI c, .undef, .undef, .undef, .undef, .undef, .undef, .undef, .undef, lfsV ls, vI ls.length, vI l, .undef, .undef, .undef, .undef, .undef, .undef, .undef, .undef, .undef, .undef, .undef, .undef, .undef, .undef, .undef, .undef, .undef, .undef, .undef, .undef, .undef, .undef, .undef, .undef, .undef, .undef, .undef, .undef, .undef, .undef, .undef, .undef, .undef, .undef, .undef, .undef, .undef, .undef, .undef, .undef, .undef, .undef], seg := [(5, .cells [.arr (S := S) U.row6 4 (atA ls cs P)]), (11, .cells (cpC cs[c]))], up := [] } : St S))) (fun l : Nat => (l ≤ ls.length)) (fun l : Nat => (ls.length - l)) () ?_ 0 (Nat.zero_le _)
        intro l hl Z4 hZ4
        conv => whnf
        refine bcase_iff.2 ⟨fun h25 => ?_, fun h25 => ?_⟩
        · skip
          have hll : l < ls.length := by have := of_decide_eq_true h25; omega
          have hwl : IntKind.i64.wrap ((l : Int) + 1) = ((l + 1 : Nat) : Int) := wrap_nat (by omega)
          conv => whnf
          have hlf := hV.lf hll
          conv => whnf
          have hcr := cutR_le ls cs (atA ls cs P) c l
          conv => whnf
          have hgl0 : ls.getD l lf0 = ls[l] := getD_at hll
          conv => whnf
          refine ⟨_, getI_nat hll, ?_⟩
          conv => whnf
          refine ⟨[0, 1, 2, 3, 4, 5, 6, 7, 8, 9, 10, 11, 12, 13, 14, 15, 16, 17, 18, 19, 20, 21, 22, 23, 24, 25, 26, 27, 28, 29, 30, 31, 32], [], [], [], ⟨10889035741470030830827987437816582766591, [], []⟩, by decide +kernel, ?_⟩
          conv => whnf
          refine bcase_iff.2 ⟨fun g27_4 => ?_, fun g27_4 => ?_⟩
          · skip
            have g3 : decide (ls[l].2.1 > (l : Int)) = true := g27_4
            have g3a := of_decide_eq_true g3
            obtain ⟨y, hy⟩ : ∃ y : Nat, ls[l].2.1 = (y : Int) := ⟨ls[l].2.1.toNat, by omega⟩
            have hyn : y < ls.length := by omega
            have hh1 := hV.has hlt hll
            have hh2 := hV.has hlt hyn
            have hl2 : l < cs[c].2.length := by omega
            have hy2 : y < cs[c].2.length := by omega
            have hk1 : cs[c].2[l] = hasI cs c l := by unfold hasI; rw [hgc, getD_at hl2]
            have hk2 : cs[c].2[y] = hasI cs c y := by unfold hasI; rw [hgc, getD_at hy2]
            have hmb : 0 ≤ hasI cs c l * hasI cs c y ∧ hasI cs c l * hasI cs c y ≤ 2 * 2 := ⟨Int.mul_nonneg hh1.1 hh2.1, Int.mul_le_mul hh1.2 hh2.2 hh2.1 (by omega)⟩
            have hwm : IntKind.i64.wrap (hasI cs c l * hasI cs c y) = hasI cs c l * hasI cs c y := wrap_int (by omega) (by omega)
            conv => whnf
            refine ⟨hasI cs c l, by rw [getI_nat hl2, hk1], ?_⟩
            conv => whnf
            refine ⟨hasI cs c y, by rw [hy, getI_nat hy2, hk2], ?_⟩
            conv => whnf
            refine bcase_iff.2 ⟨fun g27_19 => ?_, fun g27_19 => ?_⟩
            · skip
              have g19 := g27_19
              rw [hwm] at g19
              have hcb : cutB ls cs (atA ls cs P) c l = (get2 (atA ls cs P) c l != get2 (atA ls cs P) c y) := by unfold cutB; rw [hgl0, g3, hy, Int.toNat_natCast]; rw [show decide (hasI cs c l * hasI cs c y > 0) = true from g19]; rfl
              conv => whnf
              refine ⟨by omega, by omega, ?_⟩
              conv => whnf
              refine ⟨by omega, by omega, ?_⟩
              conv => whnf
              refine ⟨_, getI_DD (by rw [hA.len]; omega), ?_⟩
              conv => whnf
              refine ⟨get2 (atA ls cs P) c l, getI_D (by rw [hA.row _ (by omega)]; omega), ?_⟩
              conv => whnf
              refine ⟨by omega, by omega, ?_⟩
              conv => whnf
              refine ⟨by omega, by omega, ?_⟩
              conv => whnf
              refine ⟨_, getI_DD (by rw [hA.len]; omega), ?_⟩
              conv => whnf
              refine ⟨get2 (atA ls cs P) c y, by rw [hy]; exact getI_D (by rw [hA.row _ (by omega)]; omega), ?_⟩
              conv => whnf
              refine bcase_iff.2 ⟨fun h27 => ?_, fun h27 => ?_⟩
              · skip
                rw [show (get2 (atA ls cs P) c l != get2 (atA ls cs P) c y) = true from h27] at hcb
                have hwn : IntKind.i64.wrap (((cutU ls cs (atA ls cs P) c + cutR ls cs (atA ls cs P) c l : Nat) : Int) + 1) = ((cutU ls cs (atA ls cs P) c + cutR ls cs (atA ls cs P) c l + 1 : Nat) : Int) := wrap_nat (by omega)
                -- Z25:TTTT
                conv => whnf
                refine ⟨⟨2167452878841578281601338417, [13, 1013, 2013, 3013, 4013], []⟩, ?_⟩
                conv => whnf
                rw [hwl, hwn]
                have hz := hZ4 (l + 1) hll (by omega)
                rw [cutR, if_pos hcb, ← Nat.add_assoc] at hz
                exact hz
              · skip
                rw [show (get2 (atA ls cs P) c l != get2 (atA ls cs P) c y) = false from h27] at hcb
                -- Z25:TTTF
                conv => whnf
                refine ⟨⟨2167452878841578281601338417, [13, 1013, 2013, 3013, 4013], []⟩, ?_⟩
                conv => whnf
                rw [hwl]
                have hz := hZ4 (l + 1) hll (by omega)
                rw [cutR, hcb, if_neg (by simp), Nat.add_zero] at hz
                exact hz
            · skip
              have g19 := g27_19
              rw [hwm] at g19
              have hcb : cutB ls cs (atA ls cs P) c l = false := by unfold cutB; rw [hgl0, g3, hy, Int.toNat_natCast]; rw [show decide (hasI cs c l * hasI cs c y > 0) = false from g19]; rfl
              -- Z25:TTF
              conv => whnf
              refine ⟨⟨2167452878841578281601338417, [13, 1013, 2013, 3013, 4013], []⟩, ?_⟩
              conv => whnf
              rw [hwl]
              have hz := hZ4 (l + 1) hll (by omega)
              rw [cutR, hcb, if_neg (by simp), Nat.add_zero] at hz
              exact hz
          · skip
            have g3 : decide (ls[l].2.1 > (l : Int)) = false := g27_4
            have hcb : cutB ls cs (atA ls cs P) c l = false := by unfold cutB; rw [hgl0, g3]; rfl
            -- Z25:TF
            conv => whnf
            refine ⟨⟨2167452878841578281601338417, [13, 1013, 2013, 3013, 4013], []⟩, ?_⟩
            conv => whnf
            rw [hwl]
            have hz := hZ4 (l + 1) hll (by omega)
            rw [cutR, hcb, if_neg (by simp), Nat.add_zero] at hz
            exact hz
        · skip
          have hgl : l = ls.length := by have := of_decide_eq_false h25; omega
          -- Z22:TF
          conv => whnf
          refine ⟨⟨1057810092162800527867953, [11, 13, 1011, 1013, 2011, 2013, 3011, 3013, 4011, 4013], []⟩, ?_⟩
          conv => whnf
          rw [hw, hgl]
          exact hZ3 (c + 1) hlt (by omega)
      · skip
        have hge : c = cs.length := by have := of_decide_eq_false h22; omega
        -- R:FFF
        conv => whnf
        rw [hge]
        rfl

theorem op91 : Opens PR 91 := ⟨_, Tryd.func91, rfl, rfl⟩

end Go.Ab.MkF

namespace Go.Ab.MkF
open Go Go.Ab Go.Ab.Pln Go.Proofs
set_option maxHeartbeats 1000000
set_option maxRecDepth 100000

abbrev Way := Tb × Int × Int
abbrev wayC (w : Way) : List (AV S) := [.arr (S := S) U.row6 4 w.1, vI w.2.1, vI w.2.2]
abbrev wayV (w : Way) : AV S := .agg (wayC w)
def rwC (n : Nat) (P Q : Tb) (c : Nat) : Int := cmpL cmpI ((P.getD c []).take n) ((Q.getD c []).take n)
def rowsB (n : Nat) (P Q : Tb) (m : Nat) : Bool := match (List.range m).find? (fun c => rwC n P Q c != 0) with
  | some c => decide (rwC n P Q c < 0)
  | none => false
theorem rows_hit {n : Nat} {P Q : Tb} {m c : Nat} (hc : c < m) (h1 : ∀ j, j < c → rwC n P Q j = 0) (h2 : rwC n P Q c ≠ 0) : rowsB n P Q m = decide (rwC n P Q c < 0) := by
  have : (List.range m).find? (fun c => rwC n P Q c != 0) = some c := by
    rw [List.find?_range_eq_some]
    exact ⟨by simpa using h2, List.mem_range.2 hc, fun j hj => by simpa using h1 j hj⟩
  unfold rowsB; rw [this]
theorem rows_no {n : Nat} {P Q : Tb} {m : Nat} (h1 : ∀ j, j < m → rwC n P Q j = 0) : rowsB n P Q m = false := by
  have : (List.range m).find? (fun c => rwC n P Q c != 0) = none := by
    rw [List.find?_range_eq_none]; intro j hj; simpa using h1 j hj
  unfold rowsB; rw [this]
def betB (n m : Nat) (v w : Way) : Bool := if v.2.1 != w.2.1 then decide (v.2.1 < w.2.1) else if v.2.2 != w.2.2 then decide (v.2.2 < w.2.2) else rowsB n v.1 w.1 m

theorem c92 (p : Int) (ls : List Lf) (cs : List Cp) (hV : Valid p ls cs) (v w : Way) (hPv : Tb46 v.1) (hPw : Tb46 w.1) : PCalls PR glT 92 [setR p ls cs, .agg [.clo (.func 86) [] [], .clo (.func 87) [] []], .agg [.arr (S := S) U.row6 4 v.1, vI v.2.1, vI v.2.2], .agg [.arr (S := S) U.row6 4 w.1, vI w.2.1, vI w.2.2]] fun r => r = vB (betB ls.length cs.length v w) := by
  have hm1 := hV.m1
  have hm4 := hV.m4
  have hn1 := hV.n1
  have hn6 := hV.n6
  refine fnW_sound (par_ok glT) Tryd.func92 ?_
  conv => whnf
  refine ⟨_, rfl, ?_⟩
  conv => whnf
  refine ⟨_, rfl, ?_⟩
  conv => whnf
  refine ⟨⟨917697, [5], []⟩, ?_⟩
  refine LoopW_ind _ (fun i : Nat => (({ tmps := [setR p ls cs, .undef, .undef, .undef, .undef, .undef, .own 6 [], .own 7 [], .undef, .undef, .undef, .undef, .undef, .undef, .undef, .undef, .undef, .sl (S := S) U.fn [86, 87] (some 17), vI 2, vI i, .undef, .undef, .undef, .undef, .undef, .undef, .undef, .undef, .undef, .undef, .undef, .undef, .undef, .undef, .undef, .undef, .undef, .undef, .undef, .undef, .undef, .undef, .undef, .undef, .undef, .undef, .undef, .undef, .undef, .undef, .undef, .undef, .undef, .undef, .undef, .undef, .undef, .undef, .undef, .undef, .undef, .undef, .undef, .undef, .undef, .undef, .undef, .undef, .undef, .undef, .undef, .undef, .undef], seg := [(6, .cells (wayC v)), (7, .cells (wayC w)), (17, .row U.fn false)], up := [] } : St S))) (fun i : Nat => (i ≤ 2 ∧ (1 ≤ i → v.2.1 = w.2.1) ∧ (2 ≤ i → v.2.2 = w.2.2))) (fun i : Nat => (2 - i)) () ?_ 0 ⟨Nat.zero_le _, fun h => absurd h (by decide), fun h => absurd h (by decide)⟩
  intro i hinv Z1 hZ1
  obtain ⟨hi, hi1, hi2⟩ := hinv
  conv => whnf
  refine bcase_iff.2 ⟨fun h2 => ?_, fun h2 => ?_⟩
  · skip
    have hlt : i < 2 := by have h2 : decide ((i : Int) < 2) = true := h2; have := of_decide_eq_true h2; omega
    have hw : IntKind.i64.wrap ((i : Int) + 1) = ((i + 1 : Nat) : Int) := wrap_nat (by omega)
    conv => whnf
    rcases (show i = 0 ∨ i = 1 by omega) with rfl | rfl
    · skip
      refine ⟨_, (rfl : getI [86, 87] ((0 : Nat) : Int) = some 86), ?_⟩
      have hF := fun w : Way => c86 glT w
      have hO := op86
      have hk : ∀ w : Way, w.2.1 = w.2.1 := fun _ => rfl
      conv => whnf
      refine ⟨[0, 1, 3, 4, 2, 5, 6], [], [], [], ⟨9444732965739290427391, [], []⟩, by decide +kernel, ?_⟩
      conv => whnf
      refine byC (hF v) hO ?_
      conv => whnf
      refine byC (hF w) hO ?_
      conv => whnf
      refine bcase_iff.2 ⟨fun h4 => ?_, fun h4 => ?_⟩
      · skip
        have h4 : (v.2.1 != w.2.1) = true := h4
        conv => whnf
        refine ⟨[0, 1, 3, 4, 2, 5, 6, 7], [], [], [], ⟨9444732965739290427391, [], []⟩, by decide +kernel, ?_⟩
        conv => whnf
        refine byC (hF v) hO ?_
        conv => whnf
        refine byC (hF w) hO ?_
        -- R:TaT
        conv => whnf
        unfold betB
        rw [if_pos h4]
      · skip
        have h4 : (v.2.1 != w.2.1) = false := h4
        have h4 : v.2.1 = w.2.1 := by simpa using h4
        -- Z2:TaF
        conv => whnf
        refine ⟨⟨917697, [], []⟩, ?_⟩
        conv => whnf
        rw [hw]
        exact hZ1 (0 + 1) ⟨hlt, fun _ => h4, fun h => absurd h (by omega)⟩ (by omega)
    · skip
      refine ⟨_, (rfl : getI [86, 87] ((1 : Nat) : Int) = some 87), ?_⟩
      have hF := fun w : Way => c87 glT w
      have hO := op87
      conv => whnf
      refine ⟨[0, 1, 3, 4, 2, 5, 6], [], [], [], ⟨9444732965739290427391, [], []⟩, by decide +kernel, ?_⟩
      conv => whnf
      refine byC (hF v) hO ?_
      conv => whnf
      refine byC (hF w) hO ?_
      conv => whnf
      refine bcase_iff.2 ⟨fun h4 => ?_, fun h4 => ?_⟩
      · skip
        have h4 : (v.2.2 != w.2.2) = true := h4
        conv => whnf
        refine ⟨[0, 1, 3, 4, 2, 5, 6, 7], [], [], [], ⟨9444732965739290427391, [], []⟩, by decide +kernel, ?_⟩
        conv => whnf
        refine byC (hF v) hO ?_
        conv => whnf
        refine byC (hF w) hO ?_
        -- R:TbT
        conv => whnf
        unfold betB
        rw [if_neg (by rw [hi1 (by omega)]; simp), if_pos h4]
      · skip
        have h4 : (v.2.2 != w.2.2) = false := h4
        have h4 : v.2.2 = w.2.2 := by simpa using h4
        -- Z2:TbF
        conv => whnf
        refine ⟨⟨917697, [], []⟩, ?_⟩
        conv => whnf
        rw [hw]
        exact hZ1 (1 + 1) ⟨hlt, fun _ => hi1 (by omega), fun _ => h4⟩ (by omega)
  · skip
    have hge : i = 2 := by have h2 : decide ((i : Int) < 2) = false := h2; have := of_decide_eq_false h2; omega
    have he1 := hi1 (by omega)
    have he2 := hi2 (by omega)
    conv => whnf
    refine ⟨⟨26388279066817, [17], [6, 7]⟩, ?_⟩
    refine LoopW_ind _ (fun c : Nat => (({ tmps := [setR p ls cs, .undef, .undef, .undef, .undef, .undef, .own 6 [], .own 7 [], .undef, .undef, .undef, .undef, .undef, .undef, .undef, .undef, .undef, .undef, .undef, .undef, .undef, .undef, .undef, .undef, .undef, .undef, .undef, .undef, .undef, .undef, .undef, .undef, .undef, .undef, .undef, .undef, .undef, .undef, .undef, .undef, .undef, .undef, .undef, vI cs.length, vI c, .undef, .undef, .undef, .undef, .undef, .undef, .undef, .undef, .undef, .undef, .undef, .undef, .undef, .undef, .undef, .undef, .undef, .undef, .undef, .undef, .undef, .undef, .undef, .undef, .undef, .undef, .undef, .undef], seg := [(6, .frz (wayC v)), (7, .frz (wayC w))], up := [] } : St S))) (fun c : Nat => (c ≤ cs.length ∧ ∀ j, j < c → rwC ls.length v.1 w.1 j = 0)) (fun c : Nat => (cs.length - c)) () ?_ 0 ⟨Nat.zero_le _, fun j h => absurd h (Nat.not_lt_zero j)⟩
    intro c hinv Z2 hZ2
    obtain ⟨hc, hd⟩ := hinv
    conv => whnf
    refine bcase_iff.2 ⟨fun h8 => ?_, fun h8 => ?_⟩
    · skip
      have hcl : c < cs.length := by have := of_decide_eq_true h8; omega
      have hwc : IntKind.i64.wrap ((c : Int) + 1) = ((c + 1 : Nat) : Int) := wrap_nat (by omega)
      conv => whnf
      refine ⟨[0, 1, 2, 3, 4, 5, 6, 7, 8, 9, 10, 11, 12, 13, 14, 15, 16, 17, 18, 19, 20, 21], [], [], [], ⟨9444732965739290427391, [], []⟩, by decide +kernel, ?_⟩
      conv => whnf
      refine ⟨by omega, by omega, ?_⟩
      conv => whnf
      refine ⟨_, getI_DD (by rw [hPv.len]; omega), ?_⟩
      conv => whnf
      refine ⟨by omega, ?_⟩
      conv => whnf
      refine ⟨by omega, by omega, ?_⟩
      conv => whnf
      refine ⟨by omega, by omega, ?_⟩
      conv => whnf
      refine ⟨_, getI_DD (by rw [hPw.len]; omega), ?_⟩
      conv => whnf
      refine ⟨by omega, ?_⟩
      conv => whnf
      refine ⟨by omega, by omega, ?_⟩
      conv => whnf
      refine byC (c106 glT ((v.1.getD c []).take ls.length) ((w.1.getD c []).take ls.length) (by rw [List.length_take]; omega) (by rw [List.length_take]; omega)) op106 ?_
      conv => whnf
      refine bcase_iff.2 ⟨fun h11 => ?_, fun h11 => ?_⟩
      · skip
        have h11 : rwC ls.length v.1 w.1 c ≠ 0 := by have h11 : (rwC ls.length v.1 w.1 c != 0) = true := h11; simpa using h11
        -- R:FTT
        conv => whnf
        unfold betB
        rw [if_neg (by rw [he1]; simp), if_neg (by rw [he2]; simp), rows_hit hcl hd h11]
        rfl
      · skip
        have h11 : rwC ls.length v.1 w.1 c = 0 := by have h11 : (rwC ls.length v.1 w.1 c != 0) = false := h11; simpa using h11
        -- Z8:TF
        conv => whnf
        refine ⟨⟨26388279066817, [], []⟩, ?_⟩
        conv => whnf
        rw [hwc]
        exact hZ2 (c + 1) ⟨hcl, up_succ hd h11⟩ (by omega)
    · skip
      have hcg : c = cs.length := by have := of_decide_eq_false h8; omega
      -- R:FF
      conv => whnf
      unfold betB
      rw [if_neg (by rw [he1]; simp), if_neg (by rw [he2]; simp), rows_no (by rw [← hcg]; exact hd)]

theorem op92 : Opens PR 92 := ⟨_, Tryd.func92, rfl, rfl⟩

end Go.Ab.MkF
