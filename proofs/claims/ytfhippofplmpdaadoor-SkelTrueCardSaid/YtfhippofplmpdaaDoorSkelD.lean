/-
  THE SKELETON FAMILY, PART WF: the iterator ways.
  THE SKELETON FAMILY, PART WG: fewest, Fewest, Presses: of the program.
  THE SKELETON FAMILY, PART WH: Standing: of the program.
  THE SKELETON FAMILY, PART WI: Doubt, and what is least: of the program.
-/
import Derived.Test.YtfhippofplmpdaaDoorSkelC
namespace Go.Ab.SkF
open Go Go.Ab Go.Ab.Pln Go.Proofs
set_option maxHeartbeats 1000000
set_option maxRecDepth 100000

/-- What masks say. -/
def relOf (g : List Nat) : Rel := fun i k => (g.getD i 0).testBit k
abbrev pad8 (l : List Nat) : List Nat := l ++ List.replicate (8 - l.length) 0
abbrev fill8 (n lim : Nat) (gm mm : List Nat) : AV S := .clo (.func 115) [] [.ref [vI n], .up 5 [], .up 6 [], .ref [vI lim], .ref [arr8 gm], .ref [arr8 mm], .up 7 []]
abbrev upsI (n lim : Nat) (gm mm : List Nat) (xs : List Int) : List (Nat × AO S) := [(5, .cells [.cb]), (6, .cells [.arr (S := S) U.int 8 xs]), (7, .cells [fill8 n lim gm mm])]
abbrev ups115 (n lim : Nat) (gm mm cur : List Nat) : List (Nat × AO S) := upsI n lim gm mm (natsV cur)

/-- What stands in numbers while they are made. -/
structure Cur (n t : Nat) (l cur : List Nat) : Prop where
  len : cur.length = 8
  tk : cur.take t = l
  z : ∀ j, n ≤ j → j < 8 → cur[j]? = some 0
theorem Cur.set {n t k : Nat} {l cur : List Nat} (h : Cur n t l cur) (ht : t < n) (hn : n ≤ 8) : Cur n (t + 1) (l ++ [k]) (cur.set t k) := by
  refine ⟨by simp [h.len], ?_, fun j hj hj5 => ?_⟩
  · rw [List.take_set, List.take_succ_eq_append_getElem (by rw [h.len]; omega), h.tk]
    have hp : l.length = t := by rw [← h.tk, List.length_take, h.len]; omega
    rw [List.set_append_right _ _ (by omega)]
    simp [hp]
  · rw [List.getElem?_set_ne (by omega)]
    exact h.z j hj hj5
theorem Cur.back {n t k : Nat} {l cur : List Nat} (h : Cur n (t + 1) (l ++ [k]) cur) (hp : l.length = t) : Cur n t l cur :=
  ⟨h.len, by have := congrArg (List.take t) h.tk; rw [List.take_take, Nat.min_eq_left (Nat.le_succ t), List.take_append_of_le_length (by omega)] at this; rw [this, List.take_of_length_le (by omega)], h.z⟩
theorem Cur.done {n : Nat} {l cur : List Nat} (h : Cur n n l cur) (hn : n ≤ 8) : cur = pad8 l := by
  have hp : l.length = n := by rw [← h.tk, List.length_take, h.len]; omega
  apply List.ext_getElem?
  intro j
  rcases Nat.lt_or_ge j n with hj | hj
  · rw [List.getElem?_append_left (by omega), ← h.tk, List.getElem?_take, if_pos hj]
  · rw [List.getElem?_append_right (by omega)]
    rcases Nat.lt_or_ge j 8 with hj5 | hj5
    · rw [h.z j hj hj5, List.getElem?_replicate, if_pos (by omega)]
    · rw [List.getElem?_eq_none (by rw [h.len]; exact hj5), List.getElem?_eq_none (by simp; omega)]
theorem Cur.get {n t j : Nat} {l cur : List Nat} (h : Cur n t l cur) (hj : j < t) : cur.getD j 0 = l.getD j 0 := by rw [← h.tk, getD_take hj]
theorem okN_T {G M : Rel} {l : List Nat} {x t : Nat} (ht : l.length = t) (h : ∀ k, k < t → (G t k && l.getD k 0 != x || M t k && l.getD k 0 == x) = false) : okN G M l x = true := by
  subst ht
  unfold okN
  rw [List.all_eq_true]
  intro k hk
  rw [h k (List.mem_range.1 hk)]; rfl
theorem okN_F {G M : Rel} {l : List Nat} {x t k : Nat} (ht : l.length = t) (hk : k < t) (h : (G t k && l.getD k 0 != x || M t k && l.getD k 0 == x) = true) : okN G M l x = false := by
  subst ht
  unfold okN
  rw [← Bool.not_eq_true, List.all_eq_true]
  intro h'
  have := h' k (List.mem_range.2 hk)
  rw [h] at this; cases this
theorem neN {a b : Nat} : (((a : Nat) : Int) != ((b : Nat) : Int)) = (a != b) := by
  rw [Bool.eq_iff_iff]; simp; omega
theorem eqN {a b : Nat} : (((a : Nat) : Int) == ((b : Nat) : Int)) = (a == b) := by
  rw [Bool.eq_iff_iff]; simp; omega

theorem op115 : Opens PR 115 := ⟨_, Tryd.func115, rfl, rfl⟩

theorem u115 (gl : Gl) (Y : Type) (B : List (AV S) → Y → (AV S → Y → Prop) → Prop) (hm : BMono B) (n lim : Nat) (hn : n ≤ 8) (_hl8 : lim ≤ 9) (gm mm : List Nat) (hgm : gm.length = 8) (hmm : mm.length = 8) (hg : ∀ i, i < n → gm.getD i 0 < 2 ^ 8) (hmt : ∀ i, i < n → mm.getD i 0 < 2 ^ 8) :
    ∀ (m t u : Nat) (l cur : List Nat), t + m = n → l.length = t → u ≤ t → Cur n t l cur → ∀ (y : Y) (Q : AV S → List (Nat × AO S) → Y → Prop),
    eachR B ((ways (relOf gm) (relOf mm) lim m l u).map fun p : List Nat × Nat => [.agg [arr8 (pad8 p.1)], vI p.2]) y (fun b y' => ∀ cur', Cur n t l cur' → Q (.bool b) (ups115 n lim gm mm cur') y') → ∀ En : Env Y, CbOk PR gl En B →
    UCalls PR gl En 115 [vI t, vI u, .ref [vI n], .up 5 [], .up 6 [], .ref [vI lim], .ref [arr8 gm], .ref [arr8 mm], .up 7 []] (ups115 n lim gm mm cur) y Q := by
  intro m
  induction m
  case zero =>
    intro t u l cur htm hp hu hc y Q h En hB
    refine fnU_sound (pb_ok gl Y B En hB) Tryd.func115 ?_
    conv => whnf
    refine bcase_iff.2 ⟨fun _ => ?_, fun h' => ?_⟩
    · conv => whnf
      have ht : t = n := by omega
      subst ht
      have h : B [.agg [arr8 (pad8 l)], vI u] y fun r y' => match r with
        | .bool b => match b with
          | true => ∀ cur', Cur t t l cur' → Q (.bool true) (ups115 t lim gm mm cur') y'
          | false => ∀ cur', Cur t t l cur' → Q (.bool false) (ups115 t lim gm mm cur') y'
        | _ => False := h
      rw [← hc.done hn] at h
      refine hm _ _ _ _ (fun r y' hr => ?_) h
      cases r with
      | bool b =>
        conv => whnf
        cases b with
        | true => exact hr _ hc
        | false => exact hr _ hc
      | _ => exact hr.elim
    · have : t = n := by omega
      subst this
      simp at h'
  rename_i m ih
  intro t u l cur htm hp hu hc y Q h En hB
  refine fnU_sound (pb_ok gl Y B En hB) Tryd.func115 ?_
  conv => whnf
  refine bcase_iff.2 ⟨fun h1 => ?_, fun h1 => ?_⟩
  · skip
    exfalso
    have : (t : Int) = n := by simpa using h1
    omega --done
  · skip
    have htn : t < n := by omega
    have hmin : (if IntKind.i64.wrap ((u : Int) + 1) < (lim : Int) then IntKind.i64.wrap ((u : Int) + 1) else (lim : Int)) = ((min lim (u + 1) : Nat) : Int) := by
      rw [wrap_nat (by omega)]; split <;> omega
    have hwt : IntKind.i64.wrap ((t : Int) + 1) = ((t + 1 : Nat) : Int) := wrap_nat (by omega)
    rw [ways, List.range_eq_range'] at h
    conv => whnf
    refine ⟨⟨50332115, [], []⟩, ?_⟩
    refine LoopW_indX _ (fun s9 : Nat × List Nat × Y => match s9 with | (x, cur, y) => (({ tmps := [vI t, vI u, .undef, .undef, .up 6 [], .undef, .ref [arr8 gm], .ref [arr8 mm], .up 7 [], .undef, .undef, .undef, .undef, .undef, .undef, .undef, .undef, .undef, .undef, .undef, .undef, .undef, .undef, .undef, vI (if IntKind.i64.wrap ((u : Int) + 1) < (lim : Int) then IntKind.i64.wrap ((u : Int) + 1) else (lim : Int)), vI x, .undef, .undef, .undef, .undef, .undef, .undef, .undef, .undef, .undef, .undef, .undef, .undef, .undef, .undef, .undef, .undef, .undef, .undef, .undef, .undef, .undef, .undef, .undef, .undef, .undef, .undef, .undef, .undef, .undef, .undef, .undef, .undef, .undef, .undef, .undef, .undef, .undef, .undef, .undef, .undef, .undef, .undef, .undef, .undef, .undef, .undef, .undef, .undef, .undef, .undef], seg := [], up := ups115 n lim gm mm cur } : St S))) (fun s9 : Nat × List Nat × Y => match s9 with | (x, cur, y) => (y)) (fun s9 : Nat × List Nat × Y => match s9 with | (x, cur, y) => (x ≤ min lim (u + 1) ∧ Cur n t l cur ∧ eachR B (((List.range' x (min lim (u + 1) - x)).flatMap fun x => if okN (relOf gm) (relOf mm) l x then ways (relOf gm) (relOf mm) lim m (l ++ [x]) (max u (x + 1)) else []).map (fun p : List Nat × Nat => [.agg [arr8 (pad8 p.1)], vI p.2])) y (fun b y' => ∀ cur', Cur n t l cur' → Q (.bool b) (ups115 n lim gm mm cur') y'))) (fun s9 : Nat × List Nat × Y => match s9 with | (x, cur, y) => (min lim (u + 1) - x)) ?_ (0, cur, y) ⟨Nat.zero_le _, hc, h⟩
    rintro ⟨x, cur, y⟩ hinv Z1 hZ1
    dsimp only at hinv hZ1
    obtain ⟨hx0, hc, h⟩ := hinv
    conv => whnf
    refine bcase_iff.2 ⟨fun h4 => ?_, fun h4 => ?_⟩
    · skip
      rw [hmin] at h4
      have hx : x < min lim (u + 1) := by have := of_decide_eq_true h4; omega
      have hw : IntKind.i64.wrap ((x : Int) + 1) = ((x + 1 : Nat) : Int) := wrap_nat (by omega)
      rw [show min lim (u + 1) - x = (min lim (u + 1) - (x + 1)) + 1 by omega, List.range'_succ, List.flatMap_cons, List.map_append] at h
      conv => whnf
      refine ⟨⟨855642579, [], []⟩, ?_⟩
      refine LoopW_indX _ (fun k : Nat => (({ tmps := [vI t, vI u, .undef, .undef, .up 6 [], .undef, .ref [arr8 gm], .ref [arr8 mm], .up 7 [], .undef, .undef, .undef, vI x, .undef, .undef, .undef, .undef, .undef, .undef, .undef, .undef, .undef, .undef, .undef, vI (if IntKind.i64.wrap ((u : Int) + 1) < (lim : Int) then IntKind.i64.wrap ((u : Int) + 1) else (lim : Int)), vI x, .undef, .undef, vI t, vI k, .undef, .undef, .undef, .undef, .undef, .undef, .undef, .undef, .undef, .undef, .undef, .undef, .undef, .undef, .undef, .undef, .undef, .undef, .undef, .undef, .undef, .undef, .undef, .undef, .undef, .undef, .undef, .undef, .undef, .undef, .undef, .undef, .undef, .undef, .undef, .undef, .undef, .undef, .undef, .undef, .undef, .undef, .undef, .undef, .undef, .undef], seg := [], up := ups115 n lim gm mm cur } : St S))) (fun k : Nat => (y)) (fun k : Nat => (k ≤ t ∧ ∀ j, j < k → (relOf gm t j && l.getD j 0 != x || relOf mm t j && l.getD j 0 == x) = false)) (fun k : Nat => (t - k)) ?_ 0 ⟨Nat.zero_le _, fun j hj => absurd hj (Nat.not_lt_zero j)⟩
      intro k hinv Z2 hZ2
      obtain ⟨hk, hd⟩ := hinv
      conv => whnf
      refine bcase_iff.2 ⟨fun h7 => ?_, fun h7 => ?_⟩
      · skip
        have hk7 : k < t := by have := of_decide_eq_true h7; omega
        have hwk : IntKind.i64.wrap ((k : Int) + 1) = ((k + 1 : Nat) : Int) := wrap_nat (by omega)
        have hck := hc.get hk7
        conv => whnf
        refine ⟨_, getI_natsD (by rw [hgm]; omega), ?_⟩
        conv => whnf
        refine ⟨by omega, ?_⟩
        conv => whnf
        refine bcase_iff.2 ⟨fun g9_7 => ?_, fun g9_7 => ?_⟩
        · skip
          have g1 : relOf gm t k = true := by
            have := bitN (lt63 (hg t htn)) (show k < 64 by omega)
            rw [← g9_7]
            exact this.symm
          conv => whnf
          refine ⟨by omega, by omega, ?_⟩
          conv => whnf
          refine ⟨_, getI_natsD (by rw [hc.len]; omega), ?_⟩
          conv => whnf
          refine bcase_iff.2 ⟨fun g9_14 => ?_, fun g9_14 => ?_⟩
          · skip
            have g2 : (l.getD k 0 != x) = true := by rw [← hck, ← neN]; exact g9_14
            -- Z4:TTTT
            conv => whnf
            refine ⟨⟨50332115, [], []⟩, ?_⟩
            conv => whnf
            have hbad : okN (relOf gm) (relOf mm) l x = false := okN_F hp hk7 (by rw [g1, g2]; simp)
            rw [hbad] at h
            simp only [Bool.false_eq_true, if_false, List.map_nil, List.nil_append] at h
            rw [hw]
            exact hZ1 (x + 1, cur, y) ⟨hx, hc, h⟩ (by omega)
          · skip
            have g2 : (l.getD k 0 != x) = false := by rw [← hck, ← neN]; exact g9_14
            conv => whnf
            refine ⟨_, getI_natsD (by rw [hmm]; omega), ?_⟩
            conv => whnf
            refine ⟨by omega, ?_⟩
            conv => whnf
            refine bcase_iff.2 ⟨fun g9_22 => ?_, fun g9_22 => ?_⟩
            · skip
              have g3 : relOf mm t k = true := by
                have := bitN (lt63 (hmt t htn)) (show k < 64 by omega)
                rw [← g9_22]
                exact this.symm
              conv => whnf
              refine ⟨by omega, by omega, ?_⟩
              conv => whnf
              refine ⟨_, getI_natsD (by rw [hc.len]; omega), ?_⟩
              conv => whnf
              refine bcase_iff.2 ⟨fun h9 => ?_, fun h9 => ?_⟩
              · skip
                have g4 : (l.getD k 0 == x) = true := by rw [← hck, ← eqN]; exact h9
                -- Z4:TTTFTT
                conv => whnf
                refine ⟨⟨50332115, [], []⟩, ?_⟩
                conv => whnf
                have hbad : okN (relOf gm) (relOf mm) l x = false := okN_F hp hk7 (by rw [g3, g4]; simp)
                rw [hbad] at h
                simp only [Bool.false_eq_true, if_false, List.map_nil, List.nil_append] at h
                rw [hw]
                exact hZ1 (x + 1, cur, y) ⟨hx, hc, h⟩ (by omega)
              · skip
                have g4 : (l.getD k 0 == x) = false := by rw [← hck, ← eqN]; exact h9
                -- Z7:TTFTF
                conv => whnf
                refine ⟨⟨855642579, [], []⟩, ?_⟩
                conv => whnf
                rw [hwk]
                exact hZ2 (k + 1) ⟨hk7, up_succ hd (by rw [g1, g2, g3, g4]; simp)⟩ (by omega)
            · skip
              have g3 : relOf mm t k = false := by
                have := bitN (lt63 (hmt t htn)) (show k < 64 by omega)
                rw [← g9_22]
                exact this.symm
              -- Z7:TTFF
              conv => whnf
              refine ⟨⟨855642579, [], []⟩, ?_⟩
              conv => whnf
              rw [hwk]
              exact hZ2 (k + 1) ⟨hk7, up_succ hd (by rw [g1, g2, g3]; simp)⟩ (by omega)
        · skip
          have g1 : relOf gm t k = false := by
            have := bitN (lt63 (hg t htn)) (show k < 64 by omega)
            rw [← g9_7]
            exact this.symm
          conv => whnf
          refine ⟨_, getI_natsD (by rw [hmm]; omega), ?_⟩
          conv => whnf
          refine ⟨by omega, ?_⟩
          conv => whnf
          refine bcase_iff.2 ⟨fun g9_22 => ?_, fun g9_22 => ?_⟩
          · skip
            have g3 : relOf mm t k = true := by
              have := bitN (lt63 (hmt t htn)) (show k < 64 by omega)
              rw [← g9_22]
              exact this.symm
            conv => whnf
            refine ⟨by omega, by omega, ?_⟩
            conv => whnf
            refine ⟨_, getI_natsD (by rw [hc.len]; omega), ?_⟩
            conv => whnf
            refine bcase_iff.2 ⟨fun h9 => ?_, fun h9 => ?_⟩
            · skip
              have g4 : (l.getD k 0 == x) = true := by rw [← hck, ← eqN]; exact h9
              -- Z4:TTFTT
              conv => whnf
              refine ⟨⟨50332115, [], []⟩, ?_⟩
              conv => whnf
              have hbad : okN (relOf gm) (relOf mm) l x = false := okN_F hp hk7 (by rw [g3, g4]; simp)
              rw [hbad] at h
              simp only [Bool.false_eq_true, if_false, List.map_nil, List.nil_append] at h
              rw [hw]
              exact hZ1 (x + 1, cur, y) ⟨hx, hc, h⟩ (by omega)
            · skip
              have g4 : (l.getD k 0 == x) = false := by rw [← hck, ← eqN]; exact h9
              -- Z7:TFTF
              conv => whnf
              refine ⟨⟨855642579, [], []⟩, ?_⟩
              conv => whnf
              rw [hwk]
              exact hZ2 (k + 1) ⟨hk7, up_succ hd (by rw [g1, g3, g4]; simp)⟩ (by omega)
          · skip
            have g3 : relOf mm t k = false := by
              have := bitN (lt63 (hmt t htn)) (show k < 64 by omega)
              rw [← g9_22]
              exact this.symm
            -- Z7:TFF
            conv => whnf
            refine ⟨⟨855642579, [], []⟩, ?_⟩
            conv => whnf
            rw [hwk]
            exact hZ2 (k + 1) ⟨hk7, up_succ hd (by rw [g1, g3]; simp)⟩ (by omega)
      · skip
        have hkt : k = t := by have := of_decide_eq_false h7; omega
        rw [hkt] at hd
        have hok := okN_T hp hd
        rw [hok, if_pos rfl] at h
        have hmx : (if IntKind.i64.wrap ((x : Int) + 1) > (u : Int) then IntKind.i64.wrap ((x : Int) + 1) else (u : Int)) = ((max u (x + 1) : Nat) : Int) := by
          rw [hw]; split <;> omega
        conv => whnf
        refine ⟨by omega, by omega, ?_⟩
        conv => whnf
        refine ⟨_, getI_natsD (by rw [hc.len]; omega), ?_⟩
        conv => whnf
        refine ⟨_, rfl, ?_⟩
        conv => whnf
        refine ⟨fun En' hB' => uc2 hwt hmx (uc3 (congrArg (upsI n lim gm mm) (nats_set cur t x)) (ih (t + 1) (max u (x + 1)) (l ++ [x]) (cur.set t x) (by omega) (by simp [hp]) (by omega) (hc.set htn hn) y _ ?_ En' hB')), op115⟩
        refine eachR_mono hm _ _ _ _ (fun b y' hb cur' hc' => ?_) (eachR_append hm _ _ _ _ h)
        rcases b with _ | _
        · skip
          -- R:FTFa
          conv => whnf
          exact hb cur' (hc'.back hp)
        · skip
          -- Z4:TFb
          conv => whnf
          refine ⟨⟨50332115, [], []⟩, ?_⟩
          conv => whnf
          rw [hw]
          exact hZ1 (x + 1, cur', y') ⟨hx, hc'.back hp, hb⟩ (by omega)
    · skip
      rw [hmin] at h4
      have hxe : min lim (u + 1) - x = 0 := by have := of_decide_eq_false h4; omega
      rw [hxe] at h
      have h : ∀ cur', Cur n t l cur' → Q (.bool true) (ups115 n lim gm mm cur') y := h
      -- R:FF
      conv => whnf
      exact h cur hc

theorem it114 (gl : Gl) (n : Nat) (hn : n ≤ 8) (gm mm : List Nat) (hgm : gm.length = 8) (hmm : mm.length = 8) (hg : ∀ i, i < n → gm.getD i 0 < 2 ^ 8) (hmt : ∀ i, i < n → mm.getD i 0 < 2 ^ 8) (lim : Nat) (hl : lim ≤ 9) : ICalls PR gl 114 [.ref [vI n], .ref [vI lim], .ref [arr8 gm], .ref [arr8 mm]] ((waysA (relOf gm) (relOf mm) lim n).map fun p : List Nat × Nat => [.agg [arr8 (pad8 p.1)], vI p.2]) := by
  refine iter_sound Tryd.func114 (pb gl) (pb_ok gl) fun Y B hm y Q h => ?_
  conv => whnf
  refine ⟨fun En' hB' => u115 gl Y B hm n lim hn hl gm mm hgm hmm hg hmt n 0 0 [] (List.replicate 8 0) (by omega) rfl (Nat.le_refl _) ⟨rfl, rfl, fun j _ hj => by rw [List.getElem?_replicate, if_pos hj]⟩ y _ ?_ En' hB', op115⟩
  refine eachR_mono hm _ _ _ _ (fun b y' hb cur' _ => ?_) (eachR_of_B hm _ _ _ h)
  cases b <;> (conv => whnf) <;> exact hb
theorem op114 : Opens PR 114 := ⟨_, Tryd.func114, rfl, rfl⟩

theorem c90 (gl : Gl) (n lim : Nat) (gm mm : List Nat) : PCalls PR gl 90 [vI n, vI lim, .agg [arr8 gm], .agg [arr8 mm]] fun r => r = .clo (.func 114) [] [.ref [vI n], .ref [vI lim], .ref [arr8 gm], .ref [arr8 mm]] := by
  refine fnW_sound (par_ok gl) Tryd.func90 ?_
  -- R:
  conv => whnf

theorem op90 : Opens PR 90 := ⟨_, Tryd.func90, rfl, rfl⟩

end Go.Ab.SkF

namespace Go.Ab.SkF
open Go Go.Ab Go.Ab.Pln Go.Proofs
set_option maxHeartbeats 1000000
set_option maxRecDepth 100000

theorem fewS_at {G M : Rel} {n i : Nat} {p : List Nat × Nat} {l : List (List Nat × Nat)} (hi : i < n) (h : ∀ j, j < i → waysA G M (j + 1) n = []) (hw : waysA G M (i + 1) n = p :: l) : fewS G M n = p := by
  unfold fewS
  rw [show n = i + ((n - i - 1) + 1) by omega, List.range_eq_range', ← List.range'_append_1, List.findSome?_append, Nat.zero_add, List.range'_succ, List.findSome?_cons]
  have h0 : (List.range' 0 i).findSome? (fun lim => (waysA G M (lim + 1) (i + ((n - i - 1) + 1))).head?) = none := by
    rw [List.findSome?_eq_none_iff]
    intro j hj
    rw [List.mem_range'_1] at hj
    rw [show i + ((n - i - 1) + 1) = n by omega, h j (by omega)]; rfl
  rw [h0, show i + ((n - i - 1) + 1) = n by omega, hw]; rfl
theorem fewS_no {G M : Rel} {n : Nat} (h : ∀ j, j < n → waysA G M (j + 1) n = []) : fewS G M n = ([], 0) := by
  unfold fewS
  rw [List.findSome?_eq_none_iff.2 (fun j hj => by rw [h j (List.mem_range.1 hj)]; rfl)]; rfl

theorem c84 (gl : Gl) (n : Nat) (hn : n ≤ 8) (gm mm : List Nat) (hgm : gm.length = 8) (hmm : mm.length = 8) (hg : ∀ i, i < n → gm.getD i 0 < 2 ^ 8) (hmt : ∀ i, i < n → mm.getD i 0 < 2 ^ 8) : PCalls PR gl 84 [vI n, .agg [arr8 gm], .agg [arr8 mm]] fun r => r = .tup [.agg [arr8 (pad8 (fewS (relOf gm) (relOf mm) n).1)], vI (fewS (relOf gm) (relOf mm) n).2] := by
  refine fnW_sound (par_ok gl) Tryd.func84 ?_
  conv => whnf
  refine ⟨⟨6385, [], []⟩, ?_⟩
  refine LoopW_ind _ (fun i : Nat => (({ tmps := [vI n, .undef, .undef, .undef, .own 4 [], .own 5 [], .own 6 [], .own 7 [], .undef, .undef, .undef, vI n, vI i, .undef, .undef, .undef, .undef, .undef, .undef, .undef, .undef, .undef, .undef, .undef, .undef, .undef, .undef], seg := [(4, .cells [arr8 gm]), (5, .cells [arr8 mm]), (6, .cells [arr8 (List.replicate 8 0)]), (7, .cells [vI 0])], up := [] } : St S))) (fun i : Nat => (i ≤ n ∧ ∀ j, j < i → waysA (relOf gm) (relOf mm) (j + 1) n = [])) (fun i : Nat => (n - i)) () ?_ 0 ⟨Nat.zero_le _, fun j h => absurd h (Nat.not_lt_zero j)⟩
  intro i hinv Z1 hZ1
  obtain ⟨hi, hd⟩ := hinv
  conv => whnf
  refine bcase_iff.2 ⟨fun h2 => ?_, fun h2 => ?_⟩
  · skip
    have hlt : i < n := by have := of_decide_eq_true h2; omega
    have hw : IntKind.i64.wrap ((i : Int) + 1) = ((i + 1 : Nat) : Int) := wrap_nat (by omega)
    conv => whnf
    refine byC (by have := c90 gl n (i + 1) gm mm; rw [← hw] at this; exact this) op90 ?_
    conv => whnf
    refine ⟨⟨1054961, [], []⟩, ?_⟩
    conv => whnf
    refine ⟨(waysA (relOf gm) (relOf mm) (i + 1) n).map fun p : List Nat × Nat => [.agg [arr8 (pad8 p.1)], vI p.2], ⟨(by have := it114 gl n hn gm mm hgm hmm hg hmt (i + 1) (by omega); rw [← hw] at this; exact this), op114⟩, ?_⟩
    rcases hW5 : waysA (relOf gm) (relOf mm) (i + 1) n with _ | ⟨p, l⟩
    · skip
      -- Z2:Tn
      conv => whnf
      refine ⟨⟨6385, [9, 1009, 2009, 3009, 4009], []⟩, ?_⟩
      conv => whnf
      rw [hw]
      exact hZ1 (i + 1) ⟨hlt, up_succ hd hW5⟩ (by omega)
    · skip
      have hf := fewS_at hlt hd hW5
      -- R:Tc
      conv => whnf
      rw [hf]
  · skip
    have hge : i = n := by have := of_decide_eq_false h2; omega
    -- R:F
    conv => whnf
    rw [fewS_no (fun j hj => hd j (by omega))]
    rfl

theorem op84 : Opens PR 84 := ⟨_, Tryd.func84, rfl, rfl⟩


theorem rel_meet {R : Rel} {n i k : Nat} (hn : n ≤ 8) (hi : i < n) (hk : k < i) : relOf (meetM R n) i k = R i k := by
  unfold relOf
  rw [meet_bit hn hi]
  simp [show k < n by omega]
theorem few_job {fs : Fms} {ss : Sgs} (h8 : fs.length ≤ 8) : fewS (relOf (groupsM fs.length ss)) (relOf (meetM (stN fs) fs.length)) fs.length = skelJ fs ss :=
  fewS_congr fun _ _ hi hk => ⟨rfl, rel_meet h8 hi hk⟩
theorem ways_job {fs : Fms} {ss : Sgs} (h8 : fs.length ≤ 8) (lim : Nat) : waysA (relOf (groupsM fs.length ss)) (relOf (meetM (stN fs) fs.length)) lim fs.length = waysA (grpB fs.length ss) (stN fs) lim fs.length :=
  waysA_congr (fun _ _ hi hk => ⟨rfl, rel_meet h8 hi hk⟩) lim
theorem c84j (gl : Gl) (fs : Fms) (ss : Sgs) (h8 : fs.length ≤ 8) (hs : SsOk fs.length 6 ss) : PCalls PR gl 84 [vI fs.length, .agg [arr8 (groupsM fs.length ss)], .agg [arr8 (meetM (stN fs) fs.length)]] fun r => r = .tup [.agg [arr8 (pad8 (skelJ fs ss).1)], vI (skelJ fs ss).2] := by
  have h := c84 gl fs.length h8 (groupsM fs.length ss) (meetM (stN fs) fs.length) (groups_len fs ss) (meetM_len _ _) (fun i hi => groups_lt h8 hs (by omega)) (fun i hi => meetM_lt h8 hi)
  rw [few_job h8] at h
  exact h
theorem rel_alone {i k : Nat} (hi : i < 8) : relOf aloneM i k = aloneB i k := by
  unfold relOf aloneB
  rw [← aloneU_full]
  have : (aloneU 8).getD i 0 = 2 ^ i := by simp [aloneU, List.getD_eq_getElem?_getD, hi]
  rw [this, Nat.testBit_two_pow]
  rfl
theorem few_press {fs : Fms} (h8 : fs.length ≤ 8) : fewS (relOf aloneM) (relOf (meetM (prN fs) fs.length)) fs.length = pressJ fs :=
  fewS_congr fun i k hi hk => ⟨rel_alone (by omega), rel_meet h8 hi hk⟩
theorem c84p (gl : Gl) (fs : Fms) (h8 : fs.length ≤ 8) : PCalls PR gl 84 [vI fs.length, .agg [arr8 aloneM], .agg [arr8 (meetM (prN fs) fs.length)]] fun r => r = .tup [.agg [arr8 (pad8 (pressJ fs).1)], vI (pressJ fs).2] := by
  have h := c84 gl fs.length h8 aloneM (meetM (prN fs) fs.length) rfl (meetM_len _ _) (fun i hi => by
    rw [← aloneU_full]
    have : (aloneU 8).getD i 0 = 2 ^ i := by simp [aloneU, List.getD_eq_getElem?_getD, show i < 8 by omega]
    rw [this]; exact Nat.pow_lt_pow_right (by omega) (by omega)) (fun i hi => meetM_lt h8 hi)
  rw [few_press h8] at h
  exact h
theorem take_pad {x : List Nat} {n : Nat} (h : x.length = n) : (natsV (pad8 x)).take n = natsV x := by
  subst h
  simp [natsV, pad8]

theorem c28 (ts : List ByteArray) (fs : List Fm) (ss : List Sg) (hL : LensJ ts fs ss) : PCalls PR glT 28 [.agg [strsV ts, fmsV fs, sgsV ss]] fun r => r = .tup [vL (fewR ts fs ss).1, vI (fewR ts fs ss).2.1, vI (fewR ts fs ss).2.2] := by
  refine fnW_sound (par_ok glT) Tryd.func28 ?_
  conv => whnf
  refine byC (c83 ts fs ss hL) op83 ?_
  rcases Classical.em (askE ts fs ss = 0) with hk | hk
  · skip
    rw [enterV_ok hk]
    have hv := (ask_valid hk).job
    have h8 := hv.n8
    have hs6 := hv.s6
    have h0 := hv.n0
    obtain ⟨x0, u0, hsk⟩ := skel_of h0 h8 hs6 (ask_clash hk)
    have hsl : List.drop 0 (List.take ((fs.length : Int)).toNat (natsV (pad8 (skelJ fs ss).1))) = natsV x0 := by rw [hsk.eq, List.drop_zero, Int.toNat_natCast]; exact take_pad hsk.few.way.len
    have hxl : (natsV x0).length = fs.length := by rw [natsV_length]; exact hsk.few.way.len
    have hxne : natsV x0 ≠ [] := fun e => by rw [e] at hxl; simp at hxl; omega
    conv => whnf
    refine ⟨[0, 1, 2, 3, 4, 5, 6, 7, 8, 9, 10, 11, 12, 13, 14, 15, 16, 17], [15], [16], [], ⟨68719476735, [], []⟩, by decide +kernel, ?_⟩
    conv => whnf
    refine byC (c84j glT fs ss h8 hs6) op84 ?_
    conv => whnf
    refine ⟨by omega, ?_⟩
    conv => whnf
    refine ⟨by omega, by simp <;> omega, ?_⟩
    conv => whnf
    refine byC (by have h := c85 glT (natsV x0) hxne (by omega); rw [← hsl] at h; exact to h (congrArg vL hsl)) op85 ?_
    -- R:a
    conv => whnf
    unfold fewR
    rw [if_neg (fun h => h hk), hsk.eq]
  · skip
    rw [enterV_no hk]
    conv => whnf
    refine bcase_iff.2 ⟨fun h2 => ?_, fun h2 => ?_⟩
    · skip
      -- R:bT
      conv => whnf
      unfold fewR
      rw [if_pos hk]
    · skip
      exfalso
      have h2 : (askE ts fs ss != 0) = false := h2
      exact hk (by simpa using h2) --done

theorem op28 : Opens PR 28 := ⟨_, Tryd.func28, rfl, rfl⟩

theorem press_few {fs : Fms} (h0 : 0 < fs.length) : ∃ x u, Few aloneB (prN fs) fs.length x u := few_of h0 (c := id) ⟨fun i k hki _ hg => by unfold aloneB at hg; simp at hg; omega, fun i k hki _ _ => by simp only [id]; omega⟩

theorem c36 (ts : List ByteArray) (fs : List Fm) (ss : List Sg) (hL : LensJ ts fs ss) : PCalls PR glT 36 [.agg [strsV ts, fmsV fs, sgsV ss]] fun r => r = .tup [vL (pressR ts fs ss).1, vI (pressR ts fs ss).2.1, vI (pressR ts fs ss).2.2] := by
  refine fnW_sound (par_ok glT) Tryd.func36 ?_
  conv => whnf
  refine byC (c16 glT ts fs ss hL.l) op16 ?_
  conv => whnf
  refine bcase_iff.2 ⟨fun h2 => ?_, fun h2 => ?_⟩
  · skip
    have hk : chE ts fs ss ≠ 0 := by have h2 : ((chk ts fs ss).2.2 != 0) = true := h2; simpa using h2
    -- R:T
    conv => whnf
    unfold pressR
    rw [if_pos hk]
  · skip
    have hk : chE ts fs ss = 0 := by have h2 : ((chk ts fs ss).2.2 != 0) = false := h2; simpa using h2
    have hv := (chk_valid.1 hk).job
    have h8 := hv.n8
    have hs6 := hv.s6
    have h0 := hv.n0
    obtain ⟨x0, u0, hsk⟩ := press_few h0
    have hpe : pressJ fs = (x0, u0) := hsk.eq
    have hsl : List.drop 0 (List.take ((fs.length : Int)).toNat (natsV (pad8 (pressJ fs).1))) = natsV x0 := by rw [hpe, List.drop_zero, Int.toNat_natCast]; exact take_pad hsk.way.len
    have hxl : (natsV x0).length = fs.length := by rw [natsV_length]; exact hsk.way.len
    have hxne : natsV x0 ≠ [] := fun e => by rw [e] at hxl; simp at hxl; omega
    conv => whnf
    refine ⟨[0, 1, 2, 4, 5, 3, 6, 7, 8, 9, 10, 11, 12, 13, 14], [12], [13], [], ⟨8589934591, [], []⟩, by decide +kernel, ?_⟩
    conv => whnf
    refine byC (c94 glT) op94 ?_
    conv => whnf
    refine byC (c96 glT) op96 ?_
    conv => whnf
    refine byC (c95p glT fs h8) op95 ?_
    conv => whnf
    refine byC (c84p glT fs h8) op84 ?_
    conv => whnf
    refine ⟨by omega, ?_⟩
    conv => whnf
    refine ⟨by omega, by simp <;> omega, ?_⟩
    conv => whnf
    refine byC (by have h := c85 glT (natsV x0) hxne (by omega); rw [← hsl] at h; exact to h (congrArg vL hsl)) op85 ?_
    -- R:F
    conv => whnf
    unfold pressR
    rw [if_neg (fun h => h hk), hpe]

theorem op36 : Opens PR 36 := ⟨_, Tryd.func36, rfl, rfl⟩

end Go.Ab.SkF

namespace Go.Ab.SkF
open Go Go.Ab Go.Ab.Pln Go.Proofs
set_option maxHeartbeats 1000000
set_option maxRecDepth 100000

theorem onP_succ (lo hi : Nat → Int) (n : Nat) (d : Int) : onP lo hi (n + 1) d = onP lo hi n d ++ if decide (lo n ≤ d) && decide (d ≤ hi n) then [n] else [] := by
  unfold onP
  rw [List.range_succ, List.filter_append]
  congr 1
  simp only [List.filter_cons, List.filter_nil]
theorem out_on (lo hi d : Int) : ([d].any (outB lo hi)) = !(decide (lo ≤ d) && decide (d ≤ hi)) := by
  rw [Bool.eq_iff_iff]
  simp [outB]
theorem onP_le (fs : Fms) (k : Nat) (d : Int) : (onP (setOf fs) (offOf fs) k d).length ≤ k := by
  unfold onP; have := List.length_filter_le (fun j => decide (setOf fs j ≤ d) && decide (d ≤ offOf fs j)) (List.range k); simpa using this
theorem natsV_snoc (l : List Nat) (k : Nat) : natsV (l ++ [k]) = natsV l ++ [(k : Int)] := by simp [natsV]

theorem c38 (gl : Gl) (ts : List ByteArray) (fs : List Fm) (ss : List Sg) (hL : LensJ ts fs ss) : PCalls PR gl 38 [.agg [strsV ts, fmsV fs, sgsV ss]] fun r => r = .tup [vI (standR ts fs ss).1, vL (standR ts fs ss).2.1, vI (standR ts fs ss).2.2] := by
  refine fnW_sound (par_ok gl) Tryd.func38 ?_
  conv => whnf
  refine byC (c16 gl ts fs ss hL.l) op16 ?_
  conv => whnf
  refine bcase_iff.2 ⟨fun h2 => ?_, fun h2 => ?_⟩
  · skip
    have hk : chE ts fs ss ≠ 0 := by have h2 : ((chk ts fs ss).2.2 != 0) = true := h2; simpa using h2
    -- R:T
    conv => whnf
    unfold standR
    rw [if_pos hk]
  · skip
    have hk : chE ts fs ss = 0 := by have h2 : ((chk ts fs ss).2.2 != 0) = false := h2; simpa using h2
    have hV := chk_valid.1 hk
    have hv := hV.job
    have h8 := hv.n8
    have h0 := hv.n0
    have hse := stand_eq h0 (fun i hi => by have := hV.forme hi; have e := getD_at (d := f0) hi; unfold setOf offOf; rw [e]; omega)
    conv => whnf
    refine loop_q fun Q1 hQ1 => ?_
    refine ⟨⟨7340046, [3], [3]⟩, ?_⟩
    refine LoopW_ind _ (fun i : Nat => (({ tmps := [.undef, .own 1 [], vI (standP fs i).1, vL (natsV (standP fs i).2), .undef, .undef, .undef, .undef, .undef, .undef, .undef, .undef, .undef, .undef, .undef, .undef, .undef, .undef, .undef, .undef, fmsV fs, vI fs.length, vI i, .undef, .undef, .undef, .undef, .undef, .undef, .undef, .undef, .undef, .undef, .undef, .undef, .undef, .undef, .undef, .undef, .undef, .undef, .undef, .undef, .undef, .undef, .undef, .undef, .undef, .undef, .undef, .undef, .undef, .undef, .undef, .undef, .undef, .undef, .undef, .undef, .undef, .undef, .undef, .undef, .undef, .undef, .undef, .undef, .undef, .undef, .undef, .undef, .undef], seg := [(1, .cells [strsV ts, fmsV fs, sgsV ss])], up := [] } : St S))) (fun i : Nat => (i ≤ fs.length)) (fun i : Nat => (fs.length - i)) () ?_ 0 (Nat.zero_le _)
    intro i hi Z1 hZ1
    conv => whnf
    refine bcase_iff.2 ⟨fun h5 => ?_, fun h5 => ?_⟩
    · skip
      have hlt : i < fs.length := by have := of_decide_eq_true h5; omega
      have hw : IntKind.i64.wrap ((i : Int) + 1) = ((i + 1 : Nat) : Int) := wrap_nat (by omega)
      have hgi : setOf fs i = fs[i].2.1 := by unfold setOf; rw [getD_at hlt]
      conv => whnf
      refine ⟨_, getI_nat (by omega), ?_⟩
      conv => whnf
      refine ⟨⟨946864334, [], [7]⟩, ?_⟩
      refine LoopW_ind _ (fun k : Nat => (({ tmps := [.undef, .own 1 [], vI (standP fs i).1, vL (natsV (standP fs i).2), .undef, .undef, .own 6 [], .sl (S := S) U.int (natsV (onP (setOf fs) (offOf fs) k (setOf fs i))) (some 7), .undef, .undef, .undef, .undef, .undef, .undef, .undef, .undef, .undef, .undef, .undef, .undef, fmsV fs, vI fs.length, vI i, .undef, .undef, .undef, .undef, fmsV fs, vI fs.length, vI k, .undef, .undef, .undef, .undef, .undef, .undef, .undef, .undef, .undef, .undef, .undef, .undef, .undef, .undef, .undef, .undef, .undef, .undef, .undef, .undef, .undef, .undef, .undef, .undef, .undef, .undef, .undef, .undef, .undef, .undef, .undef, .undef, .undef, .undef, .undef, .undef, .undef, .undef, .undef, .undef, .undef, .undef], seg := [(1, .cells [strsV ts, fmsV fs, sgsV ss]), (6, .cells (fmC fs[i])), (7, .row U.int false)], up := [] } : St S))) (fun k : Nat => (k ≤ fs.length)) (fun k : Nat => (fs.length - k)) () ?_ 0 (Nat.zero_le _)
      intro k hk9 Z2 hZ2
      conv => whnf
      refine bcase_iff.2 ⟨fun h9 => ?_, fun h9 => ?_⟩
      · skip
        have hlt9 : k < fs.length := by have := of_decide_eq_true h9; omega
        have hw9 : IntKind.i64.wrap ((k : Int) + 1) = ((k + 1 : Nat) : Int) := wrap_nat (by omega)
        have hgk : setOf fs k = fs[k].2.1 := by unfold setOf; rw [getD_at hlt9]
        have hok : offOf fs k = fs[k].2.2.2 := by unfold offOf; rw [getD_at hlt9]
        conv => whnf
        refine ⟨_, getI_nat (by omega), ?_⟩
        conv => whnf
        refine ⟨_, rfl, ?_⟩
        conv => whnf
        refine byC (c60 gl [fs[i].2.1] (by simp) fs[k].2.1 fs[k].2.2.2) op60 ?_
        conv => whnf
        refine bcase_iff.2 ⟨fun h11 => ?_, fun h11 => ?_⟩
        · skip
          have hon : onP (setOf fs) (offOf fs) (k + 1) (setOf fs i) = (onP (setOf fs) (offOf fs) k (setOf fs i)) ++ [k] := by
            rw [onP_succ, hgk, hok, hgi, if_pos]
            have h11 : (!([fs[i].2.1].any (outB fs[k].2.1 fs[k].2.2.2))) = true := h11
            rw [out_on] at h11; simpa using h11
          conv => whnf
          refine ⟨_, rfl, ?_⟩
          conv => whnf
          refine ⟨lim (by show (natsV (onP (setOf fs) (offOf fs) k (setOf fs i))).length + 1 ≤ _; rw [natsV_length]; have := onP_le fs k (setOf fs i); omega), ?_⟩
          -- Z9:TT
          conv => whnf
          refine ⟨⟨946864334, [9, 40, 45, 46, 1009, 2009, 3009, 4009], []⟩, ?_⟩
          conv => whnf
          rw [hw9]
          have := hZ2 (k + 1) hlt9 (by omega)
          rw [hon, natsV_snoc] at this
          exact this
        · skip
          have hon : onP (setOf fs) (offOf fs) (k + 1) (setOf fs i) = (onP (setOf fs) (offOf fs) k (setOf fs i)) := by
            rw [onP_succ, hgk, hok, hgi, if_neg, List.append_nil]
            have h11 : (!([fs[i].2.1].any (outB fs[k].2.1 fs[k].2.2.2))) = false := h11
            rw [out_on] at h11; simpa using h11
          -- Z9:TF
          conv => whnf
          refine ⟨⟨946864334, [9, 40, 45, 46, 1009, 2009, 3009, 4009], []⟩, ?_⟩
          conv => whnf
          rw [hw9]
          have := hZ2 (k + 1) hlt9 (by omega)
          rw [hon] at this
          exact this
      · skip
        have hge9 : k = fs.length := by have := of_decide_eq_false h9; omega
        rw [hge9]
        conv => whnf
        refine bcase_iff.2 ⟨fun g14_5 => ?_, fun g14_5 => ?_⟩
        · skip
          have hA : (onL fs (setOf fs i)).length > (standP fs i).2.length := by
            have g : ((natsV (onL fs (setOf fs i))).length : Int) > ((natsV (standP fs i).2).length : Int) := of_decide_eq_true g14_5
            rw [natsV_length, natsV_length] at g; exact Int.ofNat_lt.1 g
          -- Z5:TFT
          conv => whnf
          refine ⟨⟨7340046, [6, 7, 9, 40, 45, 46, 1006, 1009, 2006, 2009, 3006, 3009, 4006, 4009, 900007], [7]⟩, ?_⟩
          conv => whnf
          have hst : standP fs (i + 1) = (fs[i].2.1, onL fs (setOf fs i)) := by
            rw [standP_succ]; unfold standStep
            rw [if_pos (by simp only [hA, decide_true, Bool.true_or])]
            rw [hgi]
          rw [hw]
          have := hZ1 (i + 1) hlt (by omega)
          rw [hst] at this
          skip
          exact this
        · skip
          have hA : ¬ (onL fs (setOf fs i)).length > (standP fs i).2.length := by
            have g : ¬ ((natsV (onL fs (setOf fs i))).length : Int) > ((natsV (standP fs i).2).length : Int) := of_decide_eq_false g14_5
            rw [natsV_length, natsV_length] at g; exact fun h => g (Int.ofNat_lt.2 h)
          conv => whnf
          refine bcase_iff.2 ⟨fun g14_11 => ?_, fun g14_11 => ?_⟩
          · skip
            have hB : (onL fs (setOf fs i)).length = (standP fs i).2.length := by
              have g : (((natsV (onL fs (setOf fs i))).length : Int) == ((natsV (standP fs i).2).length : Int)) = true := g14_11
              rw [natsV_length, natsV_length] at g; simp at g; omega
            conv => whnf
            refine bcase_iff.2 ⟨fun h14 => ?_, fun h14 => ?_⟩
            · skip
              have hC : setOf fs i < (standP fs i).1 := by have := of_decide_eq_true h14; rw [hgi]; exact this
              -- Z5:TFFTT
              conv => whnf
              refine ⟨⟨7340046, [6, 7, 9, 40, 45, 46, 1006, 1009, 2006, 2009, 3006, 3009, 4006, 4009, 900007], [7]⟩, ?_⟩
              conv => whnf
              have hst : standP fs (i + 1) = (fs[i].2.1, onL fs (setOf fs i)) := by
                rw [standP_succ]; unfold standStep
                rw [if_pos (by simp [hB, hC])]
                rw [hgi]
              rw [hw]
              have := hZ1 (i + 1) hlt (by omega)
              rw [hst] at this
              skip
              exact this
            · skip
              have hC : ¬ setOf fs i < (standP fs i).1 := by have := of_decide_eq_false h14; rw [hgi]; exact this
              -- Z5:TFFTF
              conv => whnf
              refine ⟨⟨7340046, [6, 7, 9, 40, 45, 46, 1006, 1009, 2006, 2009, 3006, 3009, 4006, 4009, 900007], [7]⟩, ?_⟩
              conv => whnf
              have hst : standP fs (i + 1) = (standP fs i) := by
                rw [standP_succ]; unfold standStep
                rw [if_neg (by simp [hB, hC])]
              rw [hw]
              have := hZ1 (i + 1) hlt (by omega)
              rw [hst] at this
              skip
              exact this
          · skip
            have hB : ¬ (onL fs (setOf fs i)).length = (standP fs i).2.length := by
              have g : (((natsV (onL fs (setOf fs i))).length : Int) == ((natsV (standP fs i).2).length : Int)) = false := g14_11
              rw [natsV_length, natsV_length] at g; simp at g; omega
            -- Z5:TFFF
            conv => whnf
            refine ⟨⟨7340046, [6, 7, 9, 40, 45, 46, 1006, 1009, 2006, 2009, 3006, 3009, 4006, 4009, 900007], [7]⟩, ?_⟩
            conv => whnf
            have hst : standP fs (i + 1) = (standP fs i) := by
              rw [standP_succ]; unfold standStep
              rw [if_neg (by simp only [hA, beq_eq_false_iff_ne.2 hB, decide_false, Bool.false_and, Bool.or_self, Bool.false_eq_true, not_false_eq_true])]
            rw [hw]
            have := hZ1 (i + 1) hlt (by omega)
            rw [hst] at this
            skip
            exact this
    · skip
      have hge : i = fs.length := by have := of_decide_eq_false h5; omega
      conv => whnf
      refine (hQ1 _ _ _).mpr ?_
      -- R:FF
      conv => whnf
      unfold standR
      rw [if_neg (fun h => h hk), hge, hse]

theorem op38 : Opens PR 38 := ⟨_, Tryd.func38, rfl, rfl⟩

end Go.Ab.SkF

namespace Go.Ab.SkF
open Go Go.Ab Go.Ab.Pln Go.Proofs
set_option maxHeartbeats 1000000
set_option maxRecDepth 100000

/-- The boxes of Doubt. -/
abbrev upsD (ts : List ByteArray) (fs : Fms) (ss : Sgs) : List (Nat × AO S) := [(1, .cells (jobC ts fs ss)), (2, .row U.int true)]
theorem rest_test {n set i : Nat} (h : i < n) : ((2 ^ n - 1) ^^^ ((2 ^ n - 1) &&& set)).testBit i = !set.testBit i := by
  rw [Nat.testBit_xor, Nat.testBit_and, mask_bit h]; simp
theorem rest_lt {n set : Nat} (h : n ≤ 60) : ((2 ^ n - 1) ^^^ ((2 ^ n - 1) &&& set)) < 2 ^ 63 :=
  Nat.xor_lt_two_pow (mask_lt h) (Nat.lt_of_le_of_lt Nat.and_le_left (mask_lt h))
theorem op79 : Opens PR 79 := ⟨_, Tryd.func79, rfl, rfl⟩

theorem u79 (ts : List ByteArray) (fs : Fms) (ss : Sgs) (hV : Valid ts fs ss) (set : Nat) (hset : set < 2 ^ 63) (Q : AV S → List (Nat × AO S) → Unit → Prop) (h : Q (vB (doubtD ts.length fs ss set)) (upsD ts fs ss) ()) (En : Env Unit) :
    UCalls PR glT En 79 [vI set, .up 1 []] (upsD ts fs ss) () Q := by
  have hv := hV.job
  have h8 := hv.n8
  have hs6 := hv.s6
  have hv12 := hV.s12
  have hv6 := hV.t6
  obtain ⟨rest, hrest⟩ : ∃ rest, rest = ((2 ^ ss.length - 1) ^^^ ((2 ^ ss.length - 1) &&& set)) := ⟨_, rfl⟩
  have hrl : rest < 2 ^ 63 := by rw [hrest]; exact rest_lt (by omega)
  have hR : bitsI .andNot .i64 (IntKind.i64.wrap (shlI .i64 1 (ss.length : Int) - 1)) (set : Int) = ((rest : Nat) : Int) := by
    rw [mask_all (by omega), andNot_nat (mask_lt (by omega)) hset, hrest]
  have hpk : pickS ss rest.testBit = pickS ss fun i => !set.testBit i := pick_congr fun i hi => by rw [hrest, rest_test hi]
  have hpo := hs6.pick rest.testBit
  have h80 := c80 glT ts fs ss h8 hs6 (by omega) rest hrl
  have h74 := c74g ts fs (pickS ss rest.testBit) ss h8 hpo
  have h76 := fun kind : Int => c76 glT ts fs ss hs6 (fun s hs => by obtain ⟨i, hi, e⟩ := List.getElem_of_mem hs; have := hV.sight hi; rw [← e]; omega) (fun f hf => by obtain ⟨i, hi, e⟩ := List.getElem_of_mem hf; have := hV.forme hi; rw [← e]; omega) (by omega) (natsV (groupsM fs.length (pickS ss rest.testBit))) (natsV (meetM (stN fs) fs.length)) kind rest hrl
  simp only [← hR] at h80 h76
  have hD : doubtD ts.length fs ss set = ((clashJ fs (pickS ss rest.testBit)).isNone && (List.range ts.length).all fun t => decide ((crackS fs (pickS ss rest.testBit) t).1 ≤ (crackS fs (pickS ss rest.testBit) t).2)) := by
    rw [hpk]; rfl
  refine fnU_sound (par_ok glT En) Tryd.func79 ?_
  conv => whnf
  refine ⟨by omega, ?_⟩
  conv => whnf
  refine byC h80 op80 ?_
  conv => whnf
  refine byC h74 op74 ?_
  unfold clashV
  rcases hJ : clashJ fs (pickS ss rest.testBit) with _ | ⟨a, b⟩
  · skip
    conv => whnf
    refine ⟨⟨25769804304, [], []⟩, ?_⟩
    refine LoopW_ind _ (fun i : Nat => (({ tmps := [.undef, .undef, .undef, .undef, vI (bitsI .andNot .i64 (IntKind.i64.wrap (shlI .i64 1 (ss.length : Int) - 1)) (set : Int)), .undef, .undef, .undef, .undef, .clo (.func 76) [.ref (lookC ts fs ss rest.testBit)] [], .undef, .undef, .undef, .undef, .undef, .undef, .undef, .undef, .undef, .undef, .undef, .undef, .undef, .undef, .undef, .undef, .undef, .undef, .undef, .undef, .undef, .undef, .undef, vI ts.length, vI i, .undef, .undef, .undef, .undef, .undef, .undef, .undef, .undef, .undef, .undef, .undef, .undef], seg := [], up := upsD ts fs ss } : St S))) (fun i : Nat => (i ≤ ts.length ∧ ∀ j, j < i → (crackS fs (pickS ss rest.testBit) (j : Nat)).1 ≤ (crackS fs (pickS ss rest.testBit) (j : Nat)).2)) (fun i : Nat => (ts.length - i)) () ?_ 0 ⟨Nat.zero_le _, fun j h => absurd h (Nat.not_lt_zero j)⟩
    intro i hinv Z1 hZ1
    obtain ⟨hi, hd⟩ := hinv
    conv => whnf
    refine bcase_iff.2 ⟨fun h8 => ?_, fun h8 => ?_⟩
    · skip
      have hlt : i < ts.length := by have := of_decide_eq_true h8; omega
      have hw : IntKind.i64.wrap ((i : Int) + 1) = ((i + 1 : Nat) : Int) := wrap_nat (by omega)
      conv => whnf
      refine byC (h76 i) op76 ?_
      conv => whnf
      refine bcase_iff.2 ⟨fun h11 => ?_, fun h11 => ?_⟩
      · skip
        have h11 : (crackS fs (pickS ss rest.testBit) i).1 > (crackS fs (pickS ss rest.testBit) i).2 := of_decide_eq_true h11
        have hD0 : doubtD ts.length fs ss set = false := by
          rw [hD, Bool.and_eq_false_iff]; right
          rw [← Bool.not_eq_true, List.all_eq_true]
          intro hh
          have := of_decide_eq_true (hh i (List.mem_range.2 hlt))
          omega
        rw [hD0] at h
        -- R:aTT
        conv => whnf
        exact h
      · skip
        have h11 : ¬ (crackS fs (pickS ss rest.testBit) i).1 > (crackS fs (pickS ss rest.testBit) i).2 := of_decide_eq_false h11
        -- Z8:TF
        conv => whnf
        refine ⟨⟨25769804304, [11, 1011, 2011, 3011, 4011], []⟩, ?_⟩
        conv => whnf
        rw [hw]
        exact hZ1 (i + 1) ⟨hlt, up_succ hd (by omega)⟩ (by omega)
    · skip
      have hge : i = ts.length := by have := of_decide_eq_false h8; omega
      -- R:aF
      conv => whnf
      have hD1 : doubtD ts.length fs ss set = true := by
        rw [hD, hJ, Option.isNone_none, Bool.true_and, List.all_eq_true]
        exact fun j hj => decide_eq_true (hd j (by have := List.mem_range.1 hj; omega))
      rw [hD1] at h
      exact h
  · skip
    have hD0 : doubtD ts.length fs ss set = false := by rw [hD, hJ]; rfl
    rw [hD0] at h
    -- R:b
    conv => whnf
    exact h

theorem op78 : Opens PR 78 := ⟨_, Tryd.func78, rfl, rfl⟩

theorem u78D (ts : List ByteArray) (fs : Fms) (ss : Sgs) (hV : Valid ts fs ss) (Q : AV S → List (Nat × AO S) → Unit → Prop) (h : Q (vL (few (doubtD ts.length fs ss) (2 ^ ss.length)).1) (upsD ts fs ss) ()) (En : Env Unit) :
    UCalls PR glT En 78 [vI ss.length, .clo (.func 79) [] [.up 1 []]] (upsD ts fs ss) () Q := by
  have hs12 := hV.s12
  have h4096 : 2 ^ ss.length ≤ 2 ^ 12 := Nat.pow_le_pow_right (n := 2) (by omega) (show ss.length ≤ 12 by omega)
  have hshl : shlI .i64 1 (ss.length : Int) = ((2 ^ ss.length : Nat) : Int) := shl_one (by omega)
  refine fnU_sound (par_ok glT En) Tryd.func78 ?_
  conv => whnf
  refine ⟨by omega, ?_⟩
  conv => whnf
  refine ⟨⟨1586, [4], [4]⟩, ?_⟩
  refine LoopW_ind _ (fun i : Nat => (({ tmps := [.undef, .clo (.func 79) [] [.up 1 []], .undef, .undef, vL (few (doubtD ts.length fs ss) i).1, vB (few (doubtD ts.length fs ss) i).2, .undef, .undef, .undef, vI (shlI .i64 1 (ss.length : Int)), vI i, .undef, .undef, .undef, .undef, .undef, .undef, .undef, .undef, .undef, .undef, .undef, .undef, .undef, .undef, .undef, .undef, .undef, .undef, .undef, .undef, .undef, .undef, .undef, .undef, .undef, .undef, .undef, .undef, .undef, .undef, .undef], seg := [], up := upsD ts fs ss } : St S))) (fun i : Nat => (i ≤ 2 ^ ss.length)) (fun i : Nat => (2 ^ ss.length - i)) () ?_ 0 (Nat.zero_le _)
  intro i hi Z1 hZ1
  have hfl := few_len (doubtD ts.length fs ss) i (by omega)
  have hbl := bitsL_len i
  have hst : few (doubtD ts.length fs ss) (i + 1) = fewStep (doubtD ts.length fs ss) (few (doubtD ts.length fs ss) i) i := few_succ (doubtD ts.length fs ss) i
  generalize hq : few (doubtD ts.length fs ss) i = s at *
  obtain ⟨best, is⟩ := s
  simp only at hfl
  conv => whnf
  refine bcase_iff.2 ⟨fun h3 => ?_, fun h3 => ?_⟩
  · skip
    rw [hshl] at h3
    have hlt : i < 2 ^ ss.length := by have := of_decide_eq_true h3; omega
    have hw : IntKind.i64.wrap ((i : Int) + 1) = ((i + 1 : Nat) : Int) := wrap_nat (by omega)
    have hgo : skipB (best, is) (natsV (bitsL i)) = false → few (doubtD ts.length fs ss) (i + 1) = if (doubtD ts.length fs ss) i then (natsV (bitsL i), true) else (best, is) := fun h => by rw [hst, fewStep, h]; rfl
    have hno : skipB (best, is) (natsV (bitsL i)) = true → few (doubtD ts.length fs ss) (i + 1) = (best, is) := fun h => by rw [hst, fewStep, if_pos h]
    conv => whnf
    refine byC (c111 i (by omega)) op111 ?_
    rcases is with _ | _
    · skip
      have hs := hgo rfl
      conv => whnf
      refine ⟨fun En' _ => u79 ts fs ss hV i (by omega) _ ?_ En', op79⟩
      conv => whnf
      refine bcase_iff.2 ⟨fun h7 => ?_, fun h7 => ?_⟩
      · skip
        rw [if_pos h7] at hs
        -- Z3:TaT
        conv => whnf
        refine ⟨⟨1586, [], []⟩, ?_⟩
        conv => whnf
        rw [hw]
        have := hZ1 (i + 1) hlt (by omega)
        rw [hs] at this
        exact this
      · skip
        rw [if_neg (by rw [h7]; simp)] at hs
        -- Z3:TaF
        conv => whnf
        refine ⟨⟨1586, [], []⟩, ?_⟩
        conv => whnf
        rw [hw]
        have := hZ1 (i + 1) hlt (by omega)
        rw [hs] at this
        exact this
    · skip
      conv => whnf
      refine bcase_iff.2 ⟨fun g6_7 => ?_, fun g6_7 => ?_⟩
      · skip
        have g : decide (((natsV (bitsL i)).length : Int) > best.length) = true := g6_7
        have hs := hno (by unfold skipB; rw [g]; rfl)
        -- Z3:TbT
        conv => whnf
        refine ⟨⟨1586, [], []⟩, ?_⟩
        conv => whnf
        rw [hw]
        have := hZ1 (i + 1) hlt (by omega)
        rw [hs] at this
        exact this
      · skip
        have g7 : decide (((natsV (bitsL i)).length : Int) > best.length) = false := g6_7
        conv => whnf
        refine bcase_iff.2 ⟨fun g6_13 => ?_, fun g6_13 => ?_⟩
        · skip
          have g13 : (((natsV (bitsL i)).length : Int) == best.length) = true := g6_13
          conv => whnf
          refine byC (c112 glT (natsV (bitsL i)) best (by simp; omega) hfl) op112 ?_
          conv => whnf
          refine bcase_iff.2 ⟨fun h6 => ?_, fun h6 => ?_⟩
          · skip
            have g6 : decide (cmpL cmpI (natsV (bitsL i)) best > 0) = true := h6
            have hs := hno (by unfold skipB; rw [g7, g13, g6]; rfl)
            -- Z3:TbFTT
            conv => whnf
            refine ⟨⟨1586, [], []⟩, ?_⟩
            conv => whnf
            rw [hw]
            have := hZ1 (i + 1) hlt (by omega)
            rw [hs] at this
            exact this
          · skip
            have g6 : decide (cmpL cmpI (natsV (bitsL i)) best > 0) = false := h6
            have hs := hgo (by unfold skipB; rw [g7, g13, g6]; rfl)
            conv => whnf
            refine ⟨fun En' _ => u79 ts fs ss hV i (by omega) _ ?_ En', op79⟩
            conv => whnf
            refine bcase_iff.2 ⟨fun h7 => ?_, fun h7 => ?_⟩
            · skip
              rw [if_pos h7] at hs
              -- Z3:TbFTFT
              conv => whnf
              refine ⟨⟨1586, [], []⟩, ?_⟩
              conv => whnf
              rw [hw]
              have := hZ1 (i + 1) hlt (by omega)
              rw [hs] at this
              exact this
            · skip
              rw [if_neg (by rw [h7]; simp)] at hs
              -- Z3:TbFTFF
              conv => whnf
              refine ⟨⟨1586, [], []⟩, ?_⟩
              conv => whnf
              rw [hw]
              have := hZ1 (i + 1) hlt (by omega)
              rw [hs] at this
              exact this
        · skip
          have g13 : (((natsV (bitsL i)).length : Int) == best.length) = false := g6_13
          have hs := hgo (by unfold skipB; rw [g7, g13]; rfl)
          conv => whnf
          refine ⟨fun En' _ => u79 ts fs ss hV i (by omega) _ ?_ En', op79⟩
          conv => whnf
          refine bcase_iff.2 ⟨fun h7 => ?_, fun h7 => ?_⟩
          · skip
            rw [if_pos h7] at hs
            -- Z3:TbFFT
            conv => whnf
            refine ⟨⟨1586, [], []⟩, ?_⟩
            conv => whnf
            rw [hw]
            have := hZ1 (i + 1) hlt (by omega)
            rw [hs] at this
            exact this
          · skip
            rw [if_neg (by rw [h7]; simp)] at hs
            -- Z3:TbFFF
            conv => whnf
            refine ⟨⟨1586, [], []⟩, ?_⟩
            conv => whnf
            rw [hw]
            have := hZ1 (i + 1) hlt (by omega)
            rw [hs] at this
            exact this
  · skip
    rw [hshl] at h3
    have hge : i = 2 ^ ss.length := by have := of_decide_eq_false h3; omega
    -- R:F
    conv => whnf
    rw [← hge, hq] at h
    exact h

theorem c25 (ts : List ByteArray) (fs : List Fm) (ss : List Sg) (hL : LensJ ts fs ss) : PCalls PR glT 25 [.agg [strsV ts, fmsV fs, sgsV ss]] fun r => r = .tup [vL (doubtR ts fs ss).1, vI (doubtR ts fs ss).2] := by
  refine fnW_sound (par_ok glT) Tryd.func25 ?_
  conv => whnf
  refine byC (c71 glT ts fs ss hL) op71 ?_
  rcases Classical.em (chE ts fs ss = 0) with hk | hk
  · skip
    rw [openV_ok hk]
    have hV := chk_valid.1 hk
    have hdf := (doubt_find hV.job (by have := hV.s12; omega)).1
    have hR : doubtR ts fs ss = (natsV (doubtL ts.length fs ss), 0) := by unfold doubtR; rw [if_neg (fun h => h hk)]
    conv => whnf
    refine ⟨fun En' _ => u78D ts fs ss hV _ ?_ En', op78⟩
    -- R:a
    conv => whnf
    rw [hR, hdf]
  · skip
    rw [openV_no hk]
    conv => whnf
    refine bcase_iff.2 ⟨fun h2 => ?_, fun h2 => ?_⟩
    · skip
      -- R:bT
      conv => whnf
      unfold doubtR
      rw [if_pos hk]
    · skip
      exfalso
      have h2 : (chE ts fs ss != 0) = false := h2
      exact hk (by simpa using h2) --done

theorem op25 : Opens PR 25 := ⟨_, Tryd.func25, rfl, rfl⟩

end Go.Ab.SkF
