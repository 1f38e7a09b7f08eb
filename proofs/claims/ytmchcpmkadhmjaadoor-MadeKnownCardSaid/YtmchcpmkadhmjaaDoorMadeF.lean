/-
  THE MADE FAMILY, PART XE: the iterator plans.
-/
import Derived.Test.YtmchcpmkadhmjaaDoorMadeE
namespace Go.Ab.MkF
open Go Go.Ab Go.Ab.Pln Go.Proofs
set_option maxHeartbeats 1000000
set_option maxRecDepth 100000

theorem nats_set (l : List Nat) (t v : Nat) : setI (natsV l) (t : Int) (v : Int) = natsV (l.set t v) := by
  show (natsV l).set t v = _
  simp [natsV, List.map_set]
theorem getI_natsD {l : List Nat} {i : Nat} (h : i < l.length) : getI (natsV l) (i : Int) = some ((l.getD i 0 : Nat) : Int) := by rw [getI_nats h, getD_at h]
theorem bit0 {a i : Nat} (ha : a < 2 ^ 63) (h : i < 64) : (bitsI .and .i64 (shrI .i64 (a : Int) (i : Int)) 1 == 0) = !a.testBit i := by
  rw [bit_eq ha h]; cases a.testBit i <;> rfl
theorem cbInv {Y : Type} {K : Bool → Y → Prop} {r : AV S} {y : Y} (h : match r with | .bool b => (match b with | true => K true y | false => K false y) | _ => False) : ∃ b, r = .bool b ∧ K b y := by
  cases r with
  | bool b => exact ⟨b, rfl, by cases b <;> exact h⟩
  | _ => exact h.elim
theorem set2_set2 {A : Tb} (h : Tb46 A) {c l : Nat} (hc : c < 4) (a b : Int) : set2 (set2 A c l a) c l b = set2 A c l b := by
  unfold set2
  rw [getD_set_self (by rw [h.len]; exact hc), List.set_set, List.set_set]
theorem tb_ext {A B : Tb} (hA : Tb46 A) (hB : Tb46 B) (h : ∀ c l, get2 A c l = get2 B c l) : A = B := by
  apply List.ext_getElem (by rw [hA.len, hB.len])
  intro c h1 h2
  have hc : c < 4 := by rw [hA.len] at h1; exact h1
  have ha := hA.row c hc
  have hb := hB.row c hc
  have e : ∀ l, get2 A c l = get2 B c l := h c
  unfold get2 at e
  rw [getD_at h1] at ha e
  rw [getD_at h2] at hb e
  apply List.ext_getElem (by rw [ha, hb])
  intro l h3 h4
  have := e l
  rw [getD_at h3, getD_at h4] at this
  exact this
/-- A plan in which every copy has all its leaves: what is told, and the rest. -/
def leafR (cs : List Cp) (H : List Int) (g : List Nat) (Q : Tb) (c : Nat) : Nat → Tb
  | 0 => Q
  | l + 1 => if H.getD c 0 > 0 then leafR cs H g Q c l else set2 (leafR cs H g Q c l) c l (if decide (hasI cs c l > 0) && !(g.getD c 0).testBit l then (c : Int) else -1)
def leafU (n : Nat) (cs : List Cp) (H : List Int) (g : List Nat) (P : Tb) : Nat → Tb
  | 0 => P
  | c + 1 => leafR cs H g (leafU n cs H g P c) c n
theorem leafR_ok {cs : List Cp} {H : List Int} {g : List Nat} {Q : Tb} (h : Tb46 Q) (c : Nat) : ∀ l, Tb46 (leafR cs H g Q c l)
  | 0 => h
  | l + 1 => by
    simp only [leafR]
    split
    · exact leafR_ok h c l
    · exact (leafR_ok h c l).set2 _ _ _
theorem leafU_ok {n : Nat} {cs : List Cp} {H : List Int} {g : List Nat} {P : Tb} (h : Tb46 P) : ∀ c, Tb46 (leafU n cs H g P c)
  | 0 => h
  | c + 1 => leafR_ok (leafU_ok h c) c n
/-- The plans, in the order of the program. -/
def planR (n : Nat) (cs : List Cp) (H : List Int) (i : Nat) (cont : Tb → List Nat → List Tb) : Nat → Tb → List Nat → List Tb
  | 0, P, g => cont P g
  | r + 1, P, g => if H.getD i 0 = 0 then cont P g
    else if (havN cs (n - (r + 1)) (H.getD i 0)).testBit i then planR n cs H i cont r (set2 P i (n - (r + 1)) (i : Int)) g
    else (bitsL (havN cs (n - (r + 1)) (H.getD i 0))).flatMap fun d => if (H.getD d 0 == H.getD i 0 || (g.getD d 0).testBit (n - (r + 1))) = true then [] else planR n cs H i cont r (set2 P i (n - (r + 1)) (d : Int)) (g.set d (g.getD d 0 ||| 2 ^ (n - (r + 1))))
def planS (n : Nat) (cs : List Cp) (H : List Int) : Nat → Nat → Tb → List Nat → List Tb
  | 0, _, P, g => [leafU n cs H g P cs.length]
  | s + 1, r, P, g => planR n cs H (cs.length - (s + 1)) (fun P g => planS n cs H s n P g) r P g
def planA (n : Nat) (cs : List Cp) (H : List Int) : List Tb := planS n cs H cs.length n z46 [0, 0, 0, 0]
/-- What stands in the table while a plan is made. -/
def later (n m : Nat) (H : List Int) (i l c x : Nat) : Prop := c < m ∧ x < n ∧ H.getD c 0 ≠ 0 ∧ (i < c ∨ i = c ∧ l ≤ x)
structure CurT (n m : Nat) (H : List Int) (i l : Nat) (P cur : Tb) : Prop where
  p : Tb46 P
  t : Tb46 cur
  e : ∀ c x, ¬ later n m H i l c x → get2 cur c x = get2 P c x
section
variable {n m : Nat} {H : List Int} {i l : Nat} {P cur : Tb}
theorem CurT.set (h : CurT n m H i l P cur) (hi : i < m) (hm : m ≤ 4) (hl : l < n) (hn : n ≤ 6) (v : Int) : CurT n m H i (l + 1) (set2 P i l v) (set2 cur i l v) := by
  refine ⟨h.p.set2 _ _ _, h.t.set2 _ _ _, fun c x hc => ?_⟩
  rw [get2_set2 h.t (by omega) (by omega), get2_set2 h.p (by omega) (by omega)]
  by_cases e : i = c ∧ l = x
  · rw [if_pos e, if_pos e]
  · rw [if_neg e, if_neg e]
    refine h.e c x fun h' => hc ?_
    obtain ⟨h1, h2, h3, h4⟩ := h'
    exact ⟨h1, h2, h3, by omega⟩
theorem CurT.back {v : Int} (h : CurT n m H i (l + 1) (set2 P i l v) cur) (hP : Tb46 P) (hi : i < m) (hm : m ≤ 4) (hl : l < n) (hn : n ≤ 6) (hH : H.getD i 0 ≠ 0) : CurT n m H i l P cur := by
  refine ⟨hP, h.t, fun c x hc => ?_⟩
  have hne : ¬ (i = c ∧ l = x) := fun ⟨e1, e2⟩ => hc (by subst e1; subst e2; exact ⟨hi, hl, hH, .inr ⟨rfl, Nat.le_refl _⟩⟩)
  rw [h.e c x fun h' => hc ?_, get2_set2 hP (by omega) (by omega), if_neg hne]
  obtain ⟨h1, h2, h3, h4⟩ := h'
  exact ⟨h1, h2, h3, by omega⟩
theorem later_next (hl : l = n ∨ H.getD i 0 = 0) (c x : Nat) : later n m H (i + 1) 0 c x ↔ later n m H i l c x := by
  unfold later
  constructor
  · rintro ⟨h1, h2, h3, h4⟩; exact ⟨h1, h2, h3, by omega⟩
  · rintro ⟨h1, h2, h3, h4⟩
    refine ⟨h1, h2, h3, ?_⟩
    rcases h4 with h4 | ⟨h4, h5⟩
    · omega
    · subst h4
      rcases hl with hl | hl
      · omega
      · exact absurd hl h3
theorem CurT.next (hl : l = n ∨ H.getD i 0 = 0) : CurT n m H i l P cur ↔ CurT n m H (i + 1) 0 P cur :=
  ⟨fun h => ⟨h.p, h.t, fun c x hc => h.e c x fun h' => hc ((later_next hl c x).2 h')⟩, fun h => ⟨h.p, h.t, fun c x hc => h.e c x fun h' => hc ((later_next hl c x).1 h')⟩⟩
theorem CurT.done (h : CurT n m H m l P cur) : cur = P := tb_ext h.t h.p fun c x => h.e c x fun ⟨h1, _, _, h4⟩ => by omega
end
abbrev fillP (p : Int) (ls : List Lf) (cs : List Cp) (H : List Int) : AV S := .clo (.func 135) [] [.ref [setR p ls cs], .up 4 [], .ref [.arr (S := S) U.int 4 H], .up 5 [], .up 3 [], .up 6 []]
abbrev upsP (p : Int) (ls : List Lf) (cs : List Cp) (H : List Int) (P : Tb) (g : List Nat) : List (Nat × AO S) := [(3, .cells [.cb]), (4, .cells [.arr (S := S) U.row6 4 P]), (5, .cells [.arr (S := S) U.int 4 (natsV g)]), (6, .cells [fillP p ls cs H])]

theorem op135 : Opens PR 135 := ⟨_, Tryd.func135, rfl, rfl⟩

theorem u135 (Y : Type) (B : List (AV S) → Y → (AV S → Y → Prop) → Prop) (hm : BMono B) (p : Int) (ls : List Lf) (cs : List Cp) (hV : Valid p ls cs) (H : List Int) (hH : H.length = 4) :
    ∀ (N s r i l : Nat), s * (ls.length + 1) + r = N → i + s = cs.length → l + r = ls.length → ∀ (P cur : Tb) (g : List Nat), CurT ls.length cs.length H i l P cur → g.length = 4 → (∀ q, g.getD q 0 < 2 ^ 6) → ∀ (y : Y) (Q : AV S → List (Nat × AO S) → Y → Prop),
    eachR B ((planS ls.length cs H s r P g).map (fun q : Tb => [.agg [.arr (S := S) U.row6 4 q]])) y (fun b y' => ∀ cur' g', CurT ls.length cs.length H i l P cur' → (b = true → g' = g) → Q (.bool b) (upsP p ls cs H cur' g') y') → ∀ En : Env Y, CbOk PR glT En B →
    UCalls PR glT En 135 [vI i, vI l, .ref [setR p ls cs], .up 4 [], .ref [.arr (S := S) U.int 4 H], .up 5 [], .up 3 [], .up 6 []] (upsP p ls cs H cur g) y Q := by
  have hm1 := hV.m1
  have hm4 := hV.m4
  have hn1 := hV.n1
  have hn6 := hV.n6
  intro N
  refine Nat.strongRecOn N fun N IH => ?_
  intro s r i l hN his hlr P cur g hc hg hgb y Q hq En hB
  have h26 : (2 : Nat) ^ 6 = 64 := rfl
  have h63 : (2 : Nat) ^ 63 = 9223372036854775808 := rfl
  refine fnU_sound (pb_ok glT Y B En hB) Tryd.func135 ?_
  conv => whnf
  refine bcase_iff.2 ⟨fun h1 => ?_, fun h1 => ?_⟩
  · skip
    have h1 : i = cs.length := by have h1 : ((i : Int) == (cs.length : Int)) = true := h1; have := eq_of_beq h1; omega
    have hs0 : s = 0 := by omega
    subst hs0
    subst h1
    have hcd := hc.done
    subst hcd
    have hct := hc.t
    conv => whnf
    refine ⟨⟨60129544304, [], []⟩, ?_⟩
    refine LoopW_indX _ (fun c : Nat => (({ tmps := [.undef, .undef, .undef, .undef, .ref [.arr (S := S) U.int 4 H], .up 5 [], .up 3 [], .undef, .undef, .undef, .undef, .own 11 [], .undef, .undef, .undef, .undef, .undef, .undef, .undef, .undef, .undef, .undef, .undef, .undef, .undef, .undef, .undef, .undef, .undef, .undef, .undef, .undef, .undef, cpsV cs, vI cs.length, vI c, .undef, .undef, .undef, .undef, .undef, .undef, .undef, .undef, .undef, .undef, .undef, .undef, .undef, .undef, .undef, .undef, .undef, .undef, .undef, .undef, .undef, .undef, .undef, .undef, .undef, .undef, .undef, .undef, .undef, .undef, .undef, .undef, .undef, .undef, .undef, .undef, .undef, .undef, .undef, .undef, .undef, .undef, .undef, .undef, .undef, .undef, .undef, .undef, .undef, .undef, .undef, .undef, .undef, .undef, .undef, .undef, .undef, .undef, .undef, .undef, .undef, .undef, .undef, .undef, .undef, .undef, .undef, .undef, .undef, .undef, .undef, .undef, .undef, .undef, .undef, .undef, .undef, .undef, .undef, .undef, .undef, .undef, .undef, .undef, .undef, .undef, .undef, .undef, .undef, .undef, .undef, .undef, .undef, .undef, .undef, .undef, .undef, .undef, .undef, .undef, .undef, .undef, .undef, .undef, .undef, .undef, .undef, .undef, .undef, .undef, .undef, .undef, .undef, .undef, .undef, .undef, .undef, .undef, .undef, .undef, .undef, .undef, .undef, .undef, .undef, .undef, .undef, .undef, .undef, .undef, .undef, .undef, .undef, .undef], seg := [(11, .cells [.arr (S := S) U.row6 4 (leafU ls.length cs H g cur c)])], up := upsP p ls cs H cur g } : St S))) (fun c : Nat => (y)) (fun c : Nat => (c ≤ cs.length)) (fun c : Nat => (cs.length - c)) ?_ 0 (Nat.zero_le _)
    intro c hi Z1 hZ1
    conv => whnf
    refine bcase_iff.2 ⟨fun h4 => ?_, fun h4 => ?_⟩
    · skip
      have hlt : c < cs.length := by have := of_decide_eq_true h4; omega
      have hw : IntKind.i64.wrap ((c : Int) + 1) = ((c + 1 : Nat) : Int) := wrap_nat (by omega)
      conv => whnf
      have hcl := (hV.cp hlt).2.1
      conv => whnf
      have hgc : cs.getD c cp0 = cs[c] := getD_at hlt
      conv => whnf
      refine ⟨_, getI_nat hlt, ?_⟩
      conv => whnf
      refine ⟨⟨15453292337264, [13, 2013], [2013]⟩, ?_⟩
      refine LoopW_indX _ (fun x : Nat => (({ tmps := [.undef, .undef, .undef, .undef, .ref [.arr (S := S) U.int 4 H], .up 5 [], .up 3 [], .undef, .undef, .undef, .undef, .own 11 [], vI c, .undef, .undef, .undef, .undef, .undef, .undef, .undef, .undef, .undef, .undef, .undef, .undef, .undef, .undef, .undef, .undef, .undef, .undef, .undef, .undef, cpsV cs, vI cs.length, vI c, .undef, .undef, .undef, .undef, .undef, vL cs[c].2, vI cs[c].2.length, vI x, .undef, .undef, .undef, .undef, .undef, .undef, .undef, .undef, .undef, .undef, .undef, .undef, .undef, .undef, .undef, .undef, .undef, .undef, .undef, .undef, .undef, .undef, .undef, .undef, .undef, .undef, .undef, .undef, .undef, .undef, .undef, .undef, .undef, .undef, .undef, .undef, .undef, .undef, .undef, .undef, .undef, .undef, .undef, .undef, .undef, .undef, .undef, .undef, .undef, .undef, .undef, .undef, .undef, .undef, .undef, .undef, .undef, .undef, .undef, .undef, .undef, .undef, .undef, .undef, .undef, .undef, .undef, .undef, .undef, .undef, .undef, .undef, .undef, .undef, .undef, .undef, .undef, .undef, .undef, .undef, .undef, .undef, .undef, .undef, .undef, .undef, .undef, .undef, .undef, .undef, .undef, .undef, .undef, .undef, .undef, .undef, .undef, .undef, .undef, .undef, .undef, .undef, .undef, .undef, .undef, .undef, .undef, .undef, .undef, .undef, .undef, .undef, .undef, .undef, .undef, .undef, .undef, .undef, .undef, .undef, .undef, .undef, .undef, .undef, .undef, .undef], seg := [(11, .cells [.arr (S := S) U.row6 4 (leafR cs H g (leafU ls.length cs H g cur c) c x)])], up := upsP p ls cs H cur g } : St S))) (fun x : Nat => (y)) (fun x : Nat => (x ≤ cs[c].2.length)) (fun x : Nat => (cs[c].2.length - x)) ?_ 0 (Nat.zero_le _)
      intro x hx Z2 hZ2
      conv => whnf
      refine bcase_iff.2 ⟨fun h7 => ?_, fun h7 => ?_⟩
      · skip
        have hlx : x < cs[c].2.length := by have := of_decide_eq_true h7; omega
        have hwx : IntKind.i64.wrap ((x : Int) + 1) = ((x + 1 : Nat) : Int) := wrap_nat (by omega)
        conv => whnf
        have hA := leafR_ok (cs := cs) (H := H) (g := g) (leafU_ok (n := ls.length) (cs := cs) (H := H) (g := g) hct c) c x
        conv => whnf
        have hk1 : cs[c].2[x] = hasI cs c x := by unfold hasI; rw [hgc, getD_at hlx]
        conv => whnf
        have hgbc := hgb c
        conv => whnf
        refine ⟨_, getI_nat hlx, ?_⟩
        conv => whnf
        refine ⟨_, getI_D (l := H) (by omega), ?_⟩
        conv => whnf
        refine bcase_iff.2 ⟨fun h9 => ?_, fun h9 => ?_⟩
        · skip
          have h9 : H.getD c 0 > 0 := of_decide_eq_true h9
          -- Z7:TT
          conv => whnf
          refine ⟨⟨15453292337264, [], []⟩, ?_⟩
          conv => whnf
          rw [hwx]
          have hz := hZ2 (x + 1) hlx (by omega)
          rw [leafR, if_pos h9] at hz
          exact hz
        · skip
          have h9 : ¬ H.getD c 0 > 0 := of_decide_eq_false h9
          conv => whnf
          refine ⟨by omega, by omega, ?_⟩
          conv => whnf
          refine ⟨by omega, by omega, ?_⟩
          conv => whnf
          refine ⟨_, getI_DD (by rw [hA.len]; omega), ?_⟩
          conv => whnf
          refine ⟨_, getI_D (by rw [hA.row _ (by omega)]; omega), ?_⟩
          conv => whnf
          refine ⟨_, rfl, ?_⟩
          conv => whnf
          refine ⟨_, rfl, ?_⟩
          conv => whnf
          refine bcase_iff.2 ⟨fun g11_2 => ?_, fun g11_2 => ?_⟩
          · skip
            have g2 : decide (hasI cs c x > 0) = true := by rw [← hk1]; exact g11_2
            conv => whnf
            refine ⟨by omega, by omega, ?_⟩
            conv => whnf
            refine ⟨_, getI_natsD (by omega), ?_⟩
            conv => whnf
            refine ⟨Int.natCast_nonneg _, ?_⟩
            conv => whnf
            refine bcase_iff.2 ⟨fun h11 => ?_, fun h11 => ?_⟩
            · skip
              have h11 : (!(g.getD c 0).testBit x) = true := by rw [← bit0 (by omega) (by omega)]; exact h11
              conv => whnf
              have hA2 := hA.set2 c x (-1)
              conv => whnf
              refine ⟨by omega, by omega, ?_⟩
              conv => whnf
              refine ⟨by omega, by omega, ?_⟩
              conv => whnf
              refine ⟨_, getI_DD (l := set2 (leafR cs H g (leafU ls.length cs H g cur c) c x) c x (-1)) (by rw [hA2.len]; omega), ?_⟩
              conv => whnf
              refine ⟨_, getI_D (l := (set2 (leafR cs H g (leafU ls.length cs H g cur c) c x) c x (-1)).getD c []) (by rw [hA2.row _ (by omega)]; omega), ?_⟩
              conv => whnf
              refine ⟨_, rfl, ?_⟩
              conv => whnf
              refine ⟨_, rfl, ?_⟩
              -- Z7:TFTT
              conv => whnf
              refine ⟨⟨15453292337264, [], []⟩, ?_⟩
              conv => whnf
              rw [hwx]
              have hz := hZ2 (x + 1) hlx (by omega)
              rw [leafR, if_neg h9, g2, h11, if_pos (by rfl), ← set2_set2 hA (by omega) (-1)] at hz
              exact hz
            · skip
              have h11 : (!(g.getD c 0).testBit x) = false := by rw [← bit0 (by omega) (by omega)]; exact h11
              -- Z7:TFTF
              conv => whnf
              refine ⟨⟨15453292337264, [], []⟩, ?_⟩
              conv => whnf
              rw [hwx]
              have hz := hZ2 (x + 1) hlx (by omega)
              rw [leafR, if_neg h9, g2, h11, if_neg (by decide)] at hz
              exact hz
          · skip
            have g2 : decide (hasI cs c x > 0) = false := by rw [← hk1]; exact g11_2
            -- Z7:TFF
            conv => whnf
            refine ⟨⟨15453292337264, [], []⟩, ?_⟩
            conv => whnf
            rw [hwx]
            have hz := hZ2 (x + 1) hlx (by omega)
            rw [leafR, if_neg h9, g2, if_neg (by simp)] at hz
            exact hz
      · skip
        have hgx : x = cs[c].2.length := by have := of_decide_eq_false h7; omega
        -- Z4:TF
        conv => whnf
        refine ⟨⟨60129544304, [13, 1013, 2013, 3013, 4013], []⟩, ?_⟩
        conv => whnf
        rw [hw, hgx, hcl]
        exact hZ1 (c + 1) hlt (by omega)
    · skip
      have hge : c = cs.length := by have := of_decide_eq_false h4; omega
      conv => whnf
      rw [hge]
      conv => whnf
      refine hm _ _ _ _ (fun r y' hr => ?_) hq
      conv => whnf
      obtain ⟨b, rfl, hb⟩ := cbInv (K := fun b y' => ∀ cur' g', CurT ls.length cs.length H cs.length l cur cur' → (b = true → g' = g) → Q (.bool b) (upsP p ls cs H cur' g') y') hr
      -- R:TF
      conv => whnf
      exact hb cur g hc fun _ => rfl
  · skip
    have hin : i < cs.length := by
      have h1 : ((i : Int) == (cs.length : Int)) = false := h1
      have : i ≠ cs.length := fun e => by rw [e] at h1; simp at h1
      omega
    obtain ⟨s, rfl⟩ : ∃ s', s = s' + 1 := ⟨s - 1, by omega⟩
    have hsi : cs.length - (s + 1) = i := by omega
    have hwi : IntKind.i64.wrap ((i : Int) + 1) = ((i + 1 : Nat) : Int) := wrap_nat (by omega)
    have hsm : (s + 1) * (ls.length + 1) = s * (ls.length + 1) + (ls.length + 1) := Nat.succ_mul _ _
    rw [planS, hsi] at hq
    conv => whnf
    refine bcase_iff.2 ⟨fun g16_8 => ?_, fun g16_8 => ?_⟩
    · skip
      have hle : l = ls.length := by have h8 : ((l : Int) == (ls.length : Int)) = true := g16_8; have := eq_of_beq h8; omega
      have hr0 : r = 0 := by omega
      subst hr0
      rw [planR] at hq
      have hnx : l = ls.length ∨ H.getD i 0 = 0 := .inl hle
      conv => whnf
      refine ⟨fun En' hB' => ucE (by rw [hwi]; rfl) rfl (IH (s * (ls.length + 1) + ls.length) (by omega) s ls.length (i + 1) 0 rfl (by omega) (by omega) P cur g ((CurT.next hnx).1 hc) hg hgb y _ ?_ En' hB'), op135⟩
      conv => whnf
      refine eachR_mono hm _ _ _ _ (fun b y' hb cur' g' hc' hg' => ?_) hq
      -- R:FT
      conv => whnf
      exact hb cur' g' ((CurT.next hnx).2 hc') hg'
    · skip
      have hln : l < ls.length := by
        have h8 : ((l : Int) == (ls.length : Int)) = false := g16_8
        have : l ≠ ls.length := fun e => by rw [e] at h8; simp at h8
        omega
      obtain ⟨r, rfl⟩ : ∃ r', r = r' + 1 := ⟨r - 1, by omega⟩
      have hrl : ls.length - (r + 1) = l := by omega
      have hwl : IntKind.i64.wrap ((l : Int) + 1) = ((l + 1 : Nat) : Int) := wrap_nat (by omega)
      rw [planR, hrl] at hq
      conv => whnf
      refine ⟨_, getI_D (l := H) (by omega), ?_⟩
      conv => whnf
      refine bcase_iff.2 ⟨fun h16 => ?_, fun h16 => ?_⟩
      · skip
        have h16 : H.getD i 0 = 0 := eq_of_beq (show (H.getD i 0 == 0) = true from h16)
        rw [if_pos h16] at hq
        have hnx : l = ls.length ∨ H.getD i 0 = 0 := .inr h16
        conv => whnf
        refine ⟨fun En' hB' => ucE (by rw [hwi]; rfl) rfl (IH (s * (ls.length + 1) + ls.length) (by omega) s ls.length (i + 1) 0 rfl (by omega) (by omega) P cur g ((CurT.next hnx).1 hc) hg hgb y _ ?_ En' hB'), op135⟩
        conv => whnf
        refine eachR_mono hm _ _ _ _ (fun b y' hb cur' g' hc' hg' => ?_) hq
        -- R:FFT
        conv => whnf
        exact hb cur' g' ((CurT.next hnx).2 hc') hg'
      · skip
        have h16 : H.getD i 0 ≠ 0 := fun e => by have h16 : (H.getD i 0 == 0) = false := h16; rw [e] at h16; cases h16
        rw [if_neg h16] at hq
        conv => whnf
        refine ⟨[0, 1, 2, 3, 4, 5, 6, 7, 8, 9, 10], [], [], [], ⟨1496577676626844588240573268701473812127674924007423, [], []⟩, by decide +kernel, ?_⟩
        conv => whnf
        refine ⟨_, getI_D (l := H) (by omega), ?_⟩
        conv => whnf
        have hv4 := havN_lt hm4 l (H.getD i 0)
        conv => whnf
        have h24 : (2 : Nat) ^ 4 = 16 := rfl
        conv => whnf
        refine ⟨_, lkE _ _ _, ?_⟩
        conv => whnf
        conv => whnf
        conv => whnf
        rw [lkR, havL_got hln]
        conv => whnf
        refine ⟨Int.natCast_nonneg _, ?_⟩
        conv => whnf
        refine bcase_iff.2 ⟨fun h19 => ?_, fun h19 => ?_⟩
        · skip
          have h19 : (havN cs l (H.getD i 0)).testBit i = true := by rw [← bitB (by omega) (by omega)]; exact h19
          rw [if_pos h19] at hq
          conv => whnf
          have hct := hc.t
          conv => whnf
          refine ⟨by omega, by omega, ?_⟩
          conv => whnf
          refine ⟨by omega, by omega, ?_⟩
          conv => whnf
          refine ⟨_, getI_DD (by rw [hct.len]; omega), ?_⟩
          conv => whnf
          refine ⟨_, getI_D (by rw [hct.row _ (by omega)]; omega), ?_⟩
          conv => whnf
          refine ⟨_, rfl, ?_⟩
          conv => whnf
          refine ⟨_, rfl, ?_⟩
          conv => whnf
          refine ⟨fun En' hB' => ucE (by rw [hwl]) rfl (IH ((s + 1) * (ls.length + 1) + r) (by omega) (s + 1) r i (l + 1) rfl (by omega) (by omega) (set2 P i l (i : Int)) (set2 cur i l (i : Int)) g (hc.set hin hm4 hln hn6 _) hg hgb y _ ?_ En' hB'), op135⟩
          conv => whnf
          rw [planS, hsi]
          conv => whnf
          refine eachR_mono hm _ _ _ _ (fun b y' hb cur' g' hc' hg' => ?_) hq
          -- R:FFFT
          conv => whnf
          exact hb cur' g' (hc'.back hc.p hin hm4 hln hn6 h16) hg'
        · skip
          have h19 : (havN cs l (H.getD i 0)).testBit i = false := by rw [← bitB (by omega) (by omega)]; exact h19
          rw [if_neg (by rw [h19]; decide)] at hq
          conv => whnf
          refine byC (c79 (havN cs l (H.getD i 0)) (by omega)) op79 ?_
          conv => whnf
          have hnb := natsV_len (bitsL (havN cs l (H.getD i 0)))
          conv => whnf
          have hbl := bitsL_len (havN cs l (H.getD i 0))
          conv => whnf
          refine ⟨⟨37218383881977644441306597687849648315, [], []⟩, ?_⟩
          refine LoopW_indX _ (fun s9 : Nat × Tb × Y => match s9 with | (q, cur, y) => (({ tmps := [vI i, vI l, .undef, .up 4 [], .ref [.arr (S := S) U.int 4 H], .up 5 [], .undef, .up 6 [], .undef, .undef, .undef, .undef, .undef, .undef, .undef, .undef, .undef, .undef, .undef, .undef, .undef, .undef, .undef, .undef, .undef, .undef, .undef, .undef, .undef, .undef, .undef, .undef, .undef, .undef, .undef, .undef, .undef, .undef, .undef, .undef, .undef, .undef, .undef, .undef, .undef, .undef, .undef, .undef, .undef, .undef, .undef, .undef, .undef, .undef, .undef, .undef, .undef, .undef, .undef, .undef, .undef, .undef, .undef, .undef, .undef, .undef, .undef, .undef, .undef, .undef, .undef, .undef, .undef, .undef, .undef, .undef, .undef, .undef, .undef, .undef, .undef, .undef, .undef, .undef, .undef, .undef, .undef, .undef, .undef, .undef, .undef, .undef, .undef, .undef, .undef, .undef, .undef, .undef, .undef, .undef, .undef, .undef, .undef, .undef, .undef, .undef, .undef, .undef, .undef, .undef, .undef, .undef, .undef, .undef, .undef, .undef, .undef, .undef, .undef, .undef, .undef, .undef, vL (natsV (bitsL (havN cs l (H.getD i 0)))), vI (natsV (bitsL (havN cs l (H.getD i 0)))).length, vI q, .undef, .undef, .undef, .undef, .undef, .undef, .undef, .undef, .undef, .undef, .undef, .undef, .undef, .undef, .undef, .undef, .undef, .undef, .undef, .undef, .undef, .undef, .undef, .undef, .undef, .undef, .undef, .undef, .undef, .undef, .undef, .undef, .undef, .undef, .undef, .undef, .undef, .undef, .undef, .undef, .undef, .undef, .undef, .undef, .undef], seg := [], up := upsP p ls cs H cur g } : St S))) (fun s9 : Nat × Tb × Y => match s9 with | (q, cur, y) => (y)) (fun s9 : Nat × Tb × Y => match s9 with | (q, cur, y) => (q ≤ (bitsL (havN cs l (H.getD i 0))).length ∧ CurT ls.length cs.length H i l P cur ∧ eachR B ((((bitsL (havN cs l (H.getD i 0))).drop q).flatMap (fun d => if (H.getD d 0 == H.getD i 0 || (g.getD d 0).testBit l) = true then [] else planR ls.length cs H i (fun P g => planS ls.length cs H s ls.length P g) r (set2 P i l (d : Int)) (g.set d (g.getD d 0 ||| 2 ^ l)))).map (fun q : Tb => [.agg [.arr (S := S) U.row6 4 q]])) y (fun b y' => ∀ cur' g', CurT ls.length cs.length H i l P cur' → (b = true → g' = g) → Q (.bool b) (upsP p ls cs H cur' g') y'))) (fun s9 : Nat × Tb × Y => match s9 with | (q, cur, y) => ((bitsL (havN cs l (H.getD i 0))).length - q)) ?_ (0, cur, y) ⟨Nat.zero_le _, hc, hq⟩
          rintro ⟨q, cur, y⟩ hinv Z1 hZ1
          dsimp only at hinv hZ1
          obtain ⟨hq0, hc, hq⟩ := hinv
          conv => whnf
          refine bcase_iff.2 ⟨fun h23 => ?_, fun h23 => ?_⟩
          · skip
            have hlt : q < (bitsL (havN cs l (H.getD i 0))).length := by have := of_decide_eq_true h23; omega
            have hw : IntKind.i64.wrap ((q : Int) + 1) = ((q + 1 : Nat) : Int) := wrap_nat (by omega)
            obtain ⟨d, hd⟩ : ∃ d, (bitsL (havN cs l (H.getD i 0)))[q] = d := ⟨_, rfl⟩
            have hdm : d < 4 := by rw [← hd]; exact bits_mem (n := 4) (by omega) hv4 _ (List.getElem_mem hlt)
            rw [List.drop_eq_getElem_cons hlt, hd, List.flatMap_cons, List.map_append] at hq
            have hgbd := hgb d
            conv => whnf
            refine ⟨(d : Int), by rw [getI_nats hlt, hd], ?_⟩
            conv => whnf
            refine ⟨[0, 1, 2, 3, 4, 5, 6, 7, 8, 9, 10, 11, 12, 13, 14, 15], [], [], [], ⟨1496577676626844588240573268701473812127674924007423, [], []⟩, by decide +kernel, ?_⟩
            conv => whnf
            refine ⟨_, getI_D (l := H) (by omega), ?_⟩
            conv => whnf
            refine ⟨_, getI_D (l := H) (by omega), ?_⟩
            conv => whnf
            refine bcase_iff.2 ⟨fun g25_7 => ?_, fun g25_7 => ?_⟩
            · skip
              rw [if_pos (by rw [show (H.getD d 0 == H.getD i 0) = true from g25_7]; rfl)] at hq
              -- Z23:TT
              conv => whnf
              refine ⟨⟨37218383881977644441306597687849648315, [], []⟩, ?_⟩
              conv => whnf
              rw [hw]
              exact hZ1 (q + 1, cur, y) ⟨hlt, hc, hq⟩ (by dsimp only; omega)
            · skip
              conv => whnf
              refine ⟨by omega, by omega, ?_⟩
              conv => whnf
              refine ⟨_, getI_natsD (by omega), ?_⟩
              conv => whnf
              refine ⟨Int.natCast_nonneg _, ?_⟩
              conv => whnf
              refine bcase_iff.2 ⟨fun h25 => ?_, fun h25 => ?_⟩
              · skip
                have h25 : (g.getD d 0).testBit l = true := by rw [← bitB (by omega) (by omega)]; exact h25
                rw [if_pos (by rw [h25, Bool.or_true])] at hq
                -- Z23:TFT
                conv => whnf
                refine ⟨⟨37218383881977644441306597687849648315, [], []⟩, ?_⟩
                conv => whnf
                rw [hw]
                exact hZ1 (q + 1, cur, y) ⟨hlt, hc, hq⟩ (by dsimp only; omega)
              · skip
                have h25 : (g.getD d 0).testBit l = false := by rw [← bitB (by omega) (by omega)]; exact h25
                rw [if_neg (by rw [show (H.getD d 0 == H.getD i 0) = false from g25_7, h25]; decide)] at hq
                have hl26 : 2 ^ l < 2 ^ 6 := Nat.pow_lt_pow_right (by omega) (by omega)
                have hx6 : (g.getD d 0 ||| 2 ^ l) < 2 ^ 6 := Nat.or_lt_two_pow hgbd hl26
                have hsh : shlI .i64 1 (l : Int) = ((2 ^ l : Nat) : Int) := shl_one (by omega)
                have hO : bitsI .or .i64 ((g.getD d 0 : Nat) : Int) (shlI .i64 1 (l : Int)) = (((g.getD d 0 ||| 2 ^ l) : Nat) : Int) := by rw [hsh, or_nat (by omega) (by omega)]
                have hless : (g.getD d 0 ||| 2 ^ l) ^^^ ((g.getD d 0 ||| 2 ^ l) &&& 2 ^ l) = g.getD d 0 := by
                  apply Nat.eq_of_testBit_eq
                  intro k
                  by_cases hk : k = l
                  · rw [hk]; simp only [Nat.testBit_xor, Nat.testBit_and, Nat.testBit_or, Nat.testBit_two_pow_self, h25]; rfl
                  · have : Nat.testBit (2 ^ l) k = false := by rw [Nat.testBit_two_pow]; simpa using fun e => hk e.symm
                    simp [Nat.testBit_xor, Nat.testBit_and, Nat.testBit_or, this]
                have hN : bitsI .andNot .i64 (((g.getD d 0 ||| 2 ^ l) : Nat) : Int) (shlI .i64 1 (l : Int)) = ((g.getD d 0 : Nat) : Int) := by rw [hsh, andNot_nat (by omega) (by omega), hless]
                have hg1 : (g.set d (g.getD d 0 ||| 2 ^ l)).length = 4 := by simpa using hg
                have hgs : (g.set d (g.getD d 0 ||| 2 ^ l)).getD d 0 = (g.getD d 0 ||| 2 ^ l) := getD_set_self (by omega)
                have hgb1 : ∀ q, (g.set d (g.getD d 0 ||| 2 ^ l)).getD q 0 < 2 ^ 6 := fun q => by
                  by_cases e : d = q
                  · subst e; rw [hgs]; exact hx6
                  · rw [getD_set_ne e]; exact hgb q
                have hsb : (g.set d (g.getD d 0 ||| 2 ^ l)).set d (g.getD d 0) = g := by rw [List.set_set, getD_at (by omega : d < g.length), List.set_getElem_self]
                conv => whnf
                refine ⟨[0, 1, 2, 3, 4, 5, 6, 7], [], [], [], ⟨1496577676626844588240573268701473812127674924007423, [], []⟩, by decide +kernel, ?_⟩
                conv => whnf
                refine ⟨by omega, by omega, ?_⟩
                conv => whnf
                refine ⟨_, getI_natsD (by omega), ?_⟩
                conv => whnf
                refine ⟨Int.natCast_nonneg _, ?_⟩
                conv => whnf
                refine ⟨by omega, by omega, ?_⟩
                conv => whnf
                refine ⟨_, getI_natsD (by omega), ?_⟩
                conv => whnf
                refine ⟨(((g.getD d 0 ||| 2 ^ l) : Nat) : Int), congrArg some hO, ?_⟩
                conv => whnf
                have hct := hc.t
                conv => whnf
                refine ⟨by omega, by omega, ?_⟩
                conv => whnf
                refine ⟨by omega, by omega, ?_⟩
                conv => whnf
                refine ⟨_, getI_DD (by rw [hct.len]; omega), ?_⟩
                conv => whnf
                refine ⟨_, getI_D (by rw [hct.row _ (by omega)]; omega), ?_⟩
                conv => whnf
                refine ⟨_, rfl, ?_⟩
                conv => whnf
                refine ⟨_, rfl, ?_⟩
                conv => whnf
                refine ⟨fun En' hB' => ucE (by rw [hwl]) (by rw [nats_set]; rfl) (IH ((s + 1) * (ls.length + 1) + r) (by omega) (s + 1) r i (l + 1) rfl (by omega) (by omega) (set2 P i l (d : Int)) (set2 cur i l (d : Int)) (g.set d (g.getD d 0 ||| 2 ^ l)) (hc.set hin hm4 hln hn6 _) hg1 hgb1 y _ ?_ En' hB'), op135⟩
                rw [planS, hsi]
                refine eachR_mono hm _ _ _ _ (fun b y' hb cur' g' hc' hg' => ?_) (eachR_append hm _ _ _ _ hq)
                have hc2 := hc'.back hc.p hin hm4 hln hn6 h16
                rcases b with _ | _
                · skip
                  -- R:FFFFTFFa
                  conv => whnf
                  exact hb cur' g' hc2 fun e => by cases e
                · skip
                  have hg' := hg' rfl
                  subst hg'
                  conv => whnf
                  refine ⟨[0, 1, 2, 3, 4, 5, 6, 7], [], [], [], ⟨1496577676626844588240573268701473812127674924007423, [], []⟩, by decide +kernel, ?_⟩
                  conv => whnf
                  refine ⟨by omega, by omega, ?_⟩
                  conv => whnf
                  refine ⟨_, getI_natsD (by omega), ?_⟩
                  conv => whnf
                  rw [hgs]
                  conv => whnf
                  refine ⟨Int.natCast_nonneg _, ?_⟩
                  conv => whnf
                  refine ⟨by omega, by omega, ?_⟩
                  conv => whnf
                  refine ⟨_, getI_natsD (by omega), ?_⟩
                  conv => whnf
                  refine ⟨((g.getD d 0 : Nat) : Int), congrArg some hN, ?_⟩
                  -- Z23:TFFb
                  conv => whnf
                  refine ⟨⟨37218383881977644441306597687849648315, [], []⟩, ?_⟩
                  conv => whnf
                  rw [hw, nats_set, hsb]
                  exact hZ1 (q + 1, cur', y') ⟨hlt, hc2, hb⟩ (by dsimp only; omega)
          · skip
            have hge : q = (bitsL (havN cs l (H.getD i 0))).length := by have := of_decide_eq_false h23; omega
            rw [hge, List.drop_length] at hq
            have hq : (fun b y' => ∀ cur' g', CurT ls.length cs.length H i l P cur' → (b = true → g' = g) → Q (.bool b) (upsP p ls cs H cur' g') y') true y := hq
            -- R:FFFFF
            conv => whnf
            exact hq cur g hc fun _ => rfl

end Go.Ab.MkF
