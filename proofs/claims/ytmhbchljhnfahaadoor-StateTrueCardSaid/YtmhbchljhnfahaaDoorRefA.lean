/-
  THE STATE FAMILY, PART NA: functions of the reference: places, states, steps.
  THE STATE FAMILY, PART NB: functions of the reference: the error of an order, all orders, those that agree.
  THE STATE FAMILY, PART NC: functions of the reference: the orders that agree; words that have to be new; Check.
-/
import Derived.Test.YtmhbchljhnfahaaDoorPlainA
namespace Go.Ab.StF
open Go Go.Ab Go.Proofs
set_option maxHeartbeats 1000000
set_option maxRecDepth 100000

theorem lim {n : Nat} (h : n ≤ 1000000000) : n ≤ LIM := Nat.le_trans h (by decide)

theorem plc_at {xs : List Int} {n : Int} {i : Nat} (h : i < xs.length) (hn : n ∉ xs.take i) (he : xs[i] = n) : plc xs n = i := by
  unfold plc
  have hm : n ∈ xs := he ▸ List.getElem_mem h
  have h1 : ¬ xs.idxOf n < i := fun hl => hn ((mem_take_idx (by omega)).2 hl)
  have h2 : n ∈ xs.take (i + 1) := by rw [take_succ' h, he]; exact List.mem_append_right _ (List.mem_cons_self ..)
  have h3 := (mem_take_idx (by omega)).1 h2
  omega

theorem plc_none {xs : List Int} {n : Int} (hn : n ∉ xs) : plc xs n = xs.length := List.idxOf_eq_length hn

theorem nmem_succ {α : Type} {xs : List α} {x : α} {i : Nat} (h : i < xs.length) (hn : x ∉ xs.take i) (he : xs[i] ≠ x) : x ∉ xs.take (i + 1) := fun hm => by
  rw [take_succ' h] at hm
  rcases List.mem_append.1 hm with hm | hm
  · exact hn hm
  · simp only [List.mem_singleton] at hm
    exact he hm.symm

theorem rm_succ {α : Type} (f : Nat → α) (i : Nat) : (List.range (i + 1)).map f = (List.range i).map f ++ [f i] := by simp [List.range_succ]

/-- An order of so many loci, as far as its states are told. -/
structure OkO (n : Nat) (o : List Int × List Int) : Prop where
  l : o.1.length = n
  m : o.2.length = n
  v : ∀ v ∈ o.1, 0 ≤ v ∧ v ≤ 3
  n5 : n ≤ 5

def fitT (ss : List Int) (o : List Int × List Int) (k j : Nat) : Bool := ss.getD j 0 == 0 || ss.getD j 0 == atV o.1 o.2 k j
def odB (cs : List (ByteArray × List Int)) (o : List Int × List Int) (i : Nat) : Bool := (stpL (showsOf cs i) o.1 o.2).isEmpty
theorem amid_od (cs : List (ByteArray × List Int)) (o : List Int × List Int) : amidL cs o = (List.range cs.length).filter (odB cs o) := rfl
def amiB (ss st : List Int) (i : Nat) : Bool := ss.getD i 0 != 0 && ss.getD i 0 != st.getD i 0
/-- The loci at which a copy shows another reading than a state. -/
def amiL (ss st : List Int) : List Nat := (List.range st.length).filter (amiB ss st)

theorem c85 (gl : Gl) (xs : List Int) (hx : xs.length ≤ 9223372036854775807) (n : Int) : PCalls PR gl 85 [vL xs, vI n] fun r => r = vI (plc xs n : Nat) := by
  refine fnW_sound (par_ok gl) Tryd.func85 ?_
  conv => whnf
  refine ⟨⟨35, [], []⟩, ?_⟩
  refine LoopW_ind _ (fun i : Nat => (({ tmps := [vL xs, vI n, .undef, .undef, .undef, vI i, .undef, .undef, .undef, .undef, .undef, .undef, .undef, .undef, .undef, .undef, .undef, .undef, .undef, .undef, .undef], seg := [], up := [] } : St S))) (fun i : Nat => (i ≤ xs.length ∧ n ∉ xs.take i)) (fun i : Nat => (xs.length - i)) () ?_ 0 ⟨Nat.zero_le _, by simp⟩
  intro i hinv Z1 hZ1
  obtain ⟨hi, hn⟩ := hinv
  conv => whnf
  refine bcase_iff.2 ⟨fun h2 => ?_, fun h2 => ?_⟩
  · skip
    have hlt : i < xs.length := by have := of_decide_eq_true h2; omega
    have hw : IntKind.i64.wrap ((i : Int) + 1) = ((i + 1 : Nat) : Int) := wrap_nat (by omega)
    conv => whnf
    refine ⟨_, getI_nat hlt, ?_⟩
    conv => whnf
    refine bcase_iff.2 ⟨fun h4 => ?_, fun h4 => ?_⟩
    · skip
      have h4 : xs[i] = n := beq_iff_eq.1 h4
      -- R:TT
      conv => whnf
      rw [plc_at hlt hn h4]
    · skip
      have h4 : xs[i] ≠ n := beq_eq_false_iff_ne.1 h4
      -- Z2:TF
      conv => whnf
      refine ⟨⟨35, [], []⟩, ?_⟩
      conv => whnf
      rw [hw]
      exact hZ1 (i + 1) ⟨hlt, nmem_succ hlt hn h4⟩ (by omega)
  · skip
    have hge : i = xs.length := by have := of_decide_eq_false h2; omega
    -- R:F
    conv => whnf
    rw [hge, List.take_length] at hn
    rw [plc_none hn]

theorem op85 : Opens PR 85 := ⟨_, Tryd.func85, rfl, rfl⟩

theorem c107 (gl : Gl) (fs os : List Int) (ho : os.length ≤ 9223372036854775807) (k j : Nat) (hj : j < fs.length) (hf : ∀ v ∈ fs, 0 ≤ v ∧ v ≤ 3) : PCalls PR gl 107 [.agg [vL fs, vL os], vI k, vI j] fun r => r = vI (atV fs os k j) := by
  refine fnW_sound (par_ok gl) Tryd.func107 ?_
  conv => whnf
  refine byC (c85 gl os ho j) op85 ?_
  conv => whnf
  refine bcase_iff.2 ⟨fun h1 => ?_, fun h1 => ?_⟩
  · skip
    have h1 : plc os j < k := by have := of_decide_eq_true h1; omega
    conv => whnf
    refine ⟨_, getI_nat hj, ?_⟩
    -- R:T
    conv => whnf
    have hv := hf _ (List.getElem_mem hj)
    rw [wrap_int (by omega) (by omega)]
    unfold atV
    rw [if_pos h1, getD_e hj]
  · skip
    have h1 : ¬ plc os j < k := by have := of_decide_eq_false h1; omega
    conv => whnf
    refine ⟨_, getI_nat hj, ?_⟩
    -- R:F
    conv => whnf
    unfold atV
    rw [if_neg h1, getD_e hj]

theorem op107 : Opens PR 107 := ⟨_, Tryd.func107, rfl, rfl⟩

theorem op51 : Opens PR 51 := ⟨_, Tryd.func51, rfl, rfl⟩

end Go.Ab.StF

namespace Go.Ab.StF
open Go Go.Ab Go.Proofs
set_option maxHeartbeats 1000000
set_option maxRecDepth 100000


def o7 (xs : List (ByteArray × Int)) (fs os : List Int) (i : Nat) : Bool := !inB (fs.getD i 0) 1 2 || !inB (os.getD i 0) 0 ((xs.length : Int) - 1)
def o5 (os : List Int) (i : Nat) : Bool := (os.take i).any fun x => x == os.getD i 0
def o2 (xs : List (ByteArray × Int)) (fs : List Int) (i : Nat) : Bool := (xs.getD i (ByteArray.empty, 0)).2 != 0 && (xs.getD i (ByteArray.empty, 0)).2 != fs.getD i 0

/-! ### All orders -/

def firP (ks : List Int) (b : List Int) (v : Int) : List (List Int) := if (ks.getD b.length 0) == 0 || (ks.getD b.length 0) == v then firR (ks.drop (b.length + 1)) (b ++ [v]) else []
def firU (ks : List Int) (b : List Int) (i : Nat) : List (List Int) := (List.range (i - 1)).flatMap fun t : Nat => firP ks b ((t : Int) + 1)

def rowP (n : Nat) (p : List Nat) (k : Nat) : List (List Nat) := if p.contains k then [] else rowsR n (n - (p.length + 1)) (p ++ [k])
def rowU (n : Nat) (p : List Nat) (i : Nat) : List (List Nat) := (List.range i).flatMap (rowP n p)

theorem nats_snoc (p : List Nat) (k : Nat) : natsV (p ++ [k]) = natsV p ++ [(k : Int)] := by simp [natsV]

def allU (A B : List (List Int)) (i : Nat) : List (List Int × List Int) := (A.take i).flatMap fun a => B.map fun b => (a, b)
def allV (A B : List (List Int)) (i k : Nat) : List (List Int × List Int) := allU A B i ++ (B.take k).map fun b => (A.getD i [], b)

end Go.Ab.StF

namespace Go.Ab.StF
open Go Go.Ab Go.Proofs
set_option maxHeartbeats 1000000
set_option maxRecDepth 100000

abbrev ordsV (l : List (List Int × List Int)) : AV S := .sl (S := S) U.order l none

/-- An order of a forme. -/
structure OrdL (xs : List (ByteArray × Int)) (o : List Int × List Int) (os : List Nat) : Prop where
  l : o.1.length = xs.length
  v : ∀ v ∈ o.1, v = 1 ∨ v = 2
  osE : o.2 = natsV os
  perm : Perm xs.length os

theorem OrdL.ok {xs : List (ByteArray × Int)} {o : List Int × List Int} {os : List Nat} (h : OrdL xs o os) (h5 : xs.length ≤ 5) : OkO xs.length o :=
  ⟨h.l, by rw [h.osE]; simpa using h.perm.len, fun v hv => by rcases h.v v hv with h | h <;> omega, h5⟩

/-! ### New words -/

theorem idx_at {α : Type} (p : α → Bool) : ∀ (l : List α) (i k : Nat) (h : i < l.length), (∀ j (hj : j < i), p (l[j]'(by omega)) = false) → p l[i] = true → idx p l k = ((k + i : Nat) : Int)
  | [], i, k, h, _, _ => by simp at h
  | x :: l, 0, k, h, _, hp => by simp only [idx]; rw [if_pos (by simpa using hp)]; rfl
  | x :: l, i + 1, k, h, hn, hp => by
    simp only [idx]
    have h0 : p x = false := hn 0 (by omega)
    rw [h0, if_neg (by simp), idx_at p l i (k + 1) (by simpa using h) (fun j hj => hn (j + 1) (by omega)) (by simpa using hp)]
    congr 1; omega
theorem idx_no {α : Type} (p : α → Bool) : ∀ (l : List α) (k : Nat), (∀ x ∈ l, p x = false) → idx p l k = -1
  | [], k, _ => rfl
  | x :: l, k, h => by
    simp only [idx]
    rw [h x (List.mem_cons_self ..), if_neg (by simp), idx_no p l (k + 1) fun y hy => h y (List.mem_cons_of_mem _ hy)]

abbrev strsV (l : List ByteArray) : AV S := .sl (S := S) U.str l none

theorem wrap_m1 {m : Nat} (h : m ≤ 9223372036854775807) : IntKind.i64.wrap ((m : Int) - 1) = (m : Int) - 1 := wrap_int (by omega) (by omega)

theorem c113 (gl : Gl) (l : List ByteArray) (hl : l.length ≤ 9223372036854775807) (w : ByteArray) : PCalls PR gl 113 [strsV l, .str w] fun r => r = vI (idx (fun x => strEq x w) l 0) := by
  refine fnW_sound (par_ok gl) Tryd.func113 ?_
  conv => whnf
  rw [wrap_m1 hl]
  refine ⟨⟨35, [], []⟩, ?_⟩
  refine LoopW_ind _ (fun m : Nat => (({ tmps := [strsV l, .str w, .undef, .undef, .undef, vI ((m : Int) - 1), .undef, .undef, .undef, .undef, .undef, .undef, .undef, .undef, .undef, .undef, .undef, .undef, .undef, .undef, .undef, .undef, .undef, .undef, .undef, .undef, .undef, .undef, .undef, .undef, .undef, .undef, .undef, .undef, .undef], seg := [], up := [] } : St S))) (fun m : Nat => (m ≤ l.length ∧ ∀ j (hj : j < l.length), m ≤ j → strEq l[j] w = false)) (fun m : Nat => (m)) () ?_ l.length ⟨Nat.le_refl _, fun j hj h => absurd h (by omega)⟩
  intro m hinv Z1 hZ1
  obtain ⟨hm, hj⟩ := hinv
  conv => whnf
  refine bcase_iff.2 ⟨fun g2_2 => ?_, fun g2_2 => ?_⟩
  · skip
    have hm1 : 1 ≤ m := by have := of_decide_eq_true g2_2; omega
    conv => whnf
    refine ⟨l[m - 1]'(by omega), (by rw [show ((m : Int) - 1) = ((m - 1 : Nat) : Int) by omega]; exact getI_nat (show m - 1 < l.length by omega)), ?_⟩
    conv => whnf
    refine bcase_iff.2 ⟨fun h2 => ?_, fun h2 => ?_⟩
    · skip
      have h2 : strEq (l[m - 1]'(by omega)) w = false := by have h2 : (!strEq (l[m - 1]'(by omega)) w) = true := h2; simpa using h2
      -- Z2:TT
      conv => whnf
      refine ⟨⟨35, [], []⟩, ?_⟩
      conv => whnf
      rw [show IntKind.i64.wrap ((m : Int) - 1 - 1) = ((m - 1 : Nat) : Int) - 1 by rw [wrap_int (by omega) (by omega)]; omega]
      exact hZ1 (m - 1) ⟨by omega, fun j hj2 h => by
        by_cases e : j = m - 1
        · subst e; exact h2
        · exact hj j hj2 (by omega)⟩ (by omega)
    · skip
      have h2 : strEq (l[m - 1]'(by omega)) w = true := by have h2 : (!strEq (l[m - 1]'(by omega)) w) = false := h2; simpa using h2
      have hR : (∀ j (hj : j < l.length), (j : Int) < (m : Int) - 1 → strEq l[j] w = false) → idx (fun x => strEq x w) l 0 = (m : Int) - 1 := fun hn => by
        rw [idx_at _ l (m - 1) 0 (by omega) (fun j hj2 => hn j (by omega) (by omega)) h2]
        omega
      conv => whnf
      refine ⟨⟨99, [], []⟩, ?_⟩
      refine LoopW_ind _ (fun i : Nat => (({ tmps := [strsV l, .str w, .undef, .undef, .undef, vI ((m : Int) - 1), vI i, .undef, .undef, .undef, .undef, .undef, .undef, .undef, .undef, .undef, .undef, .undef, .undef, .undef, .undef, .undef, .undef, .undef, .undef, .undef, .undef, .undef, .undef, .undef, .undef, .undef, .undef, .undef, .undef], seg := [], up := [] } : St S))) (fun i : Nat => (i ≤ l.length ∧ ∀ j (hj : j < l.length), j < i → strEq l[j] w = false)) (fun i : Nat => (l.length - i)) () ?_ 0 ⟨Nat.zero_le _, fun j hj h => absurd h (by omega)⟩
      intro i hinv Z2 hZ2
      obtain ⟨hi, hn⟩ := hinv
      conv => whnf
      refine bcase_iff.2 ⟨fun h5 => ?_, fun h5 => ?_⟩
      · skip
        have hlt : (i : Int) < (m : Int) - 1 := of_decide_eq_true h5
        have hil : i < l.length := by omega
        have hw : IntKind.i64.wrap ((i : Int) + 1) = ((i + 1 : Nat) : Int) := wrap_nat (by omega)
        conv => whnf
        refine ⟨_, getI_nat hil, ?_⟩
        conv => whnf
        refine bcase_iff.2 ⟨fun h7 => ?_, fun h7 => ?_⟩
        · skip
          have h7 : strEq l[i] w = true := h7
          -- R:TFTT
          conv => whnf
          rw [idx_at _ l i 0 hil (fun j hj2 => hn j (by omega) hj2) h7, Nat.zero_add]
        · skip
          have h7 : strEq l[i] w = false := h7
          -- Z5:TF
          conv => whnf
          refine ⟨⟨99, [], []⟩, ?_⟩
          conv => whnf
          rw [hw]
          exact hZ2 (i + 1) ⟨hil, fun j hj2 h => by
            by_cases e : j = i
            · subst e; exact h7
            · exact hn j hj2 (by omega)⟩ (by omega)
      · skip
        have hge : ¬ (i : Int) < (m : Int) - 1 := of_decide_eq_false h5
        -- R:TFF
        conv => whnf
        rw [hR fun j hj2 h => hn j hj2 (by omega)]
  · skip
    have hm0 : m = 0 := by have := of_decide_eq_false g2_2; omega
    have hR : (∀ j (hj : j < l.length), (j : Int) < (m : Int) - 1 → strEq l[j] w = false) → idx (fun x => strEq x w) l 0 = (m : Int) - 1 := fun _ => by
      rw [idx_no _ _ _ fun x hx => ?_, hm0]
      · rfl
      · obtain ⟨j, hj2, rfl⟩ := List.mem_iff_getElem.1 hx
        exact hj j hj2 (by omega)
    conv => whnf
    refine ⟨⟨99, [], []⟩, ?_⟩
    refine LoopW_ind _ (fun i : Nat => (({ tmps := [strsV l, .str w, .undef, .undef, .undef, vI ((m : Int) - 1), vI i, .undef, .undef, .undef, .undef, .undef, .undef, .undef, .undef, .undef, .undef, .undef, .undef, .undef, .undef, .undef, .undef, .undef, .undef, .undef, .undef, .undef, .undef, .undef, .undef, .undef, .undef, .undef, .undef], seg := [], up := [] } : St S))) (fun i : Nat => (i ≤ l.length ∧ ∀ j (hj : j < l.length), j < i → strEq l[j] w = false)) (fun i : Nat => (l.length - i)) () ?_ 0 ⟨Nat.zero_le _, fun j hj h => absurd h (by omega)⟩
    intro i hinv Z2 hZ2
    obtain ⟨hi, hn⟩ := hinv
    conv => whnf
    refine bcase_iff.2 ⟨fun h5 => ?_, fun h5 => ?_⟩
    · skip
      have hlt : (i : Int) < (m : Int) - 1 := of_decide_eq_true h5
      have hil : i < l.length := by omega
      have hw : IntKind.i64.wrap ((i : Int) + 1) = ((i + 1 : Nat) : Int) := wrap_nat (by omega)
      conv => whnf
      refine ⟨_, getI_nat hil, ?_⟩
      conv => whnf
      refine bcase_iff.2 ⟨fun h7 => ?_, fun h7 => ?_⟩
      · skip
        have h7 : strEq l[i] w = true := h7
        -- R:FTT
        conv => whnf
        rw [idx_at _ l i 0 hil (fun j hj2 => hn j (by omega) hj2) h7, Nat.zero_add]
      · skip
        have h7 : strEq l[i] w = false := h7
        -- Z5:TF
        conv => whnf
        refine ⟨⟨99, [], []⟩, ?_⟩
        conv => whnf
        rw [hw]
        exact hZ2 (i + 1) ⟨hil, fun j hj2 h => by
          by_cases e : j = i
          · subst e; exact h7
          · exact hn j hj2 (by omega)⟩ (by omega)
    · skip
      have hge : ¬ (i : Int) < (m : Int) - 1 := of_decide_eq_false h5
      -- R:FF
      conv => whnf
      rw [hR fun j hj2 h => hn j hj2 (by omega)]

theorem op113 : Opens PR 113 := ⟨_, Tryd.func113, rfl, rfl⟩


theorem op114 : Opens PR 114 := ⟨_, Tryd.func114, rfl, rfl⟩

/-- The error of a word that has to be new. -/
def freE (w : ByteArray) (l : List ByteArray) : Int := if !nameB w then 6 else if l.any fun x => strEq x w then 5 else 0

theorem c70 (gl : Gl) (w : ByteArray) (hw1 : w.size ≤ 9223372036854775807) (l : List ByteArray) (hl : l.length ≤ 9223372036854775807) : PCalls PR gl 70 [.str w, strsV l] fun r => r = vI (freE w l) := by
  refine fnW_sound (par_ok gl) Tryd.func70 ?_
  conv => whnf
  refine byC (c113 gl l hl w) op113 ?_
  conv => whnf
  refine bcase_iff.2 ⟨fun h2 => ?_, fun h2 => ?_⟩
  · skip
    have h2 : l.any (fun x => strEq x w) = true := by rw [← idx_any]; exact h2
    conv => whnf
    refine byC (c114 gl w hw1) op114 ?_
    conv => whnf
    refine bcase_iff.2 ⟨fun h4 => ?_, fun h4 => ?_⟩
    · skip
      have h4 : (!nameB w) = true := h4
      -- R:TT
      conv => whnf
      unfold freE; rw [h4]; rfl
    · skip
      have h4 : (!nameB w) = false := h4
      -- R:TF
      conv => whnf
      unfold freE; rw [h4, h2]; rfl
  · skip
    have h2 : l.any (fun x => strEq x w) = false := by rw [← idx_any]; exact h2
    conv => whnf
    refine byC (c114 gl w hw1) op114 ?_
    conv => whnf
    refine bcase_iff.2 ⟨fun h4 => ?_, fun h4 => ?_⟩
    · skip
      have h4 : (!nameB w) = true := h4
      -- R:FT
      conv => whnf
      unfold freE; rw [h4]; rfl
    · skip
      have h4 : (!nameB w) = false := h4
      -- R:FF
      conv => whnf
      unfold freE; rw [h4, h2]; rfl

theorem op70 : Opens PR 70 := ⟨_, Tryd.func70, rfl, rfl⟩

end Go.Ab.StF
