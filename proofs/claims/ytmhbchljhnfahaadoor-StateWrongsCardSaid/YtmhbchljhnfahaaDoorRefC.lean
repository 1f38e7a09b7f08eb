/-
  THE STATE FAMILY, PART NG: functions of the reference: Proof, Wrong, Mistaken.
  THE STATE FAMILY, PART NH: functions of the reference: Proof, Wrong, Mistaken.
  THE STATE FAMILY, PART NI: functions of the reference: Mistaken; the law StateWrongs.
-/
import Derived.Test.YtmhbchljhnfahaaDoorRefB
import Derived.Test.YtmhbchljhnfahaaDoorPlainB
import Derived.Test.YtmhbchljhnfahaaDoorLawA
namespace Go.Ab.StF
open Go Go.Ab Go.Proofs
set_option maxHeartbeats 1000000
set_option maxRecDepth 100000

def misB (a b : List Int) : Bool := !(a.any fun x => b.any fun y => y == x)

theorem any_snoc {α : Type} {l : List α} {p : α → Bool} {i : Nat} (h : i < l.length) : (l.take (i + 1)).any p = ((l.take i).any p || p l[i]) := by
  rw [take_succ' h, List.any_append]; simp
theorem all_snoc {α : Type} {l : List α} {p : α → Bool} {i : Nat} (h : i < l.length) : (l.take (i + 1)).all p = ((l.take i).all p && p l[i]) := by
  rw [take_succ' h, List.all_append]; simp
theorem any_at {α : Type} {l : List α} {p : α → Bool} {i : Nat} (h : i < l.length) (hp : p l[i] = true) : l.any p = true := List.any_eq_true.2 ⟨_, List.getElem_mem h, hp⟩

theorem mis_hits (cs : List (ByteArray × List Int)) (l : List Nat) (o : List Int × List Int) : misB (natsV l) (natsV (amidL cs o)) = !hitsB cs l o := by
  unfold misB hitsB
  congr 1
  induction l with
  | nil => rfl
  | cons k l ih =>
    show ((natsV (amidL cs o)).any (fun y => y == (k : Int)) || (natsV l).any fun x => (natsV (amidL cs o)).any fun y => y == x) = _
    rw [nats_has, ih, List.any_cons]

theorem c95 (gl : Gl) (a b : List Int) (ha : a.length ≤ 9223372036854775807) (hb : b.length ≤ 9223372036854775807) : PCalls PR gl 95 [vL a, vL b] fun r => r = vB (misB a b) := by
  refine fnW_sound (par_ok gl) Tryd.func95 ?_
  conv => whnf
  refine ⟨⟨35, [], []⟩, ?_⟩
  refine LoopW_ind _ (fun i : Nat => (({ tmps := [vL a, vL b, .undef, .undef, .undef, vI i, .undef, .undef, .undef, .undef, .undef, .undef, .undef, .undef, .undef, .undef, .undef, .undef], seg := [], up := [] } : St S))) (fun i : Nat => (i ≤ a.length ∧ (a.take i).any (fun x => b.any fun y => y == x) = false)) (fun i : Nat => (a.length - i)) () ?_ 0 ⟨Nat.zero_le _, rfl⟩
  intro i hinv Z1 hZ1
  obtain ⟨hi, hj⟩ := hinv
  conv => whnf
  refine bcase_iff.2 ⟨fun h2 => ?_, fun h2 => ?_⟩
  · skip
    have hlt : i < a.length := by have := of_decide_eq_true h2; omega
    have hw : IntKind.i64.wrap ((i : Int) + 1) = ((i + 1 : Nat) : Int) := wrap_nat (by omega)
    conv => whnf
    refine ⟨_, getI_nat hlt, ?_⟩
    conv => whnf
    refine byC (c52 gl b hb a[i]) op52 ?_
    conv => whnf
    refine bcase_iff.2 ⟨fun h4 => ?_, fun h4 => ?_⟩
    · skip
      have h4 : (b.any fun y => y == a[i]) = true := h4
      -- R:TT
      conv => whnf
      unfold misB
      rw [any_at (p := fun x => b.any fun y => y == x) hlt h4]
      rfl
    · skip
      have h4 : (b.any fun y => y == a[i]) = false := h4
      -- Z2:TF
      conv => whnf
      refine ⟨⟨35, [], []⟩, ?_⟩
      conv => whnf
      rw [hw]
      exact hZ1 (i + 1) ⟨hlt, by rw [any_snoc hlt, hj, h4]; rfl⟩ (by omega)
  · skip
    have hge : i = a.length := by have := of_decide_eq_false h2; omega
    -- R:F
    conv => whnf
    rw [hge, List.take_length] at hj
    unfold misB
    rw [hj]
    rfl

theorem op95 : Opens PR 95 := ⟨_, Tryd.func95, rfl, rfl⟩

theorem c58 (gl : Gl) (a b : List Int) (ha : a.length ≤ 9223372036854775807) (hb : b.length ≤ 9223372036854775807) : PCalls PR gl 58 [vL a, vL b] fun r => r = vB (befL a b) := by
  refine fnW_sound (par_ok gl) Tryd.func58 ?_
  conv => whnf
  refine ⟨⟨35, [], []⟩, ?_⟩
  refine LoopW_ind _ (fun i : Nat => (({ tmps := [vL a, vL b, .undef, .undef, .undef, vI i, .undef, .undef, .undef, .undef, .undef, .undef, .undef, .undef, .undef, .undef, .undef, .undef, .undef, .undef, .undef, .undef, .undef, .undef, .undef, .undef, .undef, .undef, .undef, .undef, .undef, .undef, .undef, .undef, .undef, .undef, .undef, .undef, .undef, .undef, .undef], seg := [], up := [] } : St S))) (fun i : Nat => (i ≤ a.length ∧ i ≤ b.length ∧ befL (a.drop i) (b.drop i) = befL a b)) (fun i : Nat => (a.length - i)) () ?_ 0 ⟨Nat.zero_le _, Nat.zero_le _, rfl⟩
  intro i hinv Z1 hZ1
  obtain ⟨hi, hib, hj⟩ := hinv
  conv => whnf
  refine bcase_iff.2 ⟨fun g2_4 => ?_, fun g2_4 => ?_⟩
  · skip
    have hlt : i < a.length := by have := of_decide_eq_true g2_4; omega
    have hw : IntKind.i64.wrap ((i : Int) + 1) = ((i + 1 : Nat) : Int) := wrap_nat (by omega)
    conv => whnf
    refine bcase_iff.2 ⟨fun h2 => ?_, fun h2 => ?_⟩
    · skip
      have hlb : i < b.length := by have := of_decide_eq_true h2; omega
      rw [List.drop_eq_getElem_cons hlt, List.drop_eq_getElem_cons hlb, befL] at hj
      conv => whnf
      refine ⟨[0, 1, 2, 3, 4, 5, 6, 7, 8], [], [], [], ⟨2199023255551, [], []⟩, by decide +kernel, ?_⟩
      conv => whnf
      refine ⟨_, getI_nat hlt, ?_⟩
      conv => whnf
      refine ⟨_, getI_nat hlb, ?_⟩
      conv => whnf
      refine bcase_iff.2 ⟨fun h4 => ?_, fun h4 => ?_⟩
      · skip
        have h4 : a[i] ≠ b[i] := by have h4 : (a[i] != b[i]) = true := h4; simpa using h4
        rw [if_neg h4] at hj
        conv => whnf
        refine ⟨[0, 1, 2, 3, 4, 5, 6, 7, 8, 9], [], [], [], ⟨2199023255551, [], []⟩, by decide +kernel, ?_⟩
        conv => whnf
        refine ⟨_, getI_nat hlt, ?_⟩
        conv => whnf
        refine ⟨_, getI_nat hlb, ?_⟩
        -- R:TTT
        conv => whnf
        rw [hj]
      · skip
        have h4 : a[i] = b[i] := by have h4 : (a[i] != b[i]) = false := h4; simpa using h4
        rw [if_pos h4] at hj
        -- Z2:TTF
        conv => whnf
        refine ⟨⟨35, [], []⟩, ?_⟩
        conv => whnf
        rw [hw]
        exact hZ1 (i + 1) ⟨hlt, hlb, hj⟩ (by omega)
    · skip
      have hgb : i = b.length := by have := of_decide_eq_false h2; omega
      -- R:TF
      conv => whnf
      rw [List.drop_eq_getElem_cons hlt, List.drop_eq_nil_of_le (show b.length ≤ i by omega), befL] at hj
      rw [← hj, decide_eq_false (by omega)]
  · skip
    have hge : i = a.length := by have := of_decide_eq_false g2_4; omega
    -- R:F
    conv => whnf
    rw [List.drop_eq_nil_of_le (show a.length ≤ i by omega)] at hj
    by_cases hlb : i < b.length
    · rw [List.drop_eq_getElem_cons hlb, befL] at hj
      rw [← hj, decide_eq_true (by omega)]
    · rw [List.drop_eq_nil_of_le (show b.length ≤ i by omega), befL] at hj
      rw [← hj, decide_eq_false (by omega)]

theorem op58 : Opens PR 58 := ⟨_, Tryd.func58, rfl, rfl⟩


/-! ### All ascending lists -/

def lisU (f b m k : Nat) : List (List Nat) := (List.range' f (k - f)).flatMap fun k => (listsL (k + 1) b m).map fun l => k :: l

theorem lisU_succ {f b m k : Nat} (h : f ≤ k) : lisU f b m (k + 1) = lisU f b m k ++ (listsL (k + 1) b m).map fun l => k :: l := by
  unfold lisU
  rw [show k + 1 - f = (k - f) + 1 by omega, List.range'_1_concat, List.flatMap_append, List.flatMap_singleton, show f + (k - f) = k by omega]

theorem lists_len {b : Nat} (hb : b ≤ 8) : ∀ (m f : Nat), (listsL f b m).length ≤ 8 ^ m
  | 0, f => by simp [listsL]
  | m + 1, f => by
    have hgo : ∀ l : List Nat, (l.flatMap fun k => (listsL (k + 1) b m).map fun l => k :: l).length ≤ l.length * 8 ^ m := fun l => by
      induction l with
      | nil => simp
      | cons k l ih =>
        rw [List.flatMap_cons, List.length_append, List.length_cons, Nat.succ_mul, List.length_map]
        have := lists_len hb m (k + 1)
        omega
    rw [listsL]
    refine Nat.le_trans (hgo _) ?_
    rw [List.length_range', Nat.pow_succ, Nat.mul_comm]
    exact Nat.mul_le_mul_left _ (by omega)

theorem lisU_len {b : Nat} (hb : b ≤ 8) (f m : Nat) {k : Nat} (hk : k ≤ 9) : (lisU f b m k).length ≤ 9 * 8 ^ m := by
  have hgo : ∀ l : List Nat, (l.flatMap fun k => (listsL (k + 1) b m).map fun l => k :: l).length ≤ l.length * 8 ^ m := fun l => by
    induction l with
    | nil => simp
    | cons k l ih =>
      rw [List.flatMap_cons, List.length_append, List.length_cons, Nat.succ_mul, List.length_map]
      have := lists_len hb m (k + 1)
      omega
  refine Nat.le_trans (hgo _) ?_
  rw [List.length_range']
  exact Nat.mul_le_mul_right _ (by omega)

def lisV (f b m k i : Nat) : List (List Nat) := lisU f b m k ++ ((listsL (k + 1) b m).take i).map fun l => k :: l
theorem lisV_zero (f b m k : Nat) : lisV f b m k 0 = lisU f b m k := by simp [lisV]
theorem lisV_full {f b m k : Nat} (h : f ≤ k) : lisV f b m k (listsL (k + 1) b m).length = lisU f b m (k + 1) := by rw [lisU_succ h]; unfold lisV; rw [List.take_length]
theorem lisV_succ {f b m k i : Nat} (h : i < (listsL (k + 1) b m).length) : lisV f b m k (i + 1) = lisV f b m k i ++ [k :: (listsL (k + 1) b m)[i]] := by
  unfold lisV; rw [take_succ' h, List.map_append, ← List.append_assoc]; rfl
theorem lisV_len {b : Nat} (hb : b ≤ 8) (f m : Nat) {k : Nat} (hk : k ≤ 9) (i : Nat) : (lisV f b m k i).length ≤ 10 * 8 ^ m := by
  have h1 := lisU_len hb f m hk
  have h2 := lists_len hb m (k + 1)
  unfold lisV
  rw [List.length_append, List.length_map, List.length_take]
  omega
theorem pow8 {m : Nat} (h : m ≤ 8) : 8 ^ m ≤ 16777216 := Nat.le_trans (Nat.pow_le_pow_right (by omega) h) (by decide)
theorem asc_len {f b m : Nat} (hb : b ≤ 8) {l : List Nat} (h : l ∈ listsL f b m) : l.length = m := ((listsL_mem m f b l).1 h).1

theorem c94s (gl : Gl) (f b m : Nat) (hb : b ≤ 8) (hm : m ≤ 7) (hf : f ≤ 9) (IH : ∀ k : Nat, k ≤ 9 → PCalls PR gl 94 [vI k, vI b, vI m] fun r => r = .sl (S := S) U.ints ((listsL k b m).map natsV) none) : PCalls PR gl 94 [vI f, vI b, vI (m + 1 : Nat)] fun r => r = .sl (S := S) U.ints ((listsL f b (m + 1)).map natsV) none := by
  have hp8 := pow8 (show m ≤ 8 by omega)
  refine fnW_sound (par_ok gl) Tryd.func94 ?_
  conv => whnf
  have h0 : lisU f b m f = [] := by unfold lisU; rw [Nat.sub_self]; rfl
  refine loop_q fun Q1 hQ1 => ?_
  refine ⟨⟨390, [6], [6, 7]⟩, ?_⟩
  refine LoopW_ind _ (fun s : Nat × List (List Int) => match s with | (k, l) => (({ tmps := [.undef, vI b, vI (m + 1 : Nat), .undef, .undef, .undef, .undef, .sl (S := S) U.ints l (some 7), vI k, .undef, .undef, .undef, .undef, .undef, .undef, .undef, .undef, .undef, .undef, .undef, .undef, .undef, .undef, .undef, .undef, .undef, .undef, .undef, .undef, .undef, .undef, .undef, .undef, .undef, .undef, .undef, .undef, .undef, .undef, .undef, .undef, .undef, .undef, .undef, .undef], seg := [(7, .row U.ints false)], up := [] } : St S))) (fun s : Nat × List (List Int) => match s with | (k, l) => (f ≤ k ∧ (k = f ∨ k + m ≤ b) ∧ l = (lisU f b m k).map natsV)) (fun s : Nat × List (List Int) => match s with | (k, l) => (b + 1 - (k + m))) () ?_ (f, []) ⟨Nat.le_refl _, .inl rfl, by rw [h0]; rfl⟩
  rintro ⟨k, l⟩ hinv Z1 hZ1
  dsimp only at hinv hZ1
  obtain ⟨hfk, hkm, rfl⟩ := hinv
  conv => whnf
  refine bcase_iff.2 ⟨fun h5 => ?_, fun h5 => ?_⟩
  · skip
    have hwk : IntKind.i64.wrap ((k : Int) + ((m + 1 : Nat) : Int)) = ((k + m + 1 : Nat) : Int) := by rw [wrap_int (by omega) (by omega)]; omega
    have hlt : k + m + 1 ≤ b := by have h5 := of_decide_eq_true h5; rw [hwk] at h5; omega
    have hw : IntKind.i64.wrap ((k : Int) + 1) = ((k + 1 : Nat) : Int) := wrap_nat (by omega)
    have hwm : IntKind.i64.wrap (((m + 1 : Nat) : Int) - 1) = (m : Int) := by rw [wrap_int (by omega) (by omega)]; omega
    have hRl := lists_len hb m (k + 1)
    conv => whnf
    rw [hw, hwm]
    conv => whnf
    refine byC (IH (k + 1) (by omega)) ⟨_, Tryd.func94, rfl, rfl⟩ ?_
    conv => whnf
    rw [← lisV_zero]
    refine loop_q fun Q2 hQ2 => ?_
    refine ⟨⟨1926, [], []⟩, ?_⟩
    refine LoopW_ind _ (fun i : Nat => (({ tmps := [.undef, vI b, vI (m + 1 : Nat), .undef, .undef, .undef, .undef, .sl (S := S) U.ints ((lisV f b m k i).map natsV) (some 7), vI k, .sl (S := S) U.ints ((listsL (k + 1) b m).map natsV) none, vI i, .undef, .undef, .undef, .undef, .undef, .undef, .undef, .undef, .undef, .undef, .undef, .undef, .undef, .undef, .undef, .undef, .undef, .undef, .undef, .undef, .undef, .undef, .undef, .undef, .undef, .undef, .undef, .undef, .undef, .undef, .undef, .undef, .undef, .undef], seg := [(7, .row U.ints false)], up := [] } : St S))) (fun i : Nat => (i ≤ (listsL (k + 1) b m).length)) (fun i : Nat => ((listsL (k + 1) b m).length - i)) () ?_ 0 (Nat.zero_le _)
    intro i hi Z2 hZ2
    conv => whnf
    refine bcase_iff.2 ⟨fun h9 => ?_, fun h9 => ?_⟩
    · skip
      have hli : i < (listsL (k + 1) b m).length := by have h9 := of_decide_eq_true h9; rw [List.length_map] at h9; omega
      have hwi : IntKind.i64.wrap ((i : Int) + 1) = ((i + 1 : Nat) : Int) := wrap_nat (by omega)
      have hVl := lisV_len hb f m (show k ≤ 9 by omega) i
      have hls := asc_len hb (List.getElem_mem hli)
      conv => whnf
      refine ⟨_, rfl, ?_⟩
      conv => whnf
      refine ⟨natsV (listsL (k + 1) b m)[i], by rw [getI_nat (show i < ((listsL (k + 1) b m).map natsV).length by rw [List.length_map]; exact hli), List.getElem_map], ?_⟩
      conv => whnf
      have hll : [(k : Int)].length + (natsV (listsL (k + 1) b m)[i]).length ≤ LIM := lim (by simp only [natsV, List.length_map, List.length_cons, List.length_nil]; omega)
      conv => whnf
      refine ⟨hll, ?_⟩
      conv => whnf
      refine ⟨_, rfl, ?_⟩
      conv => whnf
      have hl2 : ((lisV f b m k i).map natsV).length + [[(k : Int)] ++ natsV (listsL (k + 1) b m)[i]].length ≤ LIM := lim (by rw [List.length_map]; simp only [List.length_cons, List.length_nil]; omega)
      conv => whnf
      refine ⟨hl2, ?_⟩
      -- Z9:T
      conv => whnf
      refine ⟨⟨1926, [36, 41, 42, 43], []⟩, ?_⟩
      conv => whnf
      have hs : (lisV f b m k (i + 1)).map natsV = (lisV f b m k i).map natsV ++ [[(k : Int)] ++ natsV (listsL (k + 1) b m)[i]] := by rw [lisV_succ hli, List.map_append]; rfl
      have := hZ2 (i + 1) hli (by omega)
      rw [hs] at this
      rw [hwi]
      exact this
    · skip
      have hgi : i = (listsL (k + 1) b m).length := by have h9 := of_decide_eq_false h9; rw [List.length_map] at h9; omega
      conv => whnf
      refine (hQ2 _ _ _).mpr ?_
      -- Z5:TF
      conv => whnf
      refine ⟨⟨390, [36, 41, 42, 43], []⟩, ?_⟩
      conv => whnf
      rw [hgi, lisV_full hfk, hw]
      exact hZ1 (k + 1, _) ⟨by omega, .inr (by omega), rfl⟩ (by dsimp only; omega)
  · skip
    have hwk : IntKind.i64.wrap ((k : Int) + ((m + 1 : Nat) : Int)) = ((k + m + 1 : Nat) : Int) := by rw [wrap_int (by omega) (by omega)]; omega
    have hge : ¬ k + m + 1 ≤ b := by have h5 := of_decide_eq_false h5; rw [hwk] at h5; omega
    conv => whnf
    refine (hQ1 _ _ _).mpr ?_
    -- R:F
    conv => whnf
    have he : lisU f b m k = listsL f b (m + 1) := by unfold lisU; rw [listsL, show k - f = b - (f + m) by omega]
    rw [he]

theorem op94 : Opens PR 94 := ⟨_, Tryd.func94, rfl, rfl⟩


theorem c94z (gl : Gl) (f b : Nat) : PCalls PR gl 94 [vI f, vI b, vI (0 : Nat)] fun r => r = .sl (S := S) U.ints ((listsL f b 0).map natsV) none := by
  refine fnW_sound (par_ok gl) Tryd.func94 ?_
  conv => whnf
  refine ⟨_, rfl, ?_⟩
  conv => whnf
  rfl

theorem c94 (gl : Gl) (b : Nat) (hb : b ≤ 8) : ∀ (m f : Nat), m ≤ 8 → f ≤ 9 → PCalls PR gl 94 [vI f, vI b, vI m] fun r => r = .sl (S := S) U.ints ((listsL f b m).map natsV) none
  | 0, f, _, _ => c94z gl f b
  | m + 1, f, hm, hf => c94s gl f b m hb (by omega) hf fun (k : Nat) hk => c94 gl b hb m k (by omega) hk

end Go.Ab.StF

namespace Go.Ab.StF
open Go Go.Ab Go.Proofs
set_option maxHeartbeats 1000000
set_option maxRecDepth 100000

/-- The least of the first lists. -/
def bstU {α : Type} (d : α) (g : α → List Int) (A : List α) : Nat → List Int
  | 0 => []
  | 1 => g (A.getD 0 d)
  | i + 2 => if ltK (g (A.getD (i + 1) d)) (bstU d g A (i + 1)) then g (A.getD (i + 1) d) else bstU d g A (i + 1)

theorem bstU_succ {α : Type} (d : α) (g : α → List Int) (A : List α) {i : Nat} (h : 1 ≤ i) : bstU d g A (i + 1) = if ltK (g (A.getD i d)) (bstU d g A i) then g (A.getD i d) else bstU d g A i := by
  obtain ⟨k, rfl⟩ : ∃ k, i = k + 1 := ⟨i - 1, by omega⟩
  rfl

theorem bstU_all {α : Type} (d : α) (g : α → List Int) {A : List α} (h : 0 < A.length) : bstU d g A A.length = bestF (g (A.headD d)) (A.tail.map g) := by
  cases A with
  | nil => simp at h
  | cons a l =>
    have : ∀ i, i ≤ l.length → bstU d g (a :: l) (i + 1) = bestF (g a) ((l.map g).take i) := fun i => by
      induction i with
      | zero => intro _; rfl
      | succ i ih =>
        intro hi
        have hi' : i < (l.map g).length := by simp; omega
        rw [bstU_succ _ _ _ (by omega), ih (by omega), take_succ' hi', bestF_snoc]
        have e : (a :: l).getD (i + 1) d = l[i]'(by omega) := by simp [List.getD_eq_getElem?_getD, show i < l.length by omega]
        rw [e, List.getElem_map]
    have := this l.length (Nat.le_refl _)
    rw [List.take_of_length_le (by simp)] at this
    exact this

theorem len_lt (a b : List Int) : ((a.length : Int) < (b.length : Int)) ↔ a.length < b.length := by omega
theorem ltK_1 {a b : List Int} (h : decide ((a.length : Int) < b.length) = true) : ltK a b = true := ltK_iff.2 (.inl (by have := of_decide_eq_true h; omega))
theorem ltK_2 {a b : List Int} (h : ((a.length : Int) == b.length) = true) (h2 : befL a b = true) : ltK a b = true := ltK_iff.2 (.inr ⟨by have := beq_iff_eq.1 h; omega, h2⟩)
theorem ltK_3 {a b : List Int} (h : decide ((a.length : Int) < b.length) = false) (h1 : befL a b = false) : ltK a b = false := by
  rw [Bool.eq_false_iff, Ne, ltK_iff, h1]
  have := of_decide_eq_false h
  rintro (h | h)
  · omega
  · cases h.2
theorem ltK_4 {a b : List Int} (h : decide ((a.length : Int) < b.length) = false) (h1 : ((a.length : Int) == b.length) = false) : ltK a b = false := by
  rw [Bool.eq_false_iff, Ne, ltK_iff]
  have := of_decide_eq_false h
  have := beq_eq_false_iff_ne.1 h1
  rintro (h | h) <;> omega

theorem amid_len (cs : List (ByteArray × List Int)) (o : List Int × List Int) : (natsV (amidL cs o)).length ≤ cs.length := nf_len _ _

theorem getI_map {α β : Type} {f : α → β} {l : List α} {i : Nat} (h : i < l.length) : getI (l.map f) (i : Int) = some (f l[i]) := by
  rw [getI_nat (by rw [List.length_map]; exact h), List.getElem_map]

theorem c36 (gl : Gl) (xs : List (ByteArray × Int)) (cs : List (ByteArray × List Int)) (hN : LensN xs cs) : PCalls PR gl 36 [.agg [lociV xs, copsV cs]] fun r => r = lstV (proofS xs cs) := by
  refine fnW_sound (par_ok gl) Tryd.func36 ?_
  conv => whnf
  refine byC (c17 gl xs cs hN) op17 ?_
  conv => whnf
  refine bcase_iff.2 ⟨fun h2 => ?_, fun h2 => ?_⟩
  · skip
    have hc : (chk xs cs).2.2 ≠ 0 := by have h2 : ((chk xs cs).2.2 != 0) = true := h2; simpa using h2
    -- R:T
    conv => whnf
    unfold proofS
    rw [if_pos hc]
  · skip
    have hc : (chk xs cs).2.2 = 0 := by have h2 : ((chk xs cs).2.2 != 0) = false := h2; simpa using h2
    have hv := chk_valid hc
    have h5 := hv.l5
    have hc8 := hv.c8
    have hcn : ¬ ((chk xs cs).2.2 ≠ 0) := fun h => h hc
    have hAl := allL_len h5
    have hAo : ∀ o ∈ allL xs, OkO xs.length o := fun o ho => allL_ok h5 ho
    have hA0 : 0 < (allL xs).length := List.length_pos_iff.2 (allL_ne hv.fst)
    have h93 := c93 gl xs cs h5
    have hR : proofS xs cs = if (allL xs).any (fun o => (amidL cs o).isEmpty) then (([], 4) : List Int × Int) else match ((List.range cs.length).flatMap fun m => listsL 0 cs.length (m + 1)).find? (fun l => (allL xs).all (hitsB cs l)) with | some l => (natsV l, 0) | none => ([], 4) := by unfold proofS; rw [if_neg hcn]; rfl
    generalize allL xs = A at hAl hAo hA0 h93 hR ⊢
    conv => whnf
    refine byC h93 op93 ?_
    conv => whnf
    refine ⟨⟨898, [2], [2, 7]⟩, ?_⟩
    refine LoopW_ind _ (fun i : Nat => (({ tmps := [.undef, .own 1 [], .undef, .undef, .undef, .undef, .undef, .sl (S := S) U.ints ((A.take i).map fun o => natsV (amidL cs o)) (some 7), ordsV A, vI i, .undef, .undef, .undef, .undef, .undef, .undef, .undef, .undef, .undef, .undef, .undef, .undef, .undef, .undef, .undef, .undef, .undef, .undef, .undef, .undef, .undef, .undef, .undef, .undef, .undef, .undef, .undef, .undef, .undef, .undef, .undef, .undef, .undef, .undef, .undef, .undef, .undef, .undef, .undef, .undef, .undef, .undef, .undef, .undef, .undef, .undef, .undef, .undef, .undef, .undef, .undef, .undef, .undef, .undef, .undef, .undef, .undef, .undef, .undef, .undef, .undef, .undef, .undef, .undef, .undef, .undef, .undef, .undef, .undef, .undef, .undef, .undef, .undef, .undef, .undef, .undef, .undef, .undef], seg := [(1, .cells [lociV xs, copsV cs]), (7, .row U.ints false)], up := [] } : St S))) (fun i : Nat => (i ≤ A.length ∧ (A.take i).any (fun o => (amidL cs o).isEmpty) = false)) (fun i : Nat => (A.length - i)) () ?_ 0 ⟨Nat.zero_le _, rfl⟩
    intro i hinv Z1 hZ1
    obtain ⟨hi, hj⟩ := hinv
    conv => whnf
    refine bcase_iff.2 ⟨fun h7 => ?_, fun h7 => ?_⟩
    · skip
      have hlt : i < A.length := by have := of_decide_eq_true h7; omega
      have hw : IntKind.i64.wrap ((i : Int) + 1) = ((i + 1 : Nat) : Int) := wrap_nat (by omega)
      conv => whnf
      refine ⟨[0, 1, 2, 3, 4, 5, 6], [], [], [], ⟨309485009821345068724781055, [], []⟩, by decide +kernel, ?_⟩
      conv => whnf
      refine ⟨_, getI_nat hlt, ?_⟩
      conv => whnf
      refine byC (c74 gl hv A[i] (hAo _ (List.getElem_mem hlt))) op74 ?_
      conv => whnf
      refine bcase_iff.2 ⟨fun h10 => ?_, fun h10 => ?_⟩
      · skip
        have h10 : (amidL cs A[i]).isEmpty = true := by rw [← len_empty]; exact h10
        rw [any_at (p := fun o => (amidL cs o).isEmpty) hlt h10, if_pos rfl] at hR
        -- R:FTT
        conv => whnf
        rw [hR]
      · skip
        have h10 : (amidL cs A[i]).isEmpty = false := by rw [← len_empty]; exact h10
        conv => whnf
        refine ⟨_, rfl, ?_⟩
        conv => whnf
        have hll : ((A.take i).map fun o => natsV (amidL cs o)).length + [natsV (amidL cs A[i])].length ≤ LIM := lim (by simp only [List.length_map, List.length_take, List.length_cons, List.length_nil]; omega)
        conv => whnf
        refine ⟨hll, ?_⟩
        -- Z7:TF
        conv => whnf
        refine ⟨⟨898, [2, 44, 45, 900002], []⟩, ?_⟩
        conv => whnf
        have hs : (A.take (i + 1)).map (fun o => natsV (amidL cs o)) = (A.take i).map (fun o => natsV (amidL cs o)) ++ [natsV (amidL cs A[i])] := by rw [take_succ' hlt, List.map_append]; rfl
        have := hZ1 (i + 1) ⟨hlt, by rw [any_snoc hlt, hj, h10]; rfl⟩ (by omega)
        rw [hs] at this
        rw [hw]
        exact this
    · skip
      have hge : i = A.length := by have := of_decide_eq_false h7; omega
      conv => whnf
      rw [hge, List.take_length]
      rw [hge, List.take_length] at hj
      rw [hj, if_neg (by simp)] at hR
      refine loop_q fun Q2 hQ2 => ?_
      refine ⟨⟨2178, [7], []⟩, ?_⟩
      refine LoopW_ind _ (fun q : Nat => (({ tmps := [.undef, .own 1 [], .undef, .undef, .undef, .undef, .undef, .sl (S := S) U.ints (A.map fun o => natsV (amidL cs o)) none, .undef, .undef, .undef, vI (q + 1 : Nat), .undef, .undef, .undef, .undef, .undef, .undef, .undef, .undef, .undef, .undef, .undef, .undef, .undef, .undef, .undef, .undef, .undef, .undef, .undef, .undef, .undef, .undef, .undef, .undef, .undef, .undef, .undef, .undef, .undef, .undef, .undef, .undef, .undef, .undef, .undef, .undef, .undef, .undef, .undef, .undef, .undef, .undef, .undef, .undef, .undef, .undef, .undef, .undef, .undef, .undef, .undef, .undef, .undef, .undef, .undef, .undef, .undef, .undef, .undef, .undef, .undef, .undef, .undef, .undef, .undef, .undef, .undef, .undef, .undef, .undef, .undef, .undef, .undef, .undef, .undef, .undef], seg := [(1, .cells [lociV xs, copsV cs])], up := [] } : St S))) (fun q : Nat => (q ≤ cs.length ∧ ((List.range cs.length).flatMap fun m => listsL 0 cs.length (m + 1)).find? (fun l => A.all (hitsB cs l)) = ((List.range' q (cs.length - q)).flatMap fun m => listsL 0 cs.length (m + 1)).find? (fun l => A.all (hitsB cs l)))) (fun q : Nat => (cs.length - q)) () ?_ 0 ⟨Nat.zero_le _, by rw [Nat.sub_zero, ← List.range_eq_range']⟩
      intro q hinv Z2 hZ2
      obtain ⟨hq, hf⟩ := hinv
      conv => whnf
      refine bcase_iff.2 ⟨fun h14 => ?_, fun h14 => ?_⟩
      · skip
        have hltq : q < cs.length := by have := of_decide_eq_true h14; omega
        have hwq : IntKind.i64.wrap (((q + 1 : Nat) : Int) + 1) = ((q + 1 + 1 : Nat) : Int) := wrap_nat (by omega)
        have hrem : ((List.range' q (cs.length - q)).flatMap fun m => listsL 0 cs.length (m + 1)) = listsL 0 cs.length (q + 1) ++ ((List.range' (q + 1) (cs.length - (q + 1))).flatMap fun m => listsL 0 cs.length (m + 1)) := by rw [show cs.length - q = (cs.length - (q + 1)) + 1 by omega, List.range'_succ, List.flatMap_cons]
        rw [hrem] at hf
        have hRl := lists_len (b := cs.length) (by omega) (q + 1) 0
        have hp8 := pow8 (show q + 1 ≤ 8 by omega)
        conv => whnf
        refine byC (c94 gl cs.length (by omega) (q + 1) 0 (by omega) (by omega)) op94 ?_
        conv => whnf
        refine loop_q fun Q3 hQ3 => ?_
        refine ⟨⟨14466, [], []⟩, ?_⟩
        refine LoopW_ind _ (fun i : Nat => (({ tmps := [.undef, .own 1 [], .undef, .undef, .undef, .undef, .undef, .sl (S := S) U.ints (A.map fun o => natsV (amidL cs o)) none, .undef, .undef, .undef, vI (q + 1 : Nat), .sl (S := S) U.ints ((listsL 0 cs.length (q + 1)).map natsV) none, vI i, .undef, .undef, .undef, .undef, .undef, .undef, .undef, .undef, .undef, .undef, .undef, .undef, .undef, .undef, .undef, .undef, .undef, .undef, .undef, .undef, .undef, .undef, .undef, .undef, .undef, .undef, .undef, .undef, .undef, .undef, .undef, .undef, .undef, .undef, .undef, .undef, .undef, .undef, .undef, .undef, .undef, .undef, .undef, .undef, .undef, .undef, .undef, .undef, .undef, .undef, .undef, .undef, .undef, .undef, .undef, .undef, .undef, .undef, .undef, .undef, .undef, .undef, .undef, .undef, .undef, .undef, .undef, .undef, .undef, .undef, .undef, .undef, .undef, .undef], seg := [(1, .cells [lociV xs, copsV cs])], up := [] } : St S))) (fun i : Nat => (i ≤ (listsL 0 cs.length (q + 1)).length ∧ ((List.range cs.length).flatMap fun m => listsL 0 cs.length (m + 1)).find? (fun l => A.all (hitsB cs l)) = ((listsL 0 cs.length (q + 1)).drop i ++ ((List.range' (q + 1) (cs.length - (q + 1))).flatMap fun m => listsL 0 cs.length (m + 1))).find? (fun l => A.all (hitsB cs l)))) (fun i : Nat => ((listsL 0 cs.length (q + 1)).length - i)) () ?_ 0 ⟨Nat.zero_le _, hf⟩
        intro i hinv Z3 hZ3
        obtain ⟨hi, hfi⟩ := hinv
        conv => whnf
        refine bcase_iff.2 ⟨fun h18 => ?_, fun h18 => ?_⟩
        · skip
          have hli : i < (listsL 0 cs.length (q + 1)).length := by have h18 := of_decide_eq_true h18; rw [List.length_map] at h18; omega
          have hwi : IntKind.i64.wrap ((i : Int) + 1) = ((i + 1 : Nat) : Int) := wrap_nat (by omega)
          rw [List.drop_eq_getElem_cons hli, List.cons_append, List.find?_cons] at hfi
          have hls := asc_len (b := cs.length) (by omega) (List.getElem_mem hli)
          conv => whnf
          refine loop_q fun Q4 hQ4 => ?_
          refine ⟨⟨63618, [], []⟩, ?_⟩
          refine LoopW_ind _ (fun s : Bool × Nat => match s with | (b, k) => (({ tmps := [.undef, .own 1 [], .undef, .undef, .undef, .undef, .undef, .sl (S := S) U.ints (A.map fun o => natsV (amidL cs o)) none, .undef, .undef, .undef, vI (q + 1 : Nat), .sl (S := S) U.ints ((listsL 0 cs.length (q + 1)).map natsV) none, vI i, vB b, vI k, .undef, .undef, .undef, .undef, .undef, .undef, .undef, .undef, .undef, .undef, .undef, .undef, .undef, .undef, .undef, .undef, .undef, .undef, .undef, .undef, .undef, .undef, .undef, .undef, .undef, .undef, .undef, .undef, .undef, .undef, .undef, .undef, .undef, .undef, .undef, .undef, .undef, .undef, .undef, .undef, .undef, .undef, .undef, .undef, .undef, .undef, .undef, .undef, .undef, .undef, .undef, .undef, .undef, .undef, .undef, .undef, .undef, .undef, .undef, .undef, .undef, .undef, .undef, .undef, .undef, .undef, .undef, .undef, .undef, .undef, .undef, .undef], seg := [(1, .cells [lociV xs, copsV cs])], up := [] } : St S))) (fun s : Bool × Nat => match s with | (b, k) => (k ≤ A.length ∧ b = (A.take k).all (hitsB cs (listsL 0 cs.length (q + 1))[i]))) (fun s : Bool × Nat => match s with | (b, k) => (A.length - k)) () ?_ (true, 0) ⟨Nat.zero_le _, rfl⟩
          rintro ⟨b, k⟩ hinv Z4 hZ4
          dsimp only at hinv hZ4
          obtain ⟨hk, hb⟩ := hinv
          conv => whnf
          refine bcase_iff.2 ⟨fun g22_4 => ?_, fun g22_4 => ?_⟩
          · skip
            have hltk : k < A.length := by have g := of_decide_eq_true g22_4; rw [List.length_map] at g; omega
            have hwk : IntKind.i64.wrap ((k : Int) + 1) = ((k + 1 : Nat) : Int) := wrap_nat (by omega)
            conv => whnf
            refine bcase_iff.2 ⟨fun h22 => ?_, fun h22 => ?_⟩
            · skip
              have h22 : b = true := h22
              conv => whnf
              refine ⟨[0, 1, 2, 3, 4, 5, 6, 7, 8, 9, 10], [], [], [], ⟨309485009821345068724781055, [], []⟩, by decide +kernel, ?_⟩
              conv => whnf
              refine ⟨_, getI_map hli, ?_⟩
              conv => whnf
              refine ⟨_, getI_map hltk, ?_⟩
              conv => whnf
              refine byC (c95 gl (natsV (listsL 0 cs.length (q + 1))[i]) (natsV (amidL cs A[k])) (by simp only [natsV, List.length_map]; omega) (by have := amid_len cs A[k]; omega)) op95 ?_
              -- Z22:TT
              conv => whnf
              refine ⟨⟨63618, [], []⟩, ?_⟩
              conv => whnf
              have hs : (A.take (k + 1)).all (hitsB cs (listsL 0 cs.length (q + 1))[i]) = !misB (natsV (listsL 0 cs.length (q + 1))[i]) (natsV (amidL cs A[k])) := by rw [all_snoc hltk, ← hb, h22, Bool.true_and, mis_hits, Bool.not_not]
              rw [hwk]
              exact hZ4 (_, k + 1) ⟨hltk, hs.symm⟩ (by dsimp only; omega)
            · skip
              have h22 : b = false := h22
              have hfin : b = A.all (hitsB cs (listsL 0 cs.length (q + 1))[i]) := by
                rw [h22]
                symm
                rw [Bool.eq_false_iff]
                intro hall
                rw [List.all_eq_true] at hall
                have : (A.take k).all (hitsB cs (listsL 0 cs.length (q + 1))[i]) = true := List.all_eq_true.2 fun x hx => hall x (List.mem_of_mem_take hx)
                rw [← hb, h22] at this
                cases this
              conv => whnf
              refine (hQ4 _ _ _).mpr ?_
              conv => whnf
              refine bcase_iff.2 ⟨fun h25 => ?_, fun h25 => ?_⟩
              · skip
                have h25 : b = true := h25
                rw [← hfin, h25] at hfi
                rw [hfi] at hR
                conv => whnf
                refine ⟨_, getI_map hli, ?_⟩
                conv => whnf
                refine (hQ3 _ _ _).mpr ?_
                conv => whnf
                refine (hQ2 _ _ _).mpr ?_
                -- R:FFTTTFT
                conv => whnf
                rw [hR]
              · skip
                have h25 : b = false := h25
                rw [← hfin, h25] at hfi
                -- Z18:TTFF
                conv => whnf
                refine ⟨⟨14466, [], []⟩, ?_⟩
                conv => whnf
                rw [hwi]
                exact hZ3 (i + 1) ⟨hli, hfi⟩ (by omega)
          · skip
            have hgk : k = A.length := by have g := of_decide_eq_false g22_4; rw [List.length_map] at g; omega
            have hfin : b = A.all (hitsB cs (listsL 0 cs.length (q + 1))[i]) := by rw [hb, hgk, List.take_length]
            conv => whnf
            refine (hQ4 _ _ _).mpr ?_
            conv => whnf
            refine bcase_iff.2 ⟨fun h25 => ?_, fun h25 => ?_⟩
            · skip
              have h25 : b = true := h25
              rw [← hfin, h25] at hfi
              rw [hfi] at hR
              conv => whnf
              refine ⟨_, getI_map hli, ?_⟩
              conv => whnf
              refine (hQ3 _ _ _).mpr ?_
              conv => whnf
              refine (hQ2 _ _ _).mpr ?_
              -- R:FFTTFT
              conv => whnf
              rw [hR]
            · skip
              have h25 : b = false := h25
              rw [← hfin, h25] at hfi
              -- Z18:TFF
              conv => whnf
              refine ⟨⟨14466, [], []⟩, ?_⟩
              conv => whnf
              rw [hwi]
              exact hZ3 (i + 1) ⟨hli, hfi⟩ (by omega)
        · skip
          have hgi : i = (listsL 0 cs.length (q + 1)).length := by have h18 := of_decide_eq_false h18; rw [List.length_map] at h18; omega
          rw [hgi, List.drop_length, List.nil_append] at hfi
          conv => whnf
          refine (hQ3 _ _ _).mpr ?_
          -- Z14:TF
          conv => whnf
          refine ⟨⟨2178, [], []⟩, ?_⟩
          conv => whnf
          rw [hwq]
          exact hZ2 (q + 1) ⟨hltq, hfi⟩ (by omega)
      · skip
        have hgq : q = cs.length := by have := of_decide_eq_false h14; omega
        conv => whnf
        refine (hQ2 _ _ _).mpr ?_
        -- R:FFF
        conv => whnf
        rw [hgq, Nat.sub_self] at hf
        rw [hf] at hR
        rw [hR]
        rfl

theorem op36 : Opens PR 36 := ⟨_, Tryd.func36, rfl, rfl⟩


theorem bst_len {α : Type} {d : α} {g : α → List Int} {A : List α} {n : Nat} (h : ∀ a, (g a).length ≤ n) : ∀ i, (bstU d g A i).length ≤ n
  | 0 => Nat.zero_le _
  | 1 => h _
  | i + 2 => by
    rw [bstU_succ _ _ _ (by omega)]
    split
    · exact h _
    · exact bst_len h (i + 1)

theorem c38 (gl : Gl) (xs : List (ByteArray × Int)) (cs : List (ByteArray × List Int)) (hN : LensN xs cs) : PCalls PR gl 38 [.agg [lociV xs, copsV cs]] fun r => r = lstV (wrongS xs cs) := by
  refine fnW_sound (par_ok gl) Tryd.func38 ?_
  conv => whnf
  refine byC (c17 gl xs cs hN) op17 ?_
  conv => whnf
  refine bcase_iff.2 ⟨fun h2 => ?_, fun h2 => ?_⟩
  · skip
    have hc : (chk xs cs).2.2 ≠ 0 := by have h2 : ((chk xs cs).2.2 != 0) = true := h2; simpa using h2
    -- R:T
    conv => whnf
    unfold wrongS
    rw [if_pos hc]
  · skip
    have hc : (chk xs cs).2.2 = 0 := by have h2 : ((chk xs cs).2.2 != 0) = false := h2; simpa using h2
    have hv := chk_valid hc
    have h5 := hv.l5
    have hc8 := hv.c8
    have hcn : ¬ ((chk xs cs).2.2 ≠ 0) := fun h => h hc
    have hAl := allL_len h5
    have hAo : ∀ o ∈ allL xs, OkO xs.length o := fun o ho => allL_ok h5 ho
    have hA0 : 0 < (allL xs).length := List.length_pos_iff.2 (allL_ne hv.fst)
    have h93 := c93 gl xs cs h5
    have hR : wrongS xs cs = (bestF (natsV (amidL cs ((allL xs).headD ([], [])))) ((allL xs).tail.map fun o => natsV (amidL cs o)), 0) := by unfold wrongS; rw [if_neg hcn]
    rw [← bstU_all ([], []) (fun o => natsV (amidL cs o)) hA0] at hR
    generalize allL xs = A at hAl hAo hA0 h93 hR ⊢
    have hbl : ∀ i, (bstU ([], []) (fun o => natsV (amidL cs o)) A i).length ≤ cs.length := fun i => bst_len (fun o => amid_len cs o) i
    conv => whnf
    refine byC h93 op93 ?_
    conv => whnf
    refine ⟨[0, 1, 2, 3, 4, 5], [], [], [], ⟨288230376151711743, [], []⟩, by decide +kernel, ?_⟩
    conv => whnf
    refine ⟨_, getI_zero hA0, ?_⟩
    conv => whnf
    refine byC (c74 gl hv A[0] (hAo _ (List.getElem_mem hA0))) op74 ?_
    conv => whnf
    refine ⟨⟨898, [2], [2]⟩, ?_⟩
    refine LoopW_ind _ (fun s : Nat × List Int => match s with | (i, l) => (({ tmps := [.undef, .own 1 [], .undef, .undef, .undef, .undef, .undef, ordsV A, vL l, vI i, .undef, .undef, .undef, .undef, .undef, .undef, .undef, .undef, .undef, .undef, .undef, .undef, .undef, .undef, .undef, .undef, .undef, .undef, .undef, .undef, .undef, .undef, .undef, .undef, .undef, .undef, .undef, .undef, .undef, .undef, .undef, .undef, .undef, .undef, .undef, .undef, .undef, .undef, .undef, .undef, .undef, .undef, .undef, .undef, .undef, .undef, .undef, .undef], seg := [(1, .cells [lociV xs, copsV cs])], up := [] } : St S))) (fun s : Nat × List Int => match s with | (i, l) => (1 ≤ i ∧ i ≤ A.length ∧ l = bstU ([], []) (fun o => natsV (amidL cs o)) A i)) (fun s : Nat × List Int => match s with | (i, l) => (A.length - i)) () ?_ (1, _) ⟨Nat.le_refl _, hA0, by show _ = natsV (amidL cs (A.getD 0 ([], []))); rw [getD_e hA0]⟩
    rintro ⟨i, l⟩ hinv Z1 hZ1
    dsimp only at hinv hZ1
    obtain ⟨hi1, hi, rfl⟩ := hinv
    conv => whnf
    refine bcase_iff.2 ⟨fun h7 => ?_, fun h7 => ?_⟩
    · skip
      have hlt : i < A.length := by have := of_decide_eq_true h7; omega
      have hw : IntKind.i64.wrap ((i : Int) + 1) = ((i + 1 : Nat) : Int) := wrap_nat (by omega)
      have hsu := bstU_succ ([], []) (fun o => natsV (amidL cs o)) A hi1
      rw [getD_e hlt] at hsu
      have hbi := hbl i
      have hal := amid_len cs A[i]
      generalize bstU ([], []) (fun o => natsV (amidL cs o)) A i = B at hsu hbi ⊢
      conv => whnf
      refine ⟨[0, 1, 2, 3, 4, 5, 6], [], [], [], ⟨288230376151711743, [], []⟩, by decide +kernel, ?_⟩
      conv => whnf
      refine ⟨_, getI_nat hlt, ?_⟩
      conv => whnf
      refine byC (c74 gl hv A[i] (hAo _ (List.getElem_mem hlt))) op74 ?_
      conv => whnf
      refine bcase_iff.2 ⟨fun g10_5 => ?_, fun g10_5 => ?_⟩
      · skip
        have hlk : ltK (natsV (amidL cs A[i])) B = true := ltK_1 g10_5
        rw [hlk, if_pos rfl] at hsu
        -- Z7:TT
        conv => whnf
        refine ⟨⟨898, [], []⟩, ?_⟩
        conv => whnf
        rw [hw]
        exact hZ1 (i + 1, _) ⟨by omega, hlt, hsu.symm⟩ (by dsimp only; omega)
      · skip
        conv => whnf
        refine bcase_iff.2 ⟨fun g10_11 => ?_, fun g10_11 => ?_⟩
        · skip
          conv => whnf
          refine byC (c58 gl (natsV (amidL cs A[i])) B (by omega) (by omega)) op58 ?_
          conv => whnf
          refine bcase_iff.2 ⟨fun h10 => ?_, fun h10 => ?_⟩
          · skip
            have hlk : ltK (natsV (amidL cs A[i])) B = true := ltK_2 g10_11 h10
            rw [hlk, if_pos rfl] at hsu
            -- Z7:TFTT
            conv => whnf
            refine ⟨⟨898, [], []⟩, ?_⟩
            conv => whnf
            rw [hw]
            exact hZ1 (i + 1, _) ⟨by omega, hlt, hsu.symm⟩ (by dsimp only; omega)
          · skip
            have hlk : ltK (natsV (amidL cs A[i])) B = false := ltK_3 g10_5 h10
            rw [hlk, if_neg (by simp)] at hsu
            -- Z7:TFTF
            conv => whnf
            refine ⟨⟨898, [], []⟩, ?_⟩
            conv => whnf
            rw [hw]
            exact hZ1 (i + 1, _) ⟨by omega, hlt, hsu.symm⟩ (by dsimp only; omega)
        · skip
          have hlk : ltK (natsV (amidL cs A[i])) B = false := ltK_4 g10_5 g10_11
          rw [hlk, if_neg (by simp)] at hsu
          -- Z7:TFF
          conv => whnf
          refine ⟨⟨898, [], []⟩, ?_⟩
          conv => whnf
          rw [hw]
          exact hZ1 (i + 1, _) ⟨by omega, hlt, hsu.symm⟩ (by dsimp only; omega)
    · skip
      have hge : i = A.length := by have := of_decide_eq_false h7; omega
      -- R:FF
      conv => whnf
      rw [hR, hge]

theorem op38 : Opens PR 38 := ⟨_, Tryd.func38, rfl, rfl⟩

end Go.Ab.StF

namespace Go.Ab.StF
open Go Go.Ab Go.Proofs
set_option maxHeartbeats 1000000
set_option maxRecDepth 100000

/-- The fewest of a copy, of the first states. -/
def bstJ (ss : List Int) (o : List Int × List Int) (j : Nat) : List Int := bestF (natsV (amiL ss (stateS 0 o))) ((List.range j).map fun k => natsV (amiL ss (stateS (k + 1) o)))

theorem bstJ_succ (ss : List Int) (o : List Int × List Int) (j : Nat) : bstJ ss o (j + 1) = if ltK (natsV (amiL ss (stateS (j + 1) o))) (bstJ ss o j) then natsV (amiL ss (stateS (j + 1) o)) else bstJ ss o j := by
  unfold bstJ
  rw [List.range_succ, List.map_append, List.map_singleton, bestF_snoc]

theorem bstJ_vals {ss : List Int} {o : List Int × List Int} {n : Nat} (ho : o.1.length = n) (j : Nat) : (∀ k ∈ bstJ ss o j, 0 ≤ k ∧ k < (n : Int)) ∧ (bstJ ss o j).length ≤ n := by
  have hami : ∀ q, (∀ k ∈ natsV (amiL ss (stateS q o)), 0 ≤ k ∧ k < (n : Int)) ∧ (natsV (amiL ss (stateS q o))).length ≤ n := fun q => by
    refine ⟨fun k hk => ?_, ?_⟩
    · obtain ⟨j, hj, rfl⟩ := List.mem_map.1 hk
      have := List.mem_range.1 (List.mem_filter.1 hj).1
      rw [stateS_len, ho] at this
      omega
    · have := nf_len (amiB ss (stateS q o)) (stateS q o).length
      rw [stateS_len, ho] at this
      unfold amiL
      rwa [stateS_len, ho]
  have h1 := (bestF_spec ((List.range j).map fun k => natsV (amiL ss (stateS (k + 1) o))) (natsV (amiL ss (stateS 0 o)))).1
  unfold bstJ
  rcases List.mem_cons.1 h1 with h1 | h1
  · rw [h1]; exact hami 0
  · obtain ⟨q, _, hq⟩ := List.mem_map.1 h1
    rw [← hq]; exact hami _

def offU (n : Nat) (cs : List (ByteArray × List Int)) (o : List Int × List Int) (i : Nat) : List Int := (List.range i).flatMap fun i => (bestK (showsOf cs i) o n).map fun k => (i : Int) * n + k
theorem offU_succ (n : Nat) (cs : List (ByteArray × List Int)) (o : List Int × List Int) (i : Nat) : offU n cs o (i + 1) = offU n cs o i ++ (bestK (showsOf cs i) o n).map fun k => (i : Int) * n + k := by
  unfold offU
  rw [List.range_succ, List.flatMap_append, List.flatMap_singleton]
theorem bestK_J (ss : List Int) (o : List Int × List Int) (n : Nat) : bestK ss o n = bstJ ss o n := rfl

theorem offU_vals {cs : List (ByteArray × List Int)} {o : List Int × List Int} {n : Nat} (ho : o.1.length = n) (hn : n ≤ 5) : ∀ i, (offU n cs o i).length ≤ i * 5 ∧ ∀ x ∈ offU n cs o i, 0 ≤ x ∧ x < ((i * 5 + 5 : Nat) : Int)
  | 0 => ⟨Nat.le_refl _, fun x h => by cases h⟩
  | i + 1 => by
    obtain ⟨h1, h2⟩ := offU_vals (cs := cs) ho hn i
    obtain ⟨g1, g2⟩ := bstJ_vals (ss := showsOf cs i) ho n
    rw [offU_succ, bestK_J]
    refine ⟨by rw [List.length_append, List.length_map]; omega, fun x hx => ?_⟩
    rcases List.mem_append.1 hx with hx | hx
    · have := h2 x hx; omega
    · obtain ⟨k, hk, rfl⟩ := List.mem_map.1 hx
      obtain ⟨k0, k1⟩ := g1 k hk
      have h3 : (i : Int) * n ≤ (i : Int) * 5 := Int.mul_le_mul_of_nonneg_left (by omega) (by omega)
      have h4 : 0 ≤ (i : Int) * n := Int.mul_nonneg (by omega) (by omega)
      omega

theorem offS_U (n : Nat) (cs : List (ByteArray × List Int)) (o : List Int × List Int) : offS n cs o = offU n cs o cs.length := rfl

def offW (n : Nat) (cs : List (ByteArray × List Int)) (o : List Int × List Int) (i q : Nat) : List Int := offU n cs o i ++ ((bestK (showsOf cs i) o n).take q).map fun k => (i : Int) * n + k
theorem offW_zero (n : Nat) (cs : List (ByteArray × List Int)) (o : List Int × List Int) (i : Nat) : offW n cs o i 0 = offU n cs o i := by simp [offW]
theorem offW_full (n : Nat) (cs : List (ByteArray × List Int)) (o : List Int × List Int) (i : Nat) : offW n cs o i (bestK (showsOf cs i) o n).length = offU n cs o (i + 1) := by rw [offU_succ]; unfold offW; rw [List.take_length]
theorem offW_succ {n : Nat} {cs : List (ByteArray × List Int)} {o : List Int × List Int} {i q : Nat} (h : q < (bestK (showsOf cs i) o n).length) : offW n cs o i (q + 1) = offW n cs o i q ++ [(i : Int) * n + (bestK (showsOf cs i) o n)[q]] := by
  unfold offW; rw [take_succ' h, List.map_append, ← List.append_assoc]; rfl

theorem c103 (gl : Gl) {xs : List (ByteArray × Int)} {cs : List (ByteArray × List Int)} (hv : Valid xs cs) (o : List Int × List Int) (ho : OkO xs.length o) : PCalls PR gl 103 [.agg [lociV xs, copsV cs], .agg [vL o.1, vL o.2]] fun r => r = vL (offS xs.length cs o) := by
  have hc8 := hv.c8
  have h5 := hv.l5
  have hol := ho.l
  have hom := ho.m
  refine fnW_sound (par_ok gl) Tryd.func103 ?_
  conv => whnf
  refine loop_q fun Q1 hQ1 => ?_
  refine ⟨⟨108, [4], [4, 5]⟩, ?_⟩
  refine LoopW_ind _ (fun s : Nat × List Int => match s with | (i, l) => (({ tmps := [.undef, .undef, .own 2 [], .own 3 [], .undef, .sl (S := S) U.int l (some 5), vI i, .undef, .undef, .undef, .undef, .undef, .undef, .undef, .undef, .undef, .undef, .undef, .undef, .undef, .undef, .undef, .undef, .undef, .undef, .undef, .undef, .undef, .undef, .undef, .undef, .undef, .undef, .undef, .undef, .undef, .undef, .undef, .undef, .undef, .undef, .undef, .undef, .undef, .undef, .undef, .undef, .undef, .undef, .undef, .undef, .undef, .undef, .undef, .undef, .undef, .undef, .undef, .undef, .undef, .undef, .undef, .undef, .undef, .undef, .undef, .undef, .undef, .undef, .undef, .undef, .undef, .undef, .undef, .undef, .undef, .undef, .undef, .undef, .undef], seg := [(2, .cells [lociV xs, copsV cs]), (3, .cells [vL o.1, vL o.2]), (5, .row U.int false)], up := [] } : St S))) (fun s : Nat × List Int => match s with | (i, l) => (i ≤ cs.length ∧ l = offU xs.length cs o i)) (fun s : Nat × List Int => match s with | (i, l) => (cs.length - i)) () ?_ (0, []) ⟨Nat.zero_le _, rfl⟩
  rintro ⟨i, l⟩ hinv Z1 hZ1
  dsimp only at hinv hZ1
  obtain ⟨hi, rfl⟩ := hinv
  conv => whnf
  refine bcase_iff.2 ⟨fun h3 => ?_, fun h3 => ?_⟩
  · skip
    have hlt : i < cs.length := by have := of_decide_eq_true h3; omega
    have hw : IntKind.i64.wrap ((i : Int) + 1) = ((i + 1 : Nat) : Int) := wrap_nat (by omega)
    have hcl := hv.len _ (List.getElem_mem hlt)
    have hst : ∀ k, (stateS k o).length = xs.length := fun k => by rw [stateS_len, hol]
    have hbv := fun j => bstJ_vals (ss := cs[i].2) (o := o) hol j
    have hov := offU_vals (cs := cs) (o := o) hol h5 i
    generalize hB : offU xs.length cs o i = B at hov
    conv => whnf
    refine ⟨[0, 1, 2, 3, 4, 5, 6, 7, 8], [], [], [], ⟨1208925819614629174706175, [], []⟩, by decide +kernel, ?_⟩
    conv => whnf
    refine ⟨_, getI_nat hlt, ?_⟩
    conv => whnf
    refine byC (c51 gl o ho 0) op51 ?_
    conv => whnf
    refine byC (c50 gl cs[i].1 cs[i].2 (stateS 0 o) (by rw [hst, hcl]) (by rw [hst]; omega)) op50 ?_
    conv => whnf
    refine loop_q fun Q2 hQ2 => ?_
    refine ⟨⟨492, [], []⟩, ?_⟩
    refine LoopW_ind _ (fun s : Nat × List Int => match s with | (k, b) => (({ tmps := [.undef, .undef, .own 2 [], .own 3 [], .undef, .sl (S := S) U.int B (some 5), vI i, vL b, vI k, .undef, .undef, .undef, .undef, .undef, .undef, .undef, .undef, .undef, .undef, .undef, .undef, .undef, .undef, .undef, .undef, .undef, .undef, .undef, .undef, .undef, .undef, .undef, .undef, .undef, .undef, .undef, .undef, .undef, .undef, .undef, .undef, .undef, .undef, .undef, .undef, .undef, .undef, .undef, .undef, .undef, .undef, .undef, .undef, .undef, .undef, .undef, .undef, .undef, .undef, .undef, .undef, .undef, .undef, .undef, .undef, .undef, .undef, .undef, .undef, .undef, .undef, .undef, .undef, .undef, .undef, .undef, .undef, .undef, .undef, .undef], seg := [(2, .cells [lociV xs, copsV cs]), (3, .cells [vL o.1, vL o.2]), (5, .row U.int false)], up := [] } : St S))) (fun s : Nat × List Int => match s with | (k, b) => (1 ≤ k ∧ k ≤ xs.length + 1 ∧ b = bstJ cs[i].2 o (k - 1))) (fun s : Nat × List Int => match s with | (k, b) => (xs.length + 1 - k)) () ?_ (1, _) ⟨Nat.le_refl _, by omega, rfl⟩
    rintro ⟨k, b⟩ hinv Z2 hZ2
    dsimp only at hinv hZ2
    obtain ⟨hk1, hk, rfl⟩ := hinv
    conv => whnf
    refine bcase_iff.2 ⟨fun h7 => ?_, fun h7 => ?_⟩
    · skip
      have hltk : k ≤ xs.length := by have := of_decide_eq_true h7; omega
      have hwk : IntKind.i64.wrap ((k : Int) + 1) = ((k + 1 : Nat) : Int) := wrap_nat (by omega)
      have hsu := bstJ_succ cs[i].2 o (k - 1)
      rw [show k - 1 + 1 = k by omega] at hsu
      have hbl := (hbv (k - 1)).2
      generalize bstJ cs[i].2 o (k - 1) = b at hsu hbl
      have hal : (natsV (amiL cs[i].2 (stateS k o))).length ≤ xs.length := by have := nf_len (amiB cs[i].2 (stateS k o)) (stateS k o).length; rw [hst] at this; unfold amiL; rwa [hst]
      conv => whnf
      refine ⟨[0, 1, 2, 3, 4, 5, 6, 7, 8, 9], [], [], [], ⟨1208925819614629174706175, [], []⟩, by decide +kernel, ?_⟩
      conv => whnf
      refine ⟨_, getI_nat hlt, ?_⟩
      conv => whnf
      refine byC (c51 gl o ho k) op51 ?_
      conv => whnf
      refine byC (c50 gl cs[i].1 cs[i].2 (stateS k o) (by rw [hst, hcl]) (by rw [hst]; omega)) op50 ?_
      conv => whnf
      refine bcase_iff.2 ⟨fun g10_5 => ?_, fun g10_5 => ?_⟩
      · skip
        have hlk : ltK (natsV (amiL cs[i].2 (stateS k o))) b = true := ltK_1 g10_5
        rw [hlk, if_pos rfl] at hsu
        -- Z7:TT
        conv => whnf
        refine ⟨⟨492, [], []⟩, ?_⟩
        conv => whnf
        rw [hwk]
        exact hZ2 (k + 1, _) ⟨by omega, by omega, hsu.symm⟩ (by dsimp only; omega)
      · skip
        conv => whnf
        refine bcase_iff.2 ⟨fun g10_11 => ?_, fun g10_11 => ?_⟩
        · skip
          conv => whnf
          refine byC (c58 gl (natsV (amiL cs[i].2 (stateS k o))) b (by omega) (by omega)) op58 ?_
          conv => whnf
          refine bcase_iff.2 ⟨fun h10 => ?_, fun h10 => ?_⟩
          · skip
            have hlk : ltK (natsV (amiL cs[i].2 (stateS k o))) b = true := ltK_2 g10_11 h10
            rw [hlk, if_pos rfl] at hsu
            -- Z7:TFTT
            conv => whnf
            refine ⟨⟨492, [], []⟩, ?_⟩
            conv => whnf
            rw [hwk]
            exact hZ2 (k + 1, _) ⟨by omega, by omega, hsu.symm⟩ (by dsimp only; omega)
          · skip
            have hlk : ltK (natsV (amiL cs[i].2 (stateS k o))) b = false := ltK_3 g10_5 h10
            rw [hlk, if_neg (by simp)] at hsu
            -- Z7:TFTF
            conv => whnf
            refine ⟨⟨492, [], []⟩, ?_⟩
            conv => whnf
            rw [hwk]
            exact hZ2 (k + 1, _) ⟨by omega, by omega, hsu.symm⟩ (by dsimp only; omega)
        · skip
          have hlk : ltK (natsV (amiL cs[i].2 (stateS k o))) b = false := ltK_4 g10_5 g10_11
          rw [hlk, if_neg (by simp)] at hsu
          -- Z7:TFF
          conv => whnf
          refine ⟨⟨492, [], []⟩, ?_⟩
          conv => whnf
          rw [hwk]
          exact hZ2 (k + 1, _) ⟨by omega, by omega, hsu.symm⟩ (by dsimp only; omega)
    · skip
      have hgk : k = xs.length + 1 := by have := of_decide_eq_false h7; omega
      have hbx := hbv xs.length
      conv => whnf
      refine (hQ2 _ _ _).mpr ?_
      conv => whnf
      rw [hgk, Nat.add_sub_cancel]
      have hsh : showsOf cs i = cs[i].2 := showsOf_eq hlt
      refine loop_q fun Q3 hQ3 => ?_
      refine ⟨⟨1260, [], []⟩, ?_⟩
      refine LoopW_ind _ (fun s : Nat × List Int => match s with | (q, l) => (({ tmps := [.undef, .undef, .own 2 [], .own 3 [], .undef, .sl (S := S) U.int l (some 5), vI i, vL (bstJ cs[i].2 o xs.length), .undef, .undef, vI q, .undef, .undef, .undef, .undef, .undef, .undef, .undef, .undef, .undef, .undef, .undef, .undef, .undef, .undef, .undef, .undef, .undef, .undef, .undef, .undef, .undef, .undef, .undef, .undef, .undef, .undef, .undef, .undef, .undef, .undef, .undef, .undef, .undef, .undef, .undef, .undef, .undef, .undef, .undef, .undef, .undef, .undef, .undef, .undef, .undef, .undef, .undef, .undef, .undef, .undef, .undef, .undef, .undef, .undef, .undef, .undef, .undef, .undef, .undef, .undef, .undef, .undef, .undef, .undef, .undef, .undef, .undef, .undef, .undef], seg := [(2, .cells [lociV xs, copsV cs]), (3, .cells [vL o.1, vL o.2]), (5, .row U.int false)], up := [] } : St S))) (fun s : Nat × List Int => match s with | (q, l) => (q ≤ (bstJ cs[i].2 o xs.length).length ∧ l = offW xs.length cs o i q)) (fun s : Nat × List Int => match s with | (q, l) => ((bstJ cs[i].2 o xs.length).length - q)) () ?_ (0, _) ⟨Nat.zero_le _, by rw [offW_zero, hB]⟩
      rintro ⟨q, l⟩ hinv Z3 hZ3
      dsimp only at hinv hZ3
      obtain ⟨hq, rfl⟩ := hinv
      conv => whnf
      refine bcase_iff.2 ⟨fun h13 => ?_, fun h13 => ?_⟩
      · skip
        have hltq : q < (bstJ cs[i].2 o xs.length).length := by have := of_decide_eq_true h13; omega
        have hwq : IntKind.i64.wrap ((q : Int) + 1) = ((q + 1 : Nat) : Int) := wrap_nat (by omega)
        have hbq := hbx.1 _ (List.getElem_mem hltq)
        have hin : 0 ≤ (i : Int) * xs.length ∧ (i : Int) * xs.length ≤ 40 := ⟨Int.mul_nonneg (by omega) (by omega), Int.le_trans (Int.mul_le_mul (show (i : Int) ≤ 8 by omega) (show (xs.length : Int) ≤ 5 by omega) (by omega) (by omega)) (by decide)⟩
        have hv1 : IntKind.i64.wrap (IntKind.i64.wrap ((i : Int) * xs.length) + (bstJ cs[i].2 o xs.length)[q]) = (i : Int) * xs.length + (bstJ cs[i].2 o xs.length)[q] := by rw [wrap_int (n := (i : Int) * xs.length) (by omega) (by omega), wrap_int (by omega) (by omega)]
        have hoW : (offW xs.length cs o i q).length ≤ 100 := by unfold offW; rw [hB, List.length_append, List.length_map, List.length_take]; have := hov.1; rw [bestK_J, hsh]; omega
        have hWs : offW xs.length cs o i (q + 1) = offW xs.length cs o i q ++ [(i : Int) * xs.length + (bstJ cs[i].2 o xs.length)[q]] := by have := offW_succ (n := xs.length) (cs := cs) (o := o) (i := i) (q := q) (by rw [bestK_J, hsh]; exact hltq); simp only [bestK_J, hsh] at this; exact this
        conv => whnf
        refine ⟨[0, 1, 2, 3, 4, 5, 6, 7, 8, 9, 10, 11, 12, 13], [11], [], [], ⟨1208925819614629174706175, [], []⟩, by decide +kernel, ?_⟩
        conv => whnf
        refine ⟨_, getI_nat hltq, ?_⟩
        conv => whnf
        refine ⟨_, rfl, ?_⟩
        conv => whnf
        refine ⟨lim (by show (offW xs.length cs o i q).length + 1 ≤ _; omega), ?_⟩
        -- Z13:T
        conv => whnf
        refine ⟨⟨1260, [77, 78], []⟩, ?_⟩
        conv => whnf
        rw [hwq, hv1, ← hWs]
        exact hZ3 (q + 1, _) ⟨by omega, rfl⟩ (by dsimp only; omega)
      · skip
        have hgq : q = (bstJ cs[i].2 o xs.length).length := by have := of_decide_eq_false h13; omega
        conv => whnf
        refine (hQ3 _ _ _).mpr ?_
        -- Z3:TFF
        conv => whnf
        refine ⟨⟨108, [77, 78], []⟩, ?_⟩
        conv => whnf
        rw [hw]
        exact hZ1 (i + 1, _) ⟨hlt, by have := offW_full xs.length cs o i; rw [bestK_J, hsh, ← hgq] at this; exact this⟩ (by dsimp only; omega)
  · skip
    have hge : i = cs.length := by have := of_decide_eq_false h3; omega
    conv => whnf
    refine (hQ1 _ _ _).mpr ?_
    -- R:F
    conv => whnf
    rw [hge, offS_U]

theorem op103 : Opens PR 103 := ⟨_, Tryd.func103, rfl, rfl⟩


def rdI (n : Nat) (x : Int) : Int × Int := (x.tdiv n, x.tmod n)
theorem off_len {xs : List (ByteArray × Int)} {cs : List (ByteArray × List Int)} (hc : cs.length ≤ 8) {o : List Int × List Int} (ho : OkO xs.length o) : (offS xs.length cs o).length ≤ 40 ∧ ∀ x ∈ offS xs.length cs o, 0 ≤ x ∧ x < 45 := by
  obtain ⟨h1, h2⟩ := offU_vals (cs := cs) ho.l ho.n5 cs.length
  rw [offS_U]
  exact ⟨by omega, fun x hx => by have := h2 x hx; omega⟩

theorem bst_prop {α : Type} {d : α} {g : α → List Int} {A : List α} {P : List Int → Prop} (h0 : P []) (h : ∀ i, i < A.length → P (g (A.getD i d))) : ∀ i, i ≤ A.length → P (bstU d g A i)
  | 0, _ => h0
  | 1, hi => h 0 (by omega)
  | i + 2, hi => by
    rw [bstU_succ _ _ _ (by omega)]
    split
    · exact h (i + 1) (by omega)
    · exact bst_prop h0 h (i + 1) (by omega)

theorem c40 (gl : Gl) (xs : List (ByteArray × Int)) (cs : List (ByteArray × List Int)) (hN : LensN xs cs) : PCalls PR gl 40 [.agg [lociV xs, copsV cs]] fun r => r = .tup [rdgsV (mistS xs cs).1, vI (mistS xs cs).2] := by
  refine fnW_sound (par_ok gl) Tryd.func40 ?_
  conv => whnf
  refine byC (c17 gl xs cs hN) op17 ?_
  conv => whnf
  refine bcase_iff.2 ⟨fun h2 => ?_, fun h2 => ?_⟩
  · skip
    have hc : (chk xs cs).2.2 ≠ 0 := by have h2 : ((chk xs cs).2.2 != 0) = true := h2; simpa using h2
    -- R:T
    conv => whnf
    unfold mistS
    rw [if_pos hc]
  · skip
    have hc : (chk xs cs).2.2 = 0 := by have h2 : ((chk xs cs).2.2 != 0) = false := h2; simpa using h2
    have hv := chk_valid hc
    have h5 := hv.l5
    have hc8 := hv.c8
    have hcn : ¬ ((chk xs cs).2.2 ≠ 0) := fun h => h hc
    have hAl := allL_len h5
    have hAo : ∀ o ∈ allL xs, OkO xs.length o := fun o ho => allL_ok h5 ho
    have hA0 : 0 < (allL xs).length := List.length_pos_iff.2 (allL_ne hv.fst)
    have h93 := c93 gl xs cs h5
    have h1 := hv.l1
    have hR : mistS xs cs = ((bestF (offS xs.length cs ((allL xs).headD ([], []))) ((allL xs).tail.map (offS xs.length cs))).map (rdI xs.length), 0) := by unfold mistS; rw [if_neg hcn]; rfl
    rw [← bstU_all ([], []) (offS xs.length cs) hA0] at hR
    generalize allL xs = A at hAl hAo hA0 h93 hR ⊢
    have hbl : ∀ i, i ≤ A.length → (bstU ([], []) (offS xs.length cs) A i).length ≤ 40 ∧ ∀ x ∈ bstU ([], []) (offS xs.length cs) A i, 0 ≤ x ∧ x < 45 := bst_prop (P := fun l => l.length ≤ 40 ∧ ∀ x ∈ l, 0 ≤ x ∧ x < 45) ⟨by decide, fun x h => by cases h⟩ fun i hi => by rw [getD_e hi]; exact off_len hc8 (hAo _ (List.getElem_mem hi))
    conv => whnf
    refine byC h93 op93 ?_
    conv => whnf
    refine ⟨[0, 1, 2, 3, 4, 5], [], [], [], ⟨77371252455336267181195263, [], []⟩, by decide +kernel, ?_⟩
    conv => whnf
    refine ⟨_, getI_zero hA0, ?_⟩
    conv => whnf
    refine byC (c103 gl hv A[0] (hAo _ (List.getElem_mem hA0))) op103 ?_
    conv => whnf
    refine loop_q fun Q1 hQ1 => ?_
    refine ⟨⟨898, [2], [2]⟩, ?_⟩
    refine LoopW_ind _ (fun s : Nat × List Int => match s with | (i, l) => (({ tmps := [.undef, .own 1 [], .undef, .undef, .undef, .undef, .undef, ordsV A, vL l, vI i, .undef, .undef, .undef, .undef, .undef, .undef, .undef, .undef, .undef, .undef, .undef, .undef, .undef, .undef, .undef, .undef, .undef, .undef, .undef, .undef, .undef, .undef, .undef, .undef, .undef, .undef, .undef, .undef, .undef, .undef, .undef, .undef, .undef, .undef, .undef, .undef, .undef, .undef, .undef, .undef, .undef, .undef, .undef, .undef, .undef, .undef, .undef, .undef, .undef, .undef, .undef, .undef, .undef, .undef, .undef, .undef, .undef, .undef, .undef, .undef, .undef, .undef, .undef, .undef, .undef, .undef, .undef, .undef, .undef, .undef, .undef, .undef, .undef, .undef, .undef, .undef], seg := [(1, .cells [lociV xs, copsV cs])], up := [] } : St S))) (fun s : Nat × List Int => match s with | (i, l) => (1 ≤ i ∧ i ≤ A.length ∧ l = bstU ([], []) (offS xs.length cs) A i)) (fun s : Nat × List Int => match s with | (i, l) => (A.length - i)) () ?_ (1, _) ⟨Nat.le_refl _, hA0, by show _ = offS xs.length cs (A.getD 0 ([], [])); rw [getD_e hA0]⟩
    rintro ⟨i, l⟩ hinv Z1 hZ1
    dsimp only at hinv hZ1
    obtain ⟨hi1, hi, rfl⟩ := hinv
    conv => whnf
    refine bcase_iff.2 ⟨fun h7 => ?_, fun h7 => ?_⟩
    · skip
      have hlt : i < A.length := by have := of_decide_eq_true h7; omega
      have hw : IntKind.i64.wrap ((i : Int) + 1) = ((i + 1 : Nat) : Int) := wrap_nat (by omega)
      have hsu := bstU_succ ([], []) (offS xs.length cs) A hi1
      rw [getD_e hlt] at hsu
      have hbi := hbl i hi
      have hal := off_len (cs := cs) hc8 (hAo _ (List.getElem_mem hlt))
      generalize bstU ([], []) (offS xs.length cs) A i = B at hsu hbi ⊢
      conv => whnf
      refine ⟨[0, 1, 2, 3, 4, 5, 6], [], [], [], ⟨77371252455336267181195263, [], []⟩, by decide +kernel, ?_⟩
      conv => whnf
      refine ⟨_, getI_nat hlt, ?_⟩
      conv => whnf
      refine byC (c103 gl hv A[i] (hAo _ (List.getElem_mem hlt))) op103 ?_
      conv => whnf
      refine bcase_iff.2 ⟨fun g10_5 => ?_, fun g10_5 => ?_⟩
      · skip
        have hlk : ltK (offS xs.length cs A[i]) B = true := ltK_1 g10_5
        rw [hlk, if_pos rfl] at hsu
        -- Z7:TT
        conv => whnf
        refine ⟨⟨898, [], []⟩, ?_⟩
        conv => whnf
        rw [hw]
        exact hZ1 (i + 1, _) ⟨by omega, hlt, hsu.symm⟩ (by dsimp only; omega)
      · skip
        conv => whnf
        refine bcase_iff.2 ⟨fun g10_11 => ?_, fun g10_11 => ?_⟩
        · skip
          conv => whnf
          refine byC (c58 gl (offS xs.length cs A[i]) B (by omega) (by omega)) op58 ?_
          conv => whnf
          refine bcase_iff.2 ⟨fun h10 => ?_, fun h10 => ?_⟩
          · skip
            have hlk : ltK (offS xs.length cs A[i]) B = true := ltK_2 g10_11 h10
            rw [hlk, if_pos rfl] at hsu
            -- Z7:TFTT
            conv => whnf
            refine ⟨⟨898, [], []⟩, ?_⟩
            conv => whnf
            rw [hw]
            exact hZ1 (i + 1, _) ⟨by omega, hlt, hsu.symm⟩ (by dsimp only; omega)
          · skip
            have hlk : ltK (offS xs.length cs A[i]) B = false := ltK_3 g10_5 h10
            rw [hlk, if_neg (by simp)] at hsu
            -- Z7:TFTF
            conv => whnf
            refine ⟨⟨898, [], []⟩, ?_⟩
            conv => whnf
            rw [hw]
            exact hZ1 (i + 1, _) ⟨by omega, hlt, hsu.symm⟩ (by dsimp only; omega)
        · skip
          have hlk : ltK (offS xs.length cs A[i]) B = false := ltK_4 g10_5 g10_11
          rw [hlk, if_neg (by simp)] at hsu
          -- Z7:TFF
          conv => whnf
          refine ⟨⟨898, [], []⟩, ?_⟩
          conv => whnf
          rw [hw]
          exact hZ1 (i + 1, _) ⟨by omega, hlt, hsu.symm⟩ (by dsimp only; omega)
    · skip
      have hge : i = A.length := by have := of_decide_eq_false h7; omega
      conv => whnf
      refine (hQ1 _ _ _).mpr ?_
      conv => whnf
      have hbA := hbl A.length (Nat.le_refl _)
      rw [hge]
      generalize bstU ([], []) (offS xs.length cs) A A.length = B at hbA hR ⊢
      refine loop_q fun Q2 hQ2 => ?_
      refine ⟨⟨6402, [], [11]⟩, ?_⟩
      refine LoopW_ind _ (fun k : Nat => (({ tmps := [.undef, .own 1 [], .undef, .undef, .undef, .undef, .undef, .undef, vL B, .undef, .undef, .sl (S := S) U.reading ((B.take k).map (rdI xs.length)) (some 11), vI k, .undef, .undef, .undef, .undef, .undef, .undef, .undef, .undef, .undef, .undef, .undef, .undef, .undef, .undef, .undef, .undef, .undef, .undef, .undef, .undef, .undef, .undef, .undef, .undef, .undef, .undef, .undef, .undef, .undef, .undef, .undef, .undef, .undef, .undef, .undef, .undef, .undef, .undef, .undef, .undef, .undef, .undef, .undef, .undef, .undef, .undef, .undef, .undef, .undef, .undef, .undef, .undef, .undef, .undef, .undef, .undef, .undef, .undef, .undef, .undef, .undef, .undef, .undef, .undef, .undef, .undef, .undef, .undef, .undef, .undef, .undef, .undef, .undef], seg := [(1, .cells [lociV xs, copsV cs]), (11, .row U.reading false)], up := [] } : St S))) (fun k : Nat => (k ≤ B.length)) (fun k : Nat => (B.length - k)) () ?_ 0 (Nat.zero_le _)
      intro k hi Z2 hZ2
      conv => whnf
      refine bcase_iff.2 ⟨fun h14 => ?_, fun h14 => ?_⟩
      · skip
        have hltk : k < B.length := by have := of_decide_eq_true h14; omega
        have hwk : IntKind.i64.wrap ((k : Int) + 1) = ((k + 1 : Nat) : Int) := wrap_nat (by omega)
        have hbk := hbA.2 _ (List.getElem_mem hltk)
        have hq1 : IntKind.i64.wrap (B[k].tdiv xs.length) = B[k].tdiv xs.length := by rw [Int.tdiv_eq_ediv_of_nonneg (by omega)]; exact wrap_int (by have := Int.ediv_nonneg hbk.1 (show (0 : Int) ≤ xs.length by omega); omega) (by have := Int.ediv_le_self (xs.length : Int) hbk.1; omega)
        conv => whnf
        refine ⟨[0, 1, 2, 3, 4, 5, 6, 7, 8, 9, 10, 11, 12, 13, 14, 15, 16, 17, 18, 19, 20], [18], [], [], ⟨77371252455336267181195263, [], []⟩, by decide +kernel, ?_⟩
        conv => whnf
        refine ⟨_, getI_nat hltk, ?_⟩
        conv => whnf
        refine ⟨by omega, ?_⟩
        conv => whnf
        refine ⟨_, getI_nat hltk, ?_⟩
        conv => whnf
        refine ⟨by omega, ?_⟩
        conv => whnf
        refine ⟨_, rfl, ?_⟩
        conv => whnf
        refine ⟨lim (by show ((B.take k).map (rdI xs.length)).length + 1 ≤ _; simp only [List.length_map, List.length_take]; omega), ?_⟩
        -- Z14:T
        conv => whnf
        refine ⟨⟨6402, [83, 84], []⟩, ?_⟩
        conv => whnf
        have hs : (B.take (k + 1)).map (rdI xs.length) = (B.take k).map (rdI xs.length) ++ [(B[k].tdiv xs.length, B[k].tmod xs.length)] := by rw [take_succ' hltk, List.map_append]; rfl
        rw [hwk, hq1, ← hs]
        exact hZ2 (k + 1) hltk (by omega)
      · skip
        have hgk : k = B.length := by have := of_decide_eq_false h14; omega
        conv => whnf
        refine (hQ2 _ _ _).mpr ?_
        -- R:FFF
        conv => whnf
        rw [hgk, List.take_length, hR]

theorem op40 : Opens PR 40 := ⟨_, Tryd.func40, rfl, rfl⟩


theorem few_len9 {n : Nat} (hn : n ≤ 8) (does : Nat → Bool) : (few does (2 ^ n)).1.length ≤ 9223372036854775807 :=
  few_len does _ (Nat.le_trans (Nat.pow_le_pow_right (by omega) hn) (by decide))
theorem proof_len (xs : List (ByteArray × Int)) (cs : List (ByteArray × List Int)) : (proofR xs cs).1.length ≤ 9223372036854775807 := by
  unfold proofR
  by_cases hc : (chk xs cs).2.2 = 0
  · rw [if_neg (fun h => h hc)]
    have h := few_len9 (chk_valid hc).c8 fun s => !!emptyB (ordS xs cs s)
    simp only
    split
    · exact h
    · simp
  · rw [if_pos hc]; simp
theorem wrong_len (xs : List (ByteArray × Int)) (cs : List (ByteArray × List Int)) : (wrongR xs cs).1.length ≤ 9223372036854775807 := by
  unfold wrongR
  by_cases hc : (chk xs cs).2.2 = 0
  · rw [if_neg (fun h => h hc)]
    exact few_len9 (chk_valid hc).c8 fun s => !emptyB (ordS xs cs (less (whl cs) s))
  · rw [if_pos hc]; simp
theorem mist_len (xs : List (ByteArray × Int)) (cs : List (ByteArray × List Int)) : (mistR xs cs).1.length ≤ 9223372036854775807 := by
  rw [mist_eq]
  unfold mistS
  by_cases hc : (chk xs cs).2.2 = 0
  · rw [if_neg (fun h => h hc)]
    have hv := chk_valid hc
    have hA0 : 0 < (allL xs).length := List.length_pos_iff.2 (allL_ne hv.fst)
    rw [← bstU_all ([], []) (offS xs.length cs) hA0, List.length_map]
    have := bst_prop (d := ([], [])) (g := offS xs.length cs) (A := allL xs) (P := fun l => l.length ≤ 40) (by decide) (fun i hi => by rw [getD_e hi]; exact (off_len hv.c8 (allL_ok hv.l5 (List.getElem_mem hi))).1) (allL xs).length (Nat.le_refl _)
    omega
  · rw [if_pos hc]; simp

theorem c6 (xs : List (ByteArray × Int)) (cs : List (ByteArray × List Int)) (hN : LensN xs cs) : PCalls PR glT 6 [.agg [lociV xs, copsV cs]] fun r => r = vB true := by
  have h1 := proof_eq xs cs
  have h2 := wrong_eq xs cs
  have hm3 := mist_eq xs cs
  have hp := proof_len xs cs
  have hwr := wrong_len xs cs
  have hmi := mist_len xs cs
  refine fnW_sound (par_ok glT) Tryd.func6 ?_
  conv => whnf
  refine byC (c35 xs cs hN.toLens) op35 ?_
  conv => whnf
  refine byC (c36 glT xs cs hN) op36 ?_
  conv => whnf
  refine byC (c20 glT _ _ hp) op20 ?_
  conv => whnf
  refine bcase_iff.2 ⟨fun g3_4 => ?_, fun g3_4 => ?_⟩
  · skip
    exfalso
    have hx : (!decide ((proofR xs cs).1 = (proofS xs cs).1)) = true := g3_4
    rw [decide_eq_true (by rw [h1])] at hx
    cases hx --done
  · skip
    conv => whnf
    refine bcase_iff.2 ⟨fun h3 => ?_, fun h3 => ?_⟩
    · skip
      exfalso
      have hx : ((proofR xs cs).2 != (proofS xs cs).2) = true := h3
      rw [ne_F (by rw [h1])] at hx
      cases hx --done
    · skip
      conv => whnf
      refine byC (c37 xs cs hN.toLens) op37 ?_
      conv => whnf
      refine byC (c38 glT xs cs hN) op38 ?_
      conv => whnf
      refine byC (c20 glT _ _ hwr) op20 ?_
      conv => whnf
      refine bcase_iff.2 ⟨fun g7_4 => ?_, fun g7_4 => ?_⟩
      · skip
        exfalso
        have hx : (!decide ((wrongR xs cs).1 = (wrongS xs cs).1)) = true := g7_4
        rw [decide_eq_true (by rw [h2])] at hx
        cases hx --done
      · skip
        conv => whnf
        refine bcase_iff.2 ⟨fun h7 => ?_, fun h7 => ?_⟩
        · skip
          exfalso
          have hx : ((wrongR xs cs).2 != (wrongS xs cs).2) = true := h7
          rw [ne_F (by rw [h2])] at hx
          cases hx --done
        · skip
          conv => whnf
          refine byC (c39 xs cs hN.toLens) op39 ?_
          conv => whnf
          refine byC (c40 glT xs cs hN) op40 ?_
          conv => whnf
          refine byC (c41 glT _ _ hmi) op41 ?_
          conv => whnf
          refine bcase_iff.2 ⟨fun g11_3 => ?_, fun g11_3 => ?_⟩
          · skip
            conv => whnf
            refine bcase_iff.2 ⟨fun g11_8 => ?_, fun g11_8 => ?_⟩
            · skip
              conv => whnf
              refine byC ((c26)) op26 ?_
              -- R:FFFFTT
              conv => whnf
              rfl
            · skip
              exfalso
              have hx : ((mistR xs cs).2 == (mistS xs cs).2) = false := g11_8
              rw [eq_T (by rw [hm3])] at hx
              cases hx --done
          · skip
            exfalso
            have hx : decide ((mistR xs cs).1 = (mistS xs cs).1) = false := g11_3
            rw [decide_eq_true (by rw [hm3])] at hx
            cases hx --done

theorem op6 : Opens PR 6 := ⟨_, Tryd.func6, rfl, rfl⟩

end Go.Ab.StF
