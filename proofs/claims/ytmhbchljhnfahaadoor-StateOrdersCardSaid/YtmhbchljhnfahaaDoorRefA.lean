/-
  THE STATE FAMILY, PART NA: functions of the reference: places, states, steps.
  THE STATE FAMILY, PART NB: functions of the reference: the error of an order, all orders, those that agree.
  THE STATE FAMILY, PART NC: functions of the reference: the orders that agree; words that have to be new; Check.
-/
import Derived.Test.YtmhbchljhnfahaaDoorPlainA
namespace Go.Ab.StF
open Go Go.Ab Go.Proofs
set_option maxHeartbeats 1000000
set_option maxRecDepth 100000

theorem lim {n : Nat} (h : n ≤ 1000000000) : n ≤ LIM := Nat.le_trans h (by decide)

theorem plc_at {xs : List Int} {n : Int} {i : Nat} (h : i < xs.length) (hn : n ∉ xs.take i) (he : xs[i] = n) : plc xs n = i := by
  unfold plc
  have hm : n ∈ xs := he ▸ List.getElem_mem h
  have h1 : ¬ xs.idxOf n < i := fun hl => hn ((mem_take_idx (by omega)).2 hl)
  have h2 : n ∈ xs.take (i + 1) := by rw [take_succ' h, he]; exact List.mem_append_right _ (List.mem_cons_self ..)
  have h3 := (mem_take_idx (by omega)).1 h2
  omega

theorem plc_none {xs : List Int} {n : Int} (hn : n ∉ xs) : plc xs n = xs.length := List.idxOf_eq_length hn

theorem nmem_succ {α : Type} {xs : List α} {x : α} {i : Nat} (h : i < xs.length) (hn : x ∉ xs.take i) (he : xs[i] ≠ x) : x ∉ xs.take (i + 1) := fun hm => by
  rw [take_succ' h] at hm
  rcases List.mem_append.1 hm with hm | hm
  · exact hn hm
  · simp only [List.mem_singleton] at hm
    exact he hm.symm

theorem all_yes {p : Nat → Bool} {n : Nat} (h : ∀ j, j < n → p j = true) : (List.range n).all p = true := List.all_eq_true.2 fun j hj => h j (List.mem_range.1 hj)
theorem all_no {p : Nat → Bool} {n i : Nat} (h : i < n) (hp : p i = false) : (List.range n).all p = false := by
  rw [Bool.eq_false_iff]
  intro ha
  rw [List.all_eq_true] at ha
  rw [ha i (List.mem_range.2 h)] at hp
  cases hp
theorem any_yes {p : Nat → Bool} {n i : Nat} (h : i < n) (hp : p i = true) : (List.range n).any p = true := List.any_eq_true.2 ⟨i, List.mem_range.2 h, hp⟩
theorem any_no {p : Nat → Bool} {n : Nat} (h : ∀ j, j < n → p j = false) : (List.range n).any p = false := List.any_eq_false.2 fun j hj => by rw [h j (List.mem_range.1 hj)]; simp
theorem up_succ {P : Nat → Prop} {i : Nat} (h : ∀ j, j < i → P j) (hi : P i) : ∀ j, j < i + 1 → P j := fun j hj => by
  by_cases e : j = i
  · subst e; exact hi
  · exact h j (by omega)

theorem nf_len (p : Nat → Bool) (i : Nat) : (natsV ((List.range i).filter p)).length ≤ i := by
  simp only [natsV, List.length_map]
  exact Nat.le_trans (List.length_filter_le _ _) (by simp)
theorem nf_T {p : Nat → Bool} {i : Nat} (h : p i = true) : natsV ((List.range (i + 1)).filter p) = natsV ((List.range i).filter p) ++ [(i : Int)] := by
  simp only [natsV, List.range_succ, List.filter_append, List.map_append]
  simp [h]
theorem nf_F {p : Nat → Bool} {i : Nat} (h : p i = false) : natsV ((List.range (i + 1)).filter p) = natsV ((List.range i).filter p) := by
  simp only [natsV, List.range_succ, List.filter_append, List.map_append]
  simp [h]
theorem rm_succ {α : Type} (f : Nat → α) (i : Nat) : (List.range (i + 1)).map f = (List.range i).map f ++ [f i] := by simp [List.range_succ]

/-- An order of so many loci, as far as its states are told. -/
structure OkO (n : Nat) (o : List Int × List Int) : Prop where
  l : o.1.length = n
  m : o.2.length = n
  v : ∀ v ∈ o.1, 0 ≤ v ∧ v ≤ 3
  n5 : n ≤ 5

def fitT (ss : List Int) (o : List Int × List Int) (k j : Nat) : Bool := ss.getD j 0 == 0 || ss.getD j 0 == atV o.1 o.2 k j
theorem fitB_T (ss : List Int) (o : List Int × List Int) (k : Nat) : fitB ss o.1 o.2 k = (List.range ss.length).all (fitT ss o k) := rfl

def odB (cs : List (ByteArray × List Int)) (o : List Int × List Int) (i : Nat) : Bool := (stpL (showsOf cs i) o.1 o.2).isEmpty
theorem amid_od (cs : List (ByteArray × List Int)) (o : List Int × List Int) : amidL cs o = (List.range cs.length).filter (odB cs o) := rfl
theorem len_empty (l : List Nat) : (((natsV l).length : Int) == 0) = l.isEmpty := by
  cases l with
  | nil => rfl
  | cons a l => simp [natsV]; omega

def amiB (ss st : List Int) (i : Nat) : Bool := ss.getD i 0 != 0 && ss.getD i 0 != st.getD i 0
/-- The loci at which a copy shows another reading than a state. -/
def amiL (ss st : List Int) : List Nat := (List.range st.length).filter (amiB ss st)

theorem c85 (gl : Gl) (xs : List Int) (hx : xs.length ≤ 9223372036854775807) (n : Int) : PCalls PR gl 85 [vL xs, vI n] fun r => r = vI (plc xs n : Nat) := by
  refine fnW_sound (par_ok gl) Tryd.func85 ?_
  conv => whnf
  refine ⟨⟨35, [], []⟩, ?_⟩
  refine LoopW_ind _ (fun i : Nat => (({ tmps := [vL xs, vI n, .undef, .undef, .undef, vI i, .undef, .undef, .undef, .undef, .undef, .undef, .undef, .undef, .undef, .undef, .undef, .undef, .undef, .undef, .undef], seg := [], up := [] } : St S))) (fun i : Nat => (i ≤ xs.length ∧ n ∉ xs.take i)) (fun i : Nat => (xs.length - i)) () ?_ 0 ⟨Nat.zero_le _, by simp⟩
  intro i hinv Z1 hZ1
  obtain ⟨hi, hn⟩ := hinv
  conv => whnf
  refine bcase_iff.2 ⟨fun h2 => ?_, fun h2 => ?_⟩
  · skip
    have hlt : i < xs.length := by have := of_decide_eq_true h2; omega
    have hw : IntKind.i64.wrap ((i : Int) + 1) = ((i + 1 : Nat) : Int) := wrap_nat (by omega)
    conv => whnf
    refine ⟨_, getI_nat hlt, ?_⟩
    conv => whnf
    refine bcase_iff.2 ⟨fun h4 => ?_, fun h4 => ?_⟩
    · skip
      have h4 : xs[i] = n := beq_iff_eq.1 h4
      -- R:TT
      conv => whnf
      rw [plc_at hlt hn h4]
    · skip
      have h4 : xs[i] ≠ n := beq_eq_false_iff_ne.1 h4
      -- Z2:TF
      conv => whnf
      refine ⟨⟨35, [], []⟩, ?_⟩
      conv => whnf
      rw [hw]
      exact hZ1 (i + 1) ⟨hlt, nmem_succ hlt hn h4⟩ (by omega)
  · skip
    have hge : i = xs.length := by have := of_decide_eq_false h2; omega
    -- R:F
    conv => whnf
    rw [hge, List.take_length] at hn
    rw [plc_none hn]

theorem op85 : Opens PR 85 := ⟨_, Tryd.func85, rfl, rfl⟩

theorem c107 (gl : Gl) (fs os : List Int) (ho : os.length ≤ 9223372036854775807) (k j : Nat) (hj : j < fs.length) (hf : ∀ v ∈ fs, 0 ≤ v ∧ v ≤ 3) : PCalls PR gl 107 [.agg [vL fs, vL os], vI k, vI j] fun r => r = vI (atV fs os k j) := by
  refine fnW_sound (par_ok gl) Tryd.func107 ?_
  conv => whnf
  refine byC (c85 gl os ho j) op85 ?_
  conv => whnf
  refine bcase_iff.2 ⟨fun h1 => ?_, fun h1 => ?_⟩
  · skip
    have h1 : plc os j < k := by have := of_decide_eq_true h1; omega
    conv => whnf
    refine ⟨_, getI_nat hj, ?_⟩
    -- R:T
    conv => whnf
    have hv := hf _ (List.getElem_mem hj)
    rw [wrap_int (by omega) (by omega)]
    unfold atV
    rw [if_pos h1, getD_e hj]
  · skip
    have h1 : ¬ plc os j < k := by have := of_decide_eq_false h1; omega
    conv => whnf
    refine ⟨_, getI_nat hj, ?_⟩
    -- R:F
    conv => whnf
    unfold atV
    rw [if_neg h1, getD_e hj]

theorem op107 : Opens PR 107 := ⟨_, Tryd.func107, rfl, rfl⟩

theorem c119 (gl : Gl) (nm : ByteArray) (ss : List Int) {n : Nat} (o : List Int × List Int) (ho : OkO n o) (hs : ss.length = n) (k : Nat) : PCalls PR gl 119 [.agg [.str nm, vL ss], .agg [vL o.1, vL o.2], vI k] fun r => r = vB (fitB ss o.1 o.2 k) := by
  refine fnW_sound (par_ok gl) Tryd.func119 ?_
  conv => whnf
  refine ⟨⟨156, [], []⟩, ?_⟩
  refine LoopW_ind _ (fun i : Nat => (({ tmps := [.undef, .undef, vI k, .own 3 [], .own 4 [], .undef, .undef, vI i, .undef, .undef, .undef, .undef, .undef, .undef, .undef, .undef, .undef, .undef, .undef, .undef, .undef, .undef, .undef, .undef, .undef, .undef, .undef, .undef, .undef, .undef, .undef, .undef, .undef], seg := [(3, .cells [.str nm, vL ss]), (4, .cells [vL o.1, vL o.2])], up := [] } : St S))) (fun i : Nat => (i ≤ ss.length ∧ ∀ j, j < i → fitT ss o k j = true)) (fun i : Nat => (ss.length - i)) () ?_ 0 ⟨Nat.zero_le _, fun j hj => absurd hj (Nat.not_lt_zero _)⟩
  intro i hinv Z1 hZ1
  obtain ⟨hi, hj⟩ := hinv
  have hn5 := ho.n5
  conv => whnf
  refine bcase_iff.2 ⟨fun h2 => ?_, fun h2 => ?_⟩
  · skip
    have hlt : i < ss.length := by have := of_decide_eq_true h2; omega
    have hw : IntKind.i64.wrap ((i : Int) + 1) = ((i + 1 : Nat) : Int) := wrap_nat (by omega)
    conv => whnf
    refine ⟨[0, 1, 2, 3, 4, 5, 6, 7, 8, 9, 10, 11, 12, 13, 14, 15, 16, 17], [], [], [], ⟨8589934591, [], []⟩, by decide +kernel, ?_⟩
    conv => whnf
    refine ⟨_, getI_nat hlt, ?_⟩
    conv => whnf
    refine bcase_iff.2 ⟨fun g4_6 => ?_, fun g4_6 => ?_⟩
    · skip
      have g1 : (ss[i] == 0) = false := by have g1 : (ss[i] != 0) = true := g4_6; simpa using g1
      conv => whnf
      refine ⟨_, getI_nat hlt, ?_⟩
      conv => whnf
      refine byC (c107 gl o.1 o.2 (by have := ho.m; omega) k i (by have := ho.l; omega) ho.v) op107 ?_
      conv => whnf
      refine bcase_iff.2 ⟨fun h4 => ?_, fun h4 => ?_⟩
      · skip
        have h4 : (ss[i] == atV o.1 o.2 k i) = false := by have h4 : (ss[i] != atV o.1 o.2 k i) = true := h4; simpa using h4
        -- R:TTT
        conv => whnf
        rw [fitB_T, all_no hlt (by unfold fitT; rw [getD_e hlt, g1, h4]; rfl)]
      · skip
        have h4 : (ss[i] == atV o.1 o.2 k i) = true := by have h4 : (ss[i] != atV o.1 o.2 k i) = false := h4; simpa using h4
        -- Z2:TTF
        conv => whnf
        refine ⟨⟨156, [], []⟩, ?_⟩
        conv => whnf
        rw [hw]
        exact hZ1 (i + 1) ⟨hlt, up_succ hj (by unfold fitT; rw [getD_e hlt, h4, Bool.or_true])⟩ (by omega)
    · skip
      have g1 : (ss[i] == 0) = true := by have g1 : (ss[i] != 0) = false := g4_6; simpa using g1
      -- Z2:TF
      conv => whnf
      refine ⟨⟨156, [], []⟩, ?_⟩
      conv => whnf
      rw [hw]
      exact hZ1 (i + 1) ⟨hlt, up_succ hj (by unfold fitT; rw [getD_e hlt, g1]; rfl)⟩ (by omega)
  · skip
    have hge : i = ss.length := by have := of_decide_eq_false h2; omega
    -- R:F
    conv => whnf
    rw [fitB_T, all_yes (hge ▸ hj)]

theorem op119 : Opens PR 119 := ⟨_, Tryd.func119, rfl, rfl⟩

theorem c88 (gl : Gl) (nm : ByteArray) (ss : List Int) {n : Nat} (o : List Int × List Int) (ho : OkO n o) (hs : ss.length = n) : PCalls PR gl 88 [.agg [.str nm, vL ss], .agg [vL o.1, vL o.2]] fun r => r = vL (natsV (stpL ss o.1 o.2)) := by
  refine fnW_sound (par_ok gl) Tryd.func88 ?_
  conv => whnf
  refine ⟨⟨108, [4], [4, 5]⟩, ?_⟩
  refine LoopW_ind _ (fun i : Nat => (({ tmps := [.undef, .undef, .own 2 [], .own 3 [], .undef, .sl (S := S) U.int (natsV ((List.range i).filter (fitB ss o.1 o.2))) (some 5), vI i, .undef, .undef, .undef, .undef, .undef, .undef, .undef, .undef, .undef, .undef, .undef, .undef, .undef, .undef, .undef, .undef], seg := [(2, .cells [.str nm, vL ss]), (3, .cells [vL o.1, vL o.2]), (5, .row U.int false)], up := [] } : St S))) (fun i : Nat => (i ≤ n + 1)) (fun i : Nat => (n + 1 - i)) () ?_ 0 (Nat.zero_le _)
  intro i hi Z1 hZ1
  have hn5 := ho.n5
  have hm := ho.m
  conv => whnf
  refine bcase_iff.2 ⟨fun h3 => ?_, fun h3 => ?_⟩
  · skip
    have hlt : i < n + 1 := by have := of_decide_eq_true h3; omega
    have hw : IntKind.i64.wrap ((i : Int) + 1) = ((i + 1 : Nat) : Int) := wrap_nat (by omega)
    conv => whnf
    refine byC (c119 gl nm ss o ho hs i) op119 ?_
    conv => whnf
    refine bcase_iff.2 ⟨fun h5 => ?_, fun h5 => ?_⟩
    · skip
      conv => whnf
      refine ⟨_, rfl, ?_⟩
      conv => whnf
      refine ⟨lim (by have := nf_len (fitB ss o.1 o.2) i; simp only [List.length_cons, List.length_nil]; omega), ?_⟩
      -- Z3:TT
      conv => whnf
      refine ⟨⟨108, [20, 21], []⟩, ?_⟩
      conv => whnf
      rw [hw, ← nf_T h5]
      exact hZ1 (i + 1) hlt (by omega)
    · skip
      -- Z3:TF
      conv => whnf
      refine ⟨⟨108, [20, 21], []⟩, ?_⟩
      conv => whnf
      rw [hw, ← nf_F h5]
      exact hZ1 (i + 1) hlt (by omega)
  · skip
    have hge : i = n + 1 := by have := of_decide_eq_false h3; omega
    -- R:F
    conv => whnf
    rw [hge]
    unfold stpL
    rw [hm]

theorem op88 : Opens PR 88 := ⟨_, Tryd.func88, rfl, rfl⟩

theorem c74 (gl : Gl) {xs : List (ByteArray × Int)} {cs : List (ByteArray × List Int)} (hv : Valid xs cs) (o : List Int × List Int) (ho : OkO xs.length o) : PCalls PR gl 74 [.agg [lociV xs, copsV cs], .agg [vL o.1, vL o.2]] fun r => r = vL (natsV (amidL cs o)) := by
  refine fnW_sound (par_ok gl) Tryd.func74 ?_
  conv => whnf
  refine ⟨⟨108, [4], [4, 5]⟩, ?_⟩
  refine LoopW_ind _ (fun i : Nat => (({ tmps := [.undef, .undef, .own 2 [], .own 3 [], .undef, .sl (S := S) U.int (natsV ((List.range i).filter (odB cs o))) (some 5), vI i, .undef, .undef, .undef, .undef, .undef, .undef, .undef, .undef, .undef, .undef, .undef, .undef, .undef, .undef, .undef, .undef, .undef, .undef, .undef, .undef, .undef], seg := [(2, .cells [lociV xs, copsV cs]), (3, .cells [vL o.1, vL o.2]), (5, .row U.int false)], up := [] } : St S))) (fun i : Nat => (i ≤ cs.length)) (fun i : Nat => (cs.length - i)) () ?_ 0 (Nat.zero_le _)
  intro i hi Z1 hZ1
  have hc8 := hv.c8
  conv => whnf
  refine bcase_iff.2 ⟨fun h3 => ?_, fun h3 => ?_⟩
  · skip
    have hlt : i < cs.length := by have := of_decide_eq_true h3; omega
    have hw : IntKind.i64.wrap ((i : Int) + 1) = ((i + 1 : Nat) : Int) := wrap_nat (by omega)
    conv => whnf
    refine ⟨[0, 1, 2, 3, 4, 5, 6, 7, 8], [], [], [], ⟨268435455, [], []⟩, by decide +kernel, ?_⟩
    conv => whnf
    refine ⟨_, getI_nat hlt, ?_⟩
    conv => whnf
    refine byC (c88 gl cs[i].1 cs[i].2 o ho (hv.len _ (List.getElem_mem hlt))) op88 ?_
    conv => whnf
    refine bcase_iff.2 ⟨fun h5 => ?_, fun h5 => ?_⟩
    · skip
      have h5 : odB cs o i = true := by unfold odB; rw [showsOf_eq hlt, ← len_empty]; exact h5
      conv => whnf
      refine ⟨_, rfl, ?_⟩
      conv => whnf
      refine ⟨lim (by have := nf_len (odB cs o) i; simp only [List.length_cons, List.length_nil]; omega), ?_⟩
      -- Z3:TT
      conv => whnf
      refine ⟨⟨108, [25, 26], []⟩, ?_⟩
      conv => whnf
      rw [hw, ← nf_T h5]
      exact hZ1 (i + 1) hlt (by omega)
    · skip
      have h5 : odB cs o i = false := by unfold odB; rw [showsOf_eq hlt, ← len_empty]; exact h5
      -- Z3:TF
      conv => whnf
      refine ⟨⟨108, [25, 26], []⟩, ?_⟩
      conv => whnf
      rw [hw, ← nf_F h5]
      exact hZ1 (i + 1) hlt (by omega)
  · skip
    have hge : i = cs.length := by have := of_decide_eq_false h3; omega
    -- R:F
    conv => whnf
    rw [hge, amid_od]

theorem op74 : Opens PR 74 := ⟨_, Tryd.func74, rfl, rfl⟩

theorem c51 (gl : Gl) {n : Nat} (o : List Int × List Int) (ho : OkO n o) (k : Nat) : PCalls PR gl 51 [.agg [vL o.1, vL o.2], vI k] fun r => r = vL (stateS k o) := by
  refine fnW_sound (par_ok gl) Tryd.func51 ?_
  conv => whnf
  refine ⟨⟨102, [4], [4, 5]⟩, ?_⟩
  refine LoopW_ind _ (fun i : Nat => (({ tmps := [.undef, vI k, .own 2 [], .undef, .undef, .sl (S := S) U.int ((List.range i).map (atV o.1 o.2 k)) (some 5), vI i, .undef, .undef, .undef, .undef, .undef, .undef, .undef, .undef, .undef, .undef, .undef, .undef, .undef, .undef, .undef], seg := [(2, .cells [vL o.1, vL o.2]), (5, .row U.int false)], up := [] } : St S))) (fun i : Nat => (i ≤ o.1.length)) (fun i : Nat => (o.1.length - i)) () ?_ 0 (Nat.zero_le _)
  intro i hi Z1 hZ1
  have hn5 := ho.n5
  have hl := ho.l
  have hm := ho.m
  conv => whnf
  refine bcase_iff.2 ⟨fun h3 => ?_, fun h3 => ?_⟩
  · skip
    have hlt : i < o.1.length := by have := of_decide_eq_true h3; omega
    have hw : IntKind.i64.wrap ((i : Int) + 1) = ((i + 1 : Nat) : Int) := wrap_nat (by omega)
    conv => whnf
    refine byC (c107 gl o.1 o.2 (by omega) k i hlt ho.v) op107 ?_
    conv => whnf
    refine ⟨_, rfl, ?_⟩
    conv => whnf
    refine ⟨lim (by simp only [List.length_map, List.length_range, List.length_cons, List.length_nil]; omega), ?_⟩
    -- Z3:T
    conv => whnf
    refine ⟨⟨102, [19, 20], []⟩, ?_⟩
    conv => whnf
    rw [hw, ← rm_succ]
    exact hZ1 (i + 1) hlt (by omega)
  · skip
    have hge : i = o.1.length := by have := of_decide_eq_false h3; omega
    -- R:F
    conv => whnf
    rw [hge]
    rfl

theorem op51 : Opens PR 51 := ⟨_, Tryd.func51, rfl, rfl⟩

end Go.Ab.StF

namespace Go.Ab.StF
open Go Go.Ab Go.Proofs
set_option maxHeartbeats 1000000
set_option maxRecDepth 100000


def o7 (xs : List (ByteArray × Int)) (fs os : List Int) (i : Nat) : Bool := !inB (fs.getD i 0) 1 2 || !inB (os.getD i 0) 0 ((xs.length : Int) - 1)
def o5 (os : List Int) (i : Nat) : Bool := (os.take i).any fun x => x == os.getD i 0
def o2 (xs : List (ByteArray × Int)) (fs : List Int) (i : Nat) : Bool := (xs.getD i (ByteArray.empty, 0)).2 != 0 && (xs.getD i (ByteArray.empty, 0)).2 != fs.getD i 0

theorem ordE_eq {xs : List (ByteArray × Int)} {fs os : List Int} (hf : fs.length = xs.length) (ho : os.length = xs.length) :
    ordE xs fs os = if (List.range xs.length).any (o7 xs fs os) then 7 else if (List.range xs.length).any (o5 os) then 5 else if (List.range xs.length).any (o2 xs fs) then 2 else 0 := by
  unfold ordE
  rw [if_neg (by rw [hf, ho]; simp)]
  rfl

theorem c53 (gl : Gl) (xs : List (ByteArray × Int)) (cs : List (ByteArray × List Int)) (fs os : List Int) (h1 : 1 ≤ xs.length) (h5 : xs.length ≤ 5) : PCalls PR gl 53 [.agg [lociV xs, copsV cs], .agg [vL fs, vL os]] fun r => r = vI (ordE xs fs os) := by
  refine fnW_sound (par_ok gl) Tryd.func53 ?_
  conv => whnf
  refine bcase_iff.2 ⟨fun g2_5 => ?_, fun g2_5 => ?_⟩
  · skip
    -- R:T
    conv => whnf
    have g : ((fs.length : Int) != xs.length) = true := g2_5
    unfold ordE
    rw [if_pos (by rw [g]; rfl)]
  · skip
    conv => whnf
    refine bcase_iff.2 ⟨fun h2 => ?_, fun h2 => ?_⟩
    · skip
      -- R:FT
      conv => whnf
      have g : ((os.length : Int) != xs.length) = true := h2
      unfold ordE
      rw [if_pos (by rw [g, Bool.or_true])]
    · skip
      have hf : fs.length = xs.length := by have g : ((fs.length : Int) != xs.length) = false := g2_5; simp at g; omega
      have ho : os.length = xs.length := by have g : ((os.length : Int) != xs.length) = false := h2; simp at g; omega
      have hE := ordE_eq hf ho
      have hwn : IntKind.i64.wrap ((xs.length : Int) - 1) = (xs.length : Int) - 1 := wrap_int (by omega) (by omega)
      conv => whnf
      refine ⟨⟨108, [], []⟩, ?_⟩
      refine LoopW_ind _ (fun i : Nat => (({ tmps := [.undef, .undef, .own 2 [], .own 3 [], .undef, vI xs.length, vI i, .undef, .undef, .undef, .undef, .undef, .undef, .undef, .undef, .undef, .undef, .undef, .undef, .undef, .undef, .undef, .undef, .undef, .undef, .undef, .undef, .undef, .undef, .undef, .undef, .undef, .undef, .undef, .undef, .undef, .undef, .undef, .undef, .undef, .undef, .undef, .undef, .undef, .undef, .undef, .undef, .undef, .undef, .undef, .undef, .undef, .undef, .undef, .undef, .undef, .undef, .undef, .undef, .undef, .undef, .undef, .undef, .undef, .undef, .undef, .undef, .undef, .undef, .undef, .undef, .undef, .undef, .undef, .undef, .undef, .undef, .undef, .undef, .undef, .undef, .undef, .undef, .undef, .undef, .undef, .undef, .undef], seg := [(2, .cells [lociV xs, copsV cs]), (3, .cells [vL fs, vL os])], up := [] } : St S))) (fun i : Nat => (i ≤ xs.length ∧ ∀ j, j < i → o7 xs fs os j = false)) (fun i : Nat => (xs.length - i)) () ?_ 0 ⟨Nat.zero_le _, fun j hj => absurd hj (Nat.not_lt_zero _)⟩
      intro i hinv Z1 hZ1
      obtain ⟨hi, hj⟩ := hinv
      conv => whnf
      refine bcase_iff.2 ⟨fun h5 => ?_, fun h5 => ?_⟩
      · skip
        have hlt : i < xs.length := by have := of_decide_eq_true h5; omega
        have hw : IntKind.i64.wrap ((i : Int) + 1) = ((i + 1 : Nat) : Int) := wrap_nat (by omega)
        conv => whnf
        refine ⟨_, getI_nat (show i < fs.length by omega), ?_⟩
        conv => whnf
        refine byC (c69 gl _ _ _) op69 ?_
        conv => whnf
        refine bcase_iff.2 ⟨fun g7_7 => ?_, fun g7_7 => ?_⟩
        · skip
          have g : (!inB fs[i] 1 2) = true := g7_7
          -- R:FFTT
          conv => whnf
          have h7 : o7 xs fs os i = true := by unfold o7; rw [getD_e (show i < fs.length by omega), g]; rfl
          rw [hE, if_pos (any_yes hlt h7)]
        · skip
          have g : (!inB fs[i] 1 2) = false := g7_7
          conv => whnf
          refine ⟨_, getI_nat (show i < os.length by omega), ?_⟩
          conv => whnf
          refine byC (c69 gl _ _ _) op69 ?_
          conv => whnf
          refine bcase_iff.2 ⟨fun h7 => ?_, fun h7 => ?_⟩
          · skip
            have h7 : (!inB os[i] 0 (IntKind.i64.wrap ((xs.length : Int) - 1))) = true := h7
            -- R:FFTFT
            conv => whnf
            rw [hwn] at h7
            have h7 : o7 xs fs os i = true := by unfold o7; rw [getD_e (show i < os.length by omega), h7, Bool.or_true]
            rw [hE, if_pos (any_yes hlt h7)]
          · skip
            have h7 : (!inB os[i] 0 (IntKind.i64.wrap ((xs.length : Int) - 1))) = false := h7
            -- Z5:TFF
            conv => whnf
            refine ⟨⟨108, [], []⟩, ?_⟩
            conv => whnf
            rw [hwn] at h7
            have h7 : o7 xs fs os i = false := by unfold o7; rw [getD_e (show i < os.length by omega), getD_e (show i < fs.length by omega), h7, g]; rfl
            rw [hw]
            exact hZ1 (i + 1) ⟨hlt, up_succ hj h7⟩ (by omega)
      · skip
        have hge : i = xs.length := by have := of_decide_eq_false h5; omega
        conv => whnf
        have hA := any_no (hge ▸ hj)
        rw [hA, if_neg (by simp)] at hE
        refine ⟨⟨172, [], []⟩, ?_⟩
        refine LoopW_ind _ (fun i2 : Nat => (({ tmps := [.undef, .undef, .own 2 [], .own 3 [], .undef, vI xs.length, .undef, vI i2, .undef, .undef, .undef, .undef, .undef, .undef, .undef, .undef, .undef, .undef, .undef, .undef, .undef, .undef, .undef, .undef, .undef, .undef, .undef, .undef, .undef, .undef, .undef, .undef, .undef, .undef, .undef, .undef, .undef, .undef, .undef, .undef, .undef, .undef, .undef, .undef, .undef, .undef, .undef, .undef, .undef, .undef, .undef, .undef, .undef, .undef, .undef, .undef, .undef, .undef, .undef, .undef, .undef, .undef, .undef, .undef, .undef, .undef, .undef, .undef, .undef, .undef, .undef, .undef, .undef, .undef, .undef, .undef, .undef, .undef, .undef, .undef, .undef, .undef, .undef, .undef, .undef, .undef, .undef, .undef], seg := [(2, .cells [lociV xs, copsV cs]), (3, .cells [vL fs, vL os])], up := [] } : St S))) (fun i2 : Nat => (i2 ≤ xs.length ∧ ∀ j, j < i2 → o5 os j = false)) (fun i2 : Nat => (xs.length - i2)) () ?_ 0 ⟨Nat.zero_le _, fun j hj => absurd hj (Nat.not_lt_zero _)⟩
        intro i2 hinv Z2 hZ2
        obtain ⟨hi2, hj2⟩ := hinv
        conv => whnf
        refine bcase_iff.2 ⟨fun h10 => ?_, fun h10 => ?_⟩
        · skip
          have hlt : i2 < xs.length := by have := of_decide_eq_true h10; omega
          have hw : IntKind.i64.wrap ((i2 : Int) + 1) = ((i2 + 1 : Nat) : Int) := wrap_nat (by omega)
          conv => whnf
          refine ⟨[0, 1, 2, 3, 4, 5, 6, 7, 8, 9], [], [], [], ⟨309485009821345068724781055, [], []⟩, by decide +kernel, ?_⟩
          conv => whnf
          refine ⟨Int.natCast_nonneg _, ?_⟩
          conv => whnf
          refine ⟨Nat.zero_le _, by simp; omega, ?_⟩
          conv => whnf
          refine ⟨_, getI_nat (show i2 < os.length by omega), ?_⟩
          conv => whnf
          refine byC (c52 gl (os.take i2) (by simp; omega) (os[i2]'(by omega))) op52 ?_
          conv => whnf
          refine bcase_iff.2 ⟨fun h12 => ?_, fun h12 => ?_⟩
          · skip
            have h12 : o5 os i2 = true := by unfold o5; rw [getD_e (show i2 < os.length by omega)]; exact h12
            -- R:FFFTT
            conv => whnf
            rw [hE, if_pos (any_yes hlt h12)]
          · skip
            have h12 : o5 os i2 = false := by unfold o5; rw [getD_e (show i2 < os.length by omega)]; exact h12
            -- Z10:TF
            conv => whnf
            refine ⟨⟨172, [], []⟩, ?_⟩
            conv => whnf
            rw [hw]
            exact hZ2 (i2 + 1) ⟨hlt, up_succ hj2 h12⟩ (by omega)
        · skip
          have hge2 : i2 = xs.length := by have := of_decide_eq_false h10; omega
          conv => whnf
          have hB := any_no (hge2 ▸ hj2)
          rw [hB, if_neg (by simp)] at hE
          refine ⟨⟨300, [], []⟩, ?_⟩
          refine LoopW_ind _ (fun i3 : Nat => (({ tmps := [.undef, .undef, .own 2 [], .own 3 [], .undef, vI xs.length, .undef, .undef, vI i3, .undef, .undef, .undef, .undef, .undef, .undef, .undef, .undef, .undef, .undef, .undef, .undef, .undef, .undef, .undef, .undef, .undef, .undef, .undef, .undef, .undef, .undef, .undef, .undef, .undef, .undef, .undef, .undef, .undef, .undef, .undef, .undef, .undef, .undef, .undef, .undef, .undef, .undef, .undef, .undef, .undef, .undef, .undef, .undef, .undef, .undef, .undef, .undef, .undef, .undef, .undef, .undef, .undef, .undef, .undef, .undef, .undef, .undef, .undef, .undef, .undef, .undef, .undef, .undef, .undef, .undef, .undef, .undef, .undef, .undef, .undef, .undef, .undef, .undef, .undef, .undef, .undef, .undef, .undef], seg := [(2, .cells [lociV xs, copsV cs]), (3, .cells [vL fs, vL os])], up := [] } : St S))) (fun i3 : Nat => (i3 ≤ xs.length ∧ ∀ j, j < i3 → o2 xs fs j = false)) (fun i3 : Nat => (xs.length - i3)) () ?_ 0 ⟨Nat.zero_le _, fun j hj => absurd hj (Nat.not_lt_zero _)⟩
          intro i3 hinv Z3 hZ3
          obtain ⟨hi3, hj3⟩ := hinv
          conv => whnf
          refine bcase_iff.2 ⟨fun h15 => ?_, fun h15 => ?_⟩
          · skip
            have hlt : i3 < xs.length := by have := of_decide_eq_true h15; omega
            have hw : IntKind.i64.wrap ((i3 : Int) + 1) = ((i3 + 1 : Nat) : Int) := wrap_nat (by omega)
            conv => whnf
            refine ⟨[0, 1, 2, 3, 4, 5, 6, 7, 8, 9, 10, 11, 12, 13, 14, 15, 16, 17, 18, 19, 20], [], [], [], ⟨309485009821345068724781055, [], []⟩, by decide +kernel, ?_⟩
            conv => whnf
            refine ⟨_, getI_nat hlt, ?_⟩
            conv => whnf
            refine bcase_iff.2 ⟨fun g17_7 => ?_, fun g17_7 => ?_⟩
            · skip
              conv => whnf
              refine ⟨_, getI_nat hlt, ?_⟩
              conv => whnf
              refine ⟨_, getI_nat (show i3 < fs.length by omega), ?_⟩
              conv => whnf
              refine bcase_iff.2 ⟨fun h17 => ?_, fun h17 => ?_⟩
              · skip
                have h17 : o2 xs fs i3 = true := by unfold o2; rw [getD_e hlt, getD_e (show i3 < fs.length by omega), show (xs[i3].2 != 0) = true from g17_7]; exact h17
                -- R:FFFFTTT
                conv => whnf
                rw [hE, if_pos (any_yes hlt h17)]
              · skip
                have h17 : o2 xs fs i3 = false := by unfold o2; rw [getD_e hlt, getD_e (show i3 < fs.length by omega), show (xs[i3].2 != 0) = true from g17_7]; exact h17
                -- Z15:TTF
                conv => whnf
                refine ⟨⟨300, [], []⟩, ?_⟩
                conv => whnf
                rw [hw]
                exact hZ3 (i3 + 1) ⟨hlt, up_succ hj3 h17⟩ (by omega)
            · skip
              have h17 : o2 xs fs i3 = false := by unfold o2; rw [getD_e hlt, show (xs[i3].2 != 0) = false from g17_7]; rfl
              -- Z15:TF
              conv => whnf
              refine ⟨⟨300, [], []⟩, ?_⟩
              conv => whnf
              rw [hw]
              exact hZ3 (i3 + 1) ⟨hlt, up_succ hj3 h17⟩ (by omega)
          · skip
            have hge3 : i3 = xs.length := by have := of_decide_eq_false h15; omega
            -- R:FFFFF
            conv => whnf
            rw [hE, any_no (hge3 ▸ hj3)]
            rfl

theorem op53 : Opens PR 53 := ⟨_, Tryd.func53, rfl, rfl⟩


/-! ### All orders -/

def firP (ks : List Int) (b : List Int) (v : Int) : List (List Int) := if (ks.getD b.length 0) == 0 || (ks.getD b.length 0) == v then firR (ks.drop (b.length + 1)) (b ++ [v]) else []
def firU (ks : List Int) (b : List Int) (i : Nat) : List (List Int) := (List.range (i - 1)).flatMap fun t : Nat => firP ks b ((t : Int) + 1)

theorem firU_succ (ks b : List Int) {i : Nat} (h : 1 ≤ i) : firU ks b (i + 1) = firU ks b i ++ firP ks b i := by
  unfold firU
  rw [show i + 1 - 1 = (i - 1) + 1 by omega, List.range_succ, List.flatMap_append, List.flatMap_singleton]
  congr 2; omega

theorem firR_len : ∀ (ks b : List Int), (firR ks b).length ≤ 2 ^ ks.length
  | [], b => by simp [firR]
  | k :: ks, b => by
    have h1 := firR_len ks (b ++ [1])
    have h2 := firR_len ks (b ++ [2])
    simp only [firR, List.flatMap_cons, List.flatMap_nil, List.append_nil, List.length_append, List.length_cons, Nat.pow_succ]
    split <;> split <;> simp <;> omega

theorem firR_U {ks b : List Int} (h : b.length < ks.length) : firR (ks.drop b.length) b = firU ks b 3 := by
  rw [List.drop_eq_getElem_cons h]
  simp only [firR, List.flatMap_cons, List.flatMap_nil, List.append_nil]
  have e : ks[b.length]?.getD 0 = ks[b.length] := by rw [List.getElem?_eq_getElem h]; rfl
  simp [firU, firP, List.range_succ, e]

theorem firU_len {ks b : List Int} (h : ks.length ≤ 5) (i : Nat) : (firU ks b i).length ≤ (i - 1) * 32 := by
  unfold firU
  generalize i - 1 = m
  induction m with
  | zero => simp
  | succ m ih =>
    rw [List.range_succ, List.flatMap_append, List.flatMap_singleton, List.length_append]
    have : (firP ks b ((m : Int) + 1)).length ≤ 32 := by
      unfold firP
      split
      · refine Nat.le_trans (firR_len _ _) (Nat.le_trans (Nat.pow_le_pow_right (by omega) (show (ks.drop (b.length + 1)).length ≤ 5 by simp; omega)) (by decide))
      · simp
    omega

theorem c120s (gl : Gl) (xs : List (ByteArray × Int)) (cs : List (ByteArray × List Int)) (h5x : xs.length ≤ 5) (b : List Int) (hb : b.length ≤ xs.length) (IH : b.length < xs.length → ∀ v : Int, PCalls PR gl 120 [forV xs cs, vL (b ++ [v])] fun r => r = .sl (S := S) U.ints (firR ((xs.map Prod.snd).drop (b.length + 1)) (b ++ [v])) none) : PCalls PR gl 120 [.agg [lociV xs, copsV cs], vL b] fun r => r = .sl (S := S) U.ints (firR ((xs.map Prod.snd).drop b.length) b) none := by
  refine fnW_sound (par_ok gl) Tryd.func120 ?_
  conv => whnf
  refine bcase_iff.2 ⟨fun h1 => ?_, fun h1 => ?_⟩
  · skip
    have he : b.length = xs.length := by have h1 : ((b.length : Int) == xs.length) = true := h1; simp at h1; omega
    conv => whnf
    refine ⟨_, rfl, ?_⟩
    -- R:T
    conv => whnf
    rw [List.drop_eq_nil_of_le (by simp; omega)]
    rfl
  · skip
    have he : b.length < xs.length := by have h1 : ((b.length : Int) == xs.length) = false := h1; simp at h1; omega
    have hek : b.length < (xs.map Prod.snd).length := by simpa using he
    conv => whnf
    refine ⟨⟨102, [4], [4, 5]⟩, ?_⟩
    refine LoopW_ind _ (fun i : Nat => (({ tmps := [.undef, vL b, .own 2 [], .undef, .undef, .sl (S := S) U.ints (firU (xs.map Prod.snd) b i) (some 5), vI i, .undef, .undef, .undef, .undef, .undef, .undef, .undef, .undef, .undef, .undef, .undef, .undef, .undef, .undef, .undef, .undef, .undef, .undef, .undef, .undef, .undef, .undef, .undef, .undef, .undef, .undef, .undef, .undef, .undef, .undef, .undef, .undef, .undef, .undef, .undef, .undef, .undef, .undef], seg := [(2, .cells [lociV xs, copsV cs]), (5, .row U.ints false)], up := [] } : St S))) (fun i : Nat => (1 ≤ i ∧ i ≤ 3)) (fun i : Nat => (3 - i)) () ?_ 1 ⟨Nat.le_refl _, by decide⟩
    intro i hinv Z1 hZ1
    obtain ⟨hi1, hi3⟩ := hinv
    conv => whnf
    refine bcase_iff.2 ⟨fun h5 => ?_, fun h5 => ?_⟩
    · skip
      have hlt : i ≤ 2 := by have := of_decide_eq_true h5; omega
      have hw : IntKind.i64.wrap ((i : Int) + 1) = ((i + 1 : Nat) : Int) := wrap_nat (by omega)
      have hUl := firU_len (b := b) (show (xs.map Prod.snd).length ≤ 5 by simpa using h5x) i
      have hus := firU_succ (xs.map Prod.snd) b hi1
      have hkk : (xs.map Prod.snd).getD b.length 0 = xs[b.length].2 := by rw [getD_e hek]; simp
      conv => whnf
      refine ⟨_, getI_nat he, ?_⟩
      conv => whnf
      refine bcase_iff.2 ⟨fun g8_2 => ?_, fun g8_2 => ?_⟩
      · skip
        have hP : firP (xs.map Prod.snd) b i = firR ((xs.map Prod.snd).drop (b.length + 1)) (b ++ [(i : Int)]) := by unfold firP; rw [hkk, show (xs[b.length].2 == 0) = true from g8_2]; rfl
        conv => whnf
        refine ⟨[0, 1, 2, 3, 5, 4, 6, 7, 8, 9, 10], [0, 1, 4, 6], [7], [38], ⟨35184372088831, [], []⟩, by decide +kernel, ?_⟩
        conv => whnf
        refine ⟨lim (by show b.length ≤ _; omega), ?_⟩
        conv => whnf
        refine ⟨_, rfl, ?_⟩
        conv => whnf
        refine ⟨lim (by simp only [List.length_cons, List.length_nil]; omega), ?_⟩
        conv => whnf
        refine byC (IH he (i : Int)) ⟨_, Tryd.func120, rfl, rfl⟩ ?_
        conv => whnf
        rw [hP] at hus
        conv => whnf
        have hfl := firR_len ((xs.map Prod.snd).drop (b.length + 1)) (b ++ [(i : Int)])
        conv => whnf
        have hfp : 2 ^ ((xs.map Prod.snd).drop (b.length + 1)).length ≤ 2 ^ 5 := Nat.pow_le_pow_right (by omega) (by simp; omega)
        conv => whnf
        have hll : (firU (xs.map Prod.snd) b i).length + (firR ((xs.map Prod.snd).drop (b.length + 1)) (b ++ [(i : Int)])).length ≤ LIM := lim (by omega)
        conv => whnf
        refine ⟨hll, ?_⟩
        -- Z5:TT
        conv => whnf
        refine ⟨⟨102, [38, 40, 41, 43], []⟩, ?_⟩
        conv => whnf
        rw [hw, ← hus]
        exact hZ1 (i + 1) ⟨by omega, by omega⟩ (by omega)
      · skip
        conv => whnf
        refine bcase_iff.2 ⟨fun h8 => ?_, fun h8 => ?_⟩
        · skip
          have hP : firP (xs.map Prod.snd) b i = firR ((xs.map Prod.snd).drop (b.length + 1)) (b ++ [(i : Int)]) := by unfold firP; rw [hkk, show (xs[b.length].2 == 0) = false from g8_2, show (xs[b.length].2 == (i : Int)) = true from h8]; rfl
          conv => whnf
          refine ⟨[0, 1, 2, 3, 5, 4, 6, 7, 8, 9, 10], [0, 1, 4, 6], [7], [38], ⟨35184372088831, [], []⟩, by decide +kernel, ?_⟩
          conv => whnf
          refine ⟨lim (by show b.length ≤ _; omega), ?_⟩
          conv => whnf
          refine ⟨_, rfl, ?_⟩
          conv => whnf
          refine ⟨lim (by simp only [List.length_cons, List.length_nil]; omega), ?_⟩
          conv => whnf
          refine byC (IH he (i : Int)) ⟨_, Tryd.func120, rfl, rfl⟩ ?_
          conv => whnf
          rw [hP] at hus
          conv => whnf
          have hfl := firR_len ((xs.map Prod.snd).drop (b.length + 1)) (b ++ [(i : Int)])
          conv => whnf
          have hfp : 2 ^ ((xs.map Prod.snd).drop (b.length + 1)).length ≤ 2 ^ 5 := Nat.pow_le_pow_right (by omega) (by simp; omega)
          conv => whnf
          have hll : (firU (xs.map Prod.snd) b i).length + (firR ((xs.map Prod.snd).drop (b.length + 1)) (b ++ [(i : Int)])).length ≤ LIM := lim (by omega)
          conv => whnf
          refine ⟨hll, ?_⟩
          -- Z5:TFT
          conv => whnf
          refine ⟨⟨102, [38, 40, 41, 43], []⟩, ?_⟩
          conv => whnf
          rw [hw, ← hus]
          exact hZ1 (i + 1) ⟨by omega, by omega⟩ (by omega)
        · skip
          have hP : firP (xs.map Prod.snd) b i = [] := by unfold firP; rw [hkk, show (xs[b.length].2 == 0) = false from g8_2, show (xs[b.length].2 == (i : Int)) = false from h8]; rfl
          -- Z5:TFF
          conv => whnf
          refine ⟨⟨102, [38, 40, 41, 43], []⟩, ?_⟩
          conv => whnf
          rw [hP, List.append_nil] at hus
          rw [hw, ← hus]
          exact hZ1 (i + 1) ⟨by omega, by omega⟩ (by omega)
    · skip
      have hge : i = 3 := by have := of_decide_eq_false h5; omega
      -- R:FF
      conv => whnf
      rw [firR_U hek, hge]

theorem op120 : Opens PR 120 := ⟨_, Tryd.func120, rfl, rfl⟩


theorem c120 (gl : Gl) (xs : List (ByteArray × Int)) (cs : List (ByteArray × List Int)) (h5 : xs.length ≤ 5) : ∀ (m : Nat) (b : List Int), b.length + m = xs.length →
    PCalls PR gl 120 [forV xs cs, vL b] fun r => r = .sl (S := S) U.ints (firR ((xs.map Prod.snd).drop b.length) b) none
  | 0, b, h => c120s gl xs cs h5 b (by omega) fun hl => by omega
  | m + 1, b, h => c120s gl xs cs h5 b (by omega) fun _ v => by
    have := c120 gl xs cs h5 m (b ++ [v]) (by simp; omega)
    rwa [List.length_append, List.length_singleton] at this

def rowP (n : Nat) (p : List Nat) (k : Nat) : List (List Nat) := if p.contains k then [] else rowsR n (n - (p.length + 1)) (p ++ [k])
def rowU (n : Nat) (p : List Nat) (i : Nat) : List (List Nat) := (List.range i).flatMap (rowP n p)

theorem rowU_succ (n : Nat) (p : List Nat) (i : Nat) : rowU n p (i + 1) = rowU n p i ++ rowP n p i := by
  unfold rowU
  rw [List.range_succ, List.flatMap_append, List.flatMap_singleton]

theorem rowR_U {n : Nat} {p : List Nat} (h : p.length < n) : rowsR n (n - p.length) p = rowU n p n := by
  rw [show n - p.length = (n - (p.length + 1)) + 1 by omega, rowsR]
  rfl

theorem rowsR_len {n : Nat} : ∀ (m : Nat) (p : List Nat), (rowsR n m p).length ≤ n ^ m
  | 0, p => by simp [rowsR]
  | m + 1, p => by
    have : ∀ l : List Nat, (l.flatMap fun k => if p.contains k then [] else rowsR n m (p ++ [k])).length ≤ l.length * n ^ m := fun l => by
      induction l with
      | nil => simp
      | cons k l ih =>
        rw [List.flatMap_cons, List.length_append, List.length_cons, Nat.succ_mul]
        have : (if p.contains k then [] else rowsR n m (p ++ [k])).length ≤ n ^ m := by
          split
          · exact Nat.zero_le _
          · exact rowsR_len m _
        omega
    have := this (List.range n)
    rw [rowsR]
    rw [List.length_range] at this
    rw [Nat.pow_succ, Nat.mul_comm]
    exact this

theorem pow5 {n m : Nat} (h : n ≤ 5) (hm : m ≤ 5) : n ^ m ≤ 3125 := Nat.le_trans (Nat.pow_le_pow_left h m) (Nat.le_trans (Nat.pow_le_pow_right (by omega) hm) (by decide))

theorem rowP_len {n : Nat} (h : n ≤ 5) (p : List Nat) (k : Nat) : (rowP n p k).length ≤ 3125 := by
  unfold rowP
  split
  · exact Nat.zero_le _
  · exact Nat.le_trans (rowsR_len _ _) (pow5 h (by omega))

theorem rowU_len {n : Nat} (h : n ≤ 5) (p : List Nat) : ∀ i, (rowU n p i).length ≤ i * 3125
  | 0 => by simp [rowU]
  | i + 1 => by
    have h1 := rowU_len h p i
    have h2 := rowP_len h p i
    rw [rowU_succ, List.length_append]; omega

theorem nats_has (p : List Nat) (k : Nat) : (natsV p).any (fun x => x == (k : Int)) = p.contains k := by
  rw [Bool.eq_iff_iff, List.any_eq_true, List.contains_iff_mem]
  constructor
  · rintro ⟨x, hx, h⟩
    obtain ⟨q, hq, rfl⟩ := List.mem_map.1 hx
    have : (q : Int) = k := by simpa using h
    have : q = k := by omega
    exact this ▸ hq
  · intro h
    exact ⟨(k : Int), List.mem_map_of_mem h, by simp⟩

theorem nats_snoc (p : List Nat) (k : Nat) : natsV (p ++ [k]) = natsV p ++ [(k : Int)] := by simp [natsV]

theorem c121s (gl : Gl) {n : Nat} (h5x : n ≤ 5) (p : List Nat) (hp : p.length ≤ n) (IH : p.length < n → ∀ k : Nat, PCalls PR gl 121 [vL (natsV p ++ [(k : Int)]), vI n] fun r => r = .sl (S := S) U.ints ((rowsR n (n - (p.length + 1)) (p ++ [k])).map natsV) none) : PCalls PR gl 121 [vL (natsV p), vI n] fun r => r = .sl (S := S) U.ints ((rowsR n (n - p.length) p).map natsV) none := by
  have hnl : (natsV p).length = p.length := by simp
  refine fnW_sound (par_ok gl) Tryd.func121 ?_
  conv => whnf
  refine bcase_iff.2 ⟨fun h1 => ?_, fun h1 => ?_⟩
  · skip
    have he : p.length = n := by have h1 : (((natsV p).length : Int) == n) = true := h1; simp at h1; omega
    conv => whnf
    refine ⟨_, rfl, ?_⟩
    -- R:T
    conv => whnf
    rw [show n - p.length = 0 by omega]
    rfl
  · skip
    have he : p.length < n := by have h1 : (((natsV p).length : Int) == n) = false := h1; simp at h1; omega
    conv => whnf
    refine ⟨⟨99, [4], [4, 5]⟩, ?_⟩
    refine LoopW_ind _ (fun i : Nat => (({ tmps := [vL (natsV p), vI n, .undef, .undef, .undef, .sl (S := S) U.ints ((rowU n p i).map natsV) (some 5), vI i, .undef, .undef, .undef, .undef, .undef, .undef, .undef, .undef, .undef, .undef, .undef, .undef, .undef, .undef, .undef, .undef, .undef, .undef, .undef, .undef, .undef, .undef, .undef, .undef, .undef, .undef], seg := [(5, .row U.ints false)], up := [] } : St S))) (fun i : Nat => (i ≤ n)) (fun i : Nat => (n - i)) () ?_ 0 (Nat.zero_le _)
    intro i hi Z1 hZ1
    conv => whnf
    refine bcase_iff.2 ⟨fun h5 => ?_, fun h5 => ?_⟩
    · skip
      have hlt : i < n := by have := of_decide_eq_true h5; omega
      have hw : IntKind.i64.wrap ((i : Int) + 1) = ((i + 1 : Nat) : Int) := wrap_nat (by omega)
      conv => whnf
      refine byC (c52 gl (natsV p) (by omega) i) op52 ?_
      conv => whnf
      refine bcase_iff.2 ⟨fun h7 => ?_, fun h7 => ?_⟩
      · skip
        have h7 : (!(natsV p).any (fun x => x == (i : Int))) = true := h7
        rw [nats_has] at h7
        have hus : (rowU n p (i + 1)).map natsV = (rowU n p i).map natsV ++ (rowsR n (n - (p.length + 1)) (p ++ [i])).map natsV := by rw [rowU_succ, List.map_append]; unfold rowP; rw [if_neg (by simpa using h7)]
        conv => whnf
        refine ⟨lim (by show (natsV p).length ≤ _; omega), false, ?_⟩
        conv => whnf
        refine ⟨_, rfl, ?_⟩
        conv => whnf
        refine ⟨lim (by simp only [List.length_cons, List.length_nil]; omega), ?_⟩
        conv => whnf
        refine byC (IH he i) ⟨_, Tryd.func121, rfl, rfl⟩ ?_
        conv => whnf
        have hl1 := rowU_len h5x p i
        conv => whnf
        have hl2 := rowsR_len (n := n) (n - (p.length + 1)) (p ++ [i])
        conv => whnf
        have hl3 := pow5 h5x (show n - (p.length + 1) ≤ 5 by omega)
        conv => whnf
        have hll : ((rowU n p i).map natsV).length + ((rowsR n (n - (p.length + 1)) (p ++ [i])).map natsV).length ≤ LIM := lim (by rw [List.length_map, List.length_map]; omega)
        conv => whnf
        refine ⟨hll, ?_⟩
        -- Z5:TT
        conv => whnf
        refine ⟨⟨99, [25, 27, 28, 31], []⟩, ?_⟩
        conv => whnf
        rw [hw, ← hus]
        exact hZ1 (i + 1) hlt (by omega)
      · skip
        have h7 : (!(natsV p).any (fun x => x == (i : Int))) = false := h7
        rw [nats_has] at h7
        have hus : (rowU n p (i + 1)).map natsV = (rowU n p i).map natsV := by rw [rowU_succ, List.map_append]; unfold rowP; rw [if_pos (by simpa using h7)]; simp
        -- Z5:TF
        conv => whnf
        refine ⟨⟨99, [25, 27, 28, 31], []⟩, ?_⟩
        conv => whnf
        rw [hw, ← hus]
        exact hZ1 (i + 1) hlt (by omega)
    · skip
      have hge : i = n := by have := of_decide_eq_false h5; omega
      -- R:FF
      conv => whnf
      rw [hge, rowR_U he]

theorem op121 : Opens PR 121 := ⟨_, Tryd.func121, rfl, rfl⟩


theorem c121 (gl : Gl) {n : Nat} (h5 : n ≤ 5) : ∀ (m : Nat) (p : List Nat), p.length + m = n →
    PCalls PR gl 121 [vL (natsV p), vI n] fun r => r = .sl (S := S) U.ints ((rowsR n (n - p.length) p).map natsV) none
  | 0, p, h => c121s gl h5 p (by omega) fun hl => by omega
  | m + 1, p, h => c121s gl h5 p (by omega) fun _ k => by
    have := c121 gl h5 m (p ++ [k]) (by simp; omega)
    rwa [List.length_append, List.length_singleton, nats_snoc] at this

def allU (A B : List (List Int)) (i : Nat) : List (List Int × List Int) := (A.take i).flatMap fun a => B.map fun b => (a, b)
def allV (A B : List (List Int)) (i k : Nat) : List (List Int × List Int) := allU A B i ++ (B.take k).map fun b => (A.getD i [], b)

theorem allU_succ {A B : List (List Int)} {i : Nat} (h : i < A.length) : allU A B (i + 1) = allV A B i B.length := by
  unfold allU allV
  rw [take_succ' h, List.flatMap_append, List.flatMap_singleton, List.take_length, getD_e h]
  rfl
theorem allV_succ {A B : List (List Int)} {i k : Nat} (hi : i < A.length) (h : k < B.length) : allV A B i (k + 1) = allV A B i k ++ [(A[i], B[k])] := by
  unfold allV
  rw [take_succ' h, List.map_append, ← List.append_assoc, getD_e hi]
  rfl
theorem allV_zero (A B : List (List Int)) (i : Nat) : allV A B i 0 = allU A B i := by simp [allV]
theorem allU_len (A B : List (List Int)) : ∀ i, (allU A B i).length ≤ i * B.length := fun i => by
  unfold allU
  have : ∀ l : List (List Int), (l.flatMap fun a => B.map fun b => (a, b)).length = l.length * B.length := fun l => by
    induction l with
    | nil => simp
    | cons a l ih => rw [List.flatMap_cons, List.length_append, ih, List.length_map, List.length_cons, Nat.succ_mul, Nat.add_comm]
  rw [this]
  exact Nat.mul_le_mul_right _ (by simp; omega)
theorem allV_len (A B : List (List Int)) (i k : Nat) : (allV A B i k).length ≤ (i + 1) * B.length := by
  have := allU_len A B i
  unfold allV
  rw [List.length_append, List.length_map, Nat.succ_mul]
  have : (B.take k).length ≤ B.length := by simp; omega
  omega

theorem c93s (gl : Gl) (xs : List (ByteArray × Int)) (cs : List (ByteArray × List Int)) (A B : List (List Int)) (hA : PCalls PR gl 120 [forV xs cs, vL []] fun r => r = .sl (S := S) U.ints A none) (hB : PCalls PR gl 121 [vL [], vI xs.length] fun r => r = .sl (S := S) U.ints B none) (hAl : A.length ≤ 32) (hBl : B.length ≤ 3125) : PCalls PR gl 93 [.agg [lociV xs, copsV cs]] fun r => r = .sl (S := S) U.order (allU A B A.length) none := by
  refine fnW_sound (par_ok gl) Tryd.func93 ?_
  conv => whnf
  refine ⟨[0, 2, 3, 4, 1, 5, 6, 7], [], [], [], ⟨549755813887, [], []⟩, by decide +kernel, ?_⟩
  conv => whnf
  refine byC hA op120 ?_
  conv => whnf
  refine byC hB op121 ?_
  conv => whnf
  refine loop_q fun Q1 hQ1 => ?_
  refine ⟨⟨120, [1, 2], [2, 3]⟩, ?_⟩
  refine LoopW_ind _ (fun i : Nat => (({ tmps := [.undef, .undef, .undef, .sl (S := S) U.order (allU A B i) (some 3), .sl (S := S) U.ints A none, .sl (S := S) U.ints B none, vI i, .undef, .undef, .undef, .undef, .undef, .undef, .undef, .undef, .undef, .undef, .undef, .undef, .undef, .undef, .undef, .undef, .undef, .undef, .undef, .undef, .undef, .undef, .undef, .undef, .undef, .undef, .undef, .undef, .undef, .undef, .undef, .undef], seg := [(3, .row U.order false)], up := [] } : St S))) (fun i : Nat => (i ≤ A.length)) (fun i : Nat => (A.length - i)) () ?_ 0 (Nat.zero_le _)
  intro i hi Z1 hZ1
  conv => whnf
  refine bcase_iff.2 ⟨fun h4 => ?_, fun h4 => ?_⟩
  · skip
    have hlt : i < A.length := by have := of_decide_eq_true h4; omega
    have hw : IntKind.i64.wrap ((i : Int) + 1) = ((i + 1 : Nat) : Int) := wrap_nat (by omega)
    conv => whnf
    rw [← allV_zero]
    refine loop_q fun Q2 hQ2 => ?_
    refine ⟨⟨248, [], []⟩, ?_⟩
    refine LoopW_ind _ (fun k : Nat => (({ tmps := [.undef, .undef, .undef, .sl (S := S) U.order (allV A B i k) (some 3), .sl (S := S) U.ints A none, .sl (S := S) U.ints B none, vI i, vI k, .undef, .undef, .undef, .undef, .undef, .undef, .undef, .undef, .undef, .undef, .undef, .undef, .undef, .undef, .undef, .undef, .undef, .undef, .undef, .undef, .undef, .undef, .undef, .undef, .undef, .undef, .undef, .undef, .undef, .undef, .undef], seg := [(3, .row U.order false)], up := [] } : St S))) (fun k : Nat => (k ≤ B.length)) (fun k : Nat => (B.length - k)) () ?_ 0 (Nat.zero_le _)
    intro k hi Z2 hZ2
    conv => whnf
    refine bcase_iff.2 ⟨fun h7 => ?_, fun h7 => ?_⟩
    · skip
      have hlt2 : k < B.length := by have := of_decide_eq_true h7; omega
      have hw2 : IntKind.i64.wrap ((k : Int) + 1) = ((k + 1 : Nat) : Int) := wrap_nat (by omega)
      conv => whnf
      refine ⟨[0, 1, 2, 3, 4, 5, 6, 7, 8, 9, 10, 11, 12], [10], [], [], ⟨549755813887, [], []⟩, by decide +kernel, ?_⟩
      conv => whnf
      refine ⟨_, getI_nat hlt, ?_⟩
      conv => whnf
      refine ⟨_, getI_nat hlt2, ?_⟩
      conv => whnf
      refine ⟨_, rfl, ?_⟩
      conv => whnf
      have hl1 := allV_len A B i k
      conv => whnf
      have hl2 : (i + 1) * B.length ≤ 33 * 3125 := Nat.mul_le_mul (by omega) hBl
      conv => whnf
      have hll : (allV A B i k).length + [(A[i], B[k])].length ≤ LIM := lim (by simp only [List.length_cons, List.length_nil]; omega)
      conv => whnf
      refine ⟨hll, ?_⟩
      -- Z7:T
      conv => whnf
      refine ⟨⟨248, [36, 37], []⟩, ?_⟩
      conv => whnf
      rw [hw2, ← allV_succ hlt hlt2]
      exact hZ2 (k + 1) hlt2 (by omega)
    · skip
      have hge2 : k = B.length := by have := of_decide_eq_false h7; omega
      conv => whnf
      refine (hQ2 _ _ _).mpr ?_
      -- Z4:TF
      conv => whnf
      refine ⟨⟨120, [36, 37], []⟩, ?_⟩
      conv => whnf
      rw [hw, hge2, ← allU_succ hlt]
      exact hZ1 (i + 1) hlt (by omega)
  · skip
    have hge : i = A.length := by have := of_decide_eq_false h4; omega
    conv => whnf
    refine (hQ1 _ _ _).mpr ?_
    -- R:F
    conv => whnf
    rw [hge]

theorem op93 : Opens PR 93 := ⟨_, Tryd.func93, rfl, rfl⟩

end Go.Ab.StF

namespace Go.Ab.StF
open Go Go.Ab Go.Proofs
set_option maxHeartbeats 1000000
set_option maxRecDepth 100000

abbrev ordsV (l : List (List Int × List Int)) : AV S := .sl (S := S) U.order l none

theorem ft_T {α : Type} {p : α → Bool} {l : List α} {i : Nat} (h : i < l.length) (hp : p l[i] = true) : (l.take (i + 1)).filter p = (l.take i).filter p ++ [l[i]] := by
  rw [take_succ' h, List.filter_append]; simp [hp]
theorem ft_F {α : Type} {p : α → Bool} {l : List α} {i : Nat} (h : i < l.length) (hp : p l[i] = false) : (l.take (i + 1)).filter p = (l.take i).filter p := by
  rw [take_succ' h, List.filter_append]; simp [hp]
theorem ft_len {α : Type} (p : α → Bool) (l : List α) (i : Nat) : ((l.take i).filter p).length ≤ l.length := Nat.le_trans (List.length_filter_le _ _) (by simp; omega)

theorem allU_all (A B : List (List Int)) : allU A B A.length = A.flatMap fun a => B.map fun b => (a, b) := by
  unfold allU; rw [List.take_length]

theorem allL_U (xs : List (ByteArray × Int)) : allU (firR (xs.map Prod.snd) []) ((rowsR xs.length xs.length []).map natsV) (firR (xs.map Prod.snd) []).length = allL xs := by
  rw [allU_all]
  unfold allL
  congr 1
  funext a
  rw [List.map_map]
  rfl

theorem fir_len {xs : List (ByteArray × Int)} (h : xs.length ≤ 5) : (firR (xs.map Prod.snd) []).length ≤ 32 :=
  Nat.le_trans (firR_len _ _) (Nat.le_trans (Nat.pow_le_pow_right (by omega) (show (xs.map Prod.snd).length ≤ 5 by simpa using h)) (by decide))
theorem row_len {n : Nat} (h : n ≤ 5) : ((rowsR n n []).map natsV).length ≤ 3125 := by
  rw [List.length_map]; exact Nat.le_trans (rowsR_len n []) (pow5 h h)

theorem c93 (gl : Gl) (xs : List (ByteArray × Int)) (cs : List (ByteArray × List Int)) (h5 : xs.length ≤ 5) : PCalls PR gl 93 [forV xs cs] fun r => r = ordsV (allL xs) := by
  rw [← allL_U]
  exact c93s gl xs cs _ _ (c120 gl xs cs h5 xs.length [] (by simp)) (by have := c121 gl h5 xs.length [] (by simp); exact this) (fir_len h5) (row_len h5)

theorem allL_len {xs : List (ByteArray × Int)} (h : xs.length ≤ 5) : (allL xs).length ≤ 100000 := by
  rw [← allL_U]
  have h1 := allU_len (firR (xs.map Prod.snd) []) ((rowsR xs.length xs.length []).map natsV) (firR (xs.map Prod.snd) []).length
  have h2 := fir_len h
  have h3 := row_len h
  exact Nat.le_trans h1 (Nat.mul_le_mul h2 h3)

theorem firR_vals : ∀ (ks b : List Int), (∀ v ∈ b, v = 1 ∨ v = 2) → ∀ f ∈ firR ks b, f.length = b.length + ks.length ∧ ∀ v ∈ f, v = 1 ∨ v = 2
  | [], b, hb, f, hf => by
    simp only [firR, List.mem_singleton] at hf
    subst hf
    exact ⟨rfl, hb⟩
  | k :: ks, b, hb, f, hf => by
    simp only [firR, List.mem_flatMap] at hf
    obtain ⟨v, hv, hf⟩ := hf
    split at hf
    · have hb' : ∀ x ∈ b ++ [v], x = 1 ∨ x = 2 := fun x hx => by
        rcases List.mem_append.1 hx with hx | hx
        · exact hb x hx
        · simp only [List.mem_singleton] at hx
          subst hx
          simpa using hv
      obtain ⟨h1, h2⟩ := firR_vals ks (b ++ [v]) hb' f hf
      refine ⟨?_, h2⟩
      rw [h1]; simp; omega
    · cases hf

/-- An order of a forme. -/
structure OrdL (xs : List (ByteArray × Int)) (o : List Int × List Int) (os : List Nat) : Prop where
  l : o.1.length = xs.length
  v : ∀ v ∈ o.1, v = 1 ∨ v = 2
  osE : o.2 = natsV os
  perm : Perm xs.length os

theorem allL_ord {xs : List (ByteArray × Int)} {o : List Int × List Int} (h : o ∈ allL xs) : ∃ os, OrdL xs o os := by
  simp only [allL, List.mem_flatMap, List.mem_map] at h
  obtain ⟨f, hf, os, hos, rfl⟩ := h
  obtain ⟨h1, h2⟩ := firR_vals _ _ (fun v hv => by cases hv) f hf
  exact ⟨os, by simpa using h1, h2, rfl, rowsR_perm hos⟩

theorem OrdL.ok {xs : List (ByteArray × Int)} {o : List Int × List Int} {os : List Nat} (h : OrdL xs o os) (h5 : xs.length ≤ 5) : OkO xs.length o :=
  ⟨h.l, by rw [h.osE]; simpa using h.perm.len, fun v hv => by rcases h.v v hv with h | h <;> omega, h5⟩

theorem allL_ok {xs : List (ByteArray × Int)} (h5 : xs.length ≤ 5) {o : List Int × List Int} (h : o ∈ allL xs) : OkO xs.length o := by
  obtain ⟨os, ho⟩ := allL_ord h
  exact ho.ok h5

theorem c118 (gl : Gl) {xs : List (ByteArray × Int)} {cs : List (ByteArray × List Int)} (hv : Valid xs cs) : PCalls PR gl 118 [.agg [lociV xs, copsV cs]] fun r => r = ordsV (agrL xs cs) := by
  have h5x := hv.l5
  have hL := allL_len h5x
  have hok : ∀ o ∈ allL xs, OkO xs.length o := fun o h => allL_ok h5x h
  have h93 := c93 gl xs cs h5x
  unfold agrL
  generalize allL xs = L at hL hok h93 ⊢
  refine fnW_sound (par_ok gl) Tryd.func118 ?_
  conv => whnf
  refine byC h93 op93 ?_
  conv => whnf
  refine ⟨⟨58, [2], [2, 4]⟩, ?_⟩
  refine LoopW_ind _ (fun i : Nat => (({ tmps := [.undef, .own 1 [], .undef, ordsV L, .sl (S := S) U.order ((L.take i).filter fun o => (amidL cs o).isEmpty) (some 4), vI i, .undef, .undef, .undef, .undef, .undef, .undef, .undef, .undef, .undef, .undef, .undef, .undef, .undef, .undef, .undef, .undef, .undef, .undef, .undef, .undef, .undef, .undef, .undef, .undef], seg := [(1, .cells [lociV xs, copsV cs]), (4, .row U.order false)], up := [] } : St S))) (fun i : Nat => (i ≤ L.length)) (fun i : Nat => (L.length - i)) () ?_ 0 (Nat.zero_le _)
  intro i hi Z1 hZ1
  conv => whnf
  refine bcase_iff.2 ⟨fun h4 => ?_, fun h4 => ?_⟩
  · skip
    have hlt : i < L.length := by have := of_decide_eq_true h4; omega
    have hw : IntKind.i64.wrap ((i : Int) + 1) = ((i + 1 : Nat) : Int) := wrap_nat (by omega)
    conv => whnf
    refine ⟨[0, 1, 2, 3, 4, 5, 6, 7], [], [], [], ⟨1073741823, [], []⟩, by decide +kernel, ?_⟩
    conv => whnf
    refine ⟨_, getI_nat hlt, ?_⟩
    conv => whnf
    refine byC (c74 gl hv L[i] (hok _ (List.getElem_mem hlt))) op74 ?_
    conv => whnf
    refine bcase_iff.2 ⟨fun h6 => ?_, fun h6 => ?_⟩
    · skip
      have h6 : (amidL cs L[i]).isEmpty = true := by rw [← len_empty]; exact h6
      conv => whnf
      refine ⟨_, getI_nat hlt, ?_⟩
      conv => whnf
      refine ⟨_, rfl, ?_⟩
      conv => whnf
      have hll : ((L.take i).filter fun o => (amidL cs o).isEmpty).length + [L[i]].length ≤ LIM := lim (by have := ft_len (fun o => (amidL cs o).isEmpty) L i; simp only [List.length_cons, List.length_nil]; omega)
      conv => whnf
      refine ⟨hll, ?_⟩
      -- Z4:TT
      conv => whnf
      refine ⟨⟨58, [27, 28], []⟩, ?_⟩
      conv => whnf
      rw [hw]
      have hs := ft_T (p := fun o => (amidL cs o).isEmpty) hlt h6
      have := hZ1 (i + 1) hlt (by omega)
      rw [hs] at this
      exact this
    · skip
      have h6 : (amidL cs L[i]).isEmpty = false := by rw [← len_empty]; exact h6
      -- Z4:TF
      conv => whnf
      refine ⟨⟨58, [27, 28], []⟩, ?_⟩
      conv => whnf
      rw [hw]
      have hs := ft_F (p := fun o => (amidL cs o).isEmpty) hlt h6
      have := hZ1 (i + 1) hlt (by omega)
      rw [hs] at this
      exact this
  · skip
    have hge : i = L.length := by have := of_decide_eq_false h4; omega
    -- R:F
    conv => whnf
    rw [hge, List.take_length]

theorem op118 : Opens PR 118 := ⟨_, Tryd.func118, rfl, rfl⟩


/-! ### New words -/

theorem idx_at {α : Type} (p : α → Bool) : ∀ (l : List α) (i k : Nat) (h : i < l.length), (∀ j (hj : j < i), p (l[j]'(by omega)) = false) → p l[i] = true → idx p l k = ((k + i : Nat) : Int)
  | [], i, k, h, _, _ => by simp at h
  | x :: l, 0, k, h, _, hp => by simp only [idx]; rw [if_pos (by simpa using hp)]; rfl
  | x :: l, i + 1, k, h, hn, hp => by
    simp only [idx]
    have h0 : p x = false := hn 0 (by omega)
    rw [h0, if_neg (by simp), idx_at p l i (k + 1) (by simpa using h) (fun j hj => hn (j + 1) (by omega)) (by simpa using hp)]
    congr 1; omega
theorem idx_no {α : Type} (p : α → Bool) : ∀ (l : List α) (k : Nat), (∀ x ∈ l, p x = false) → idx p l k = -1
  | [], k, _ => rfl
  | x :: l, k, h => by
    simp only [idx]
    rw [h x (List.mem_cons_self ..), if_neg (by simp), idx_no p l (k + 1) fun y hy => h y (List.mem_cons_of_mem _ hy)]

abbrev strsV (l : List ByteArray) : AV S := .sl (S := S) U.str l none

theorem wrap_m1 {m : Nat} (h : m ≤ 9223372036854775807) : IntKind.i64.wrap ((m : Int) - 1) = (m : Int) - 1 := wrap_int (by omega) (by omega)

theorem c113 (gl : Gl) (l : List ByteArray) (hl : l.length ≤ 9223372036854775807) (w : ByteArray) : PCalls PR gl 113 [strsV l, .str w] fun r => r = vI (idx (fun x => strEq x w) l 0) := by
  refine fnW_sound (par_ok gl) Tryd.func113 ?_
  conv => whnf
  rw [wrap_m1 hl]
  refine ⟨⟨35, [], []⟩, ?_⟩
  refine LoopW_ind _ (fun m : Nat => (({ tmps := [strsV l, .str w, .undef, .undef, .undef, vI ((m : Int) - 1), .undef, .undef, .undef, .undef, .undef, .undef, .undef, .undef, .undef, .undef, .undef, .undef, .undef, .undef, .undef, .undef, .undef, .undef, .undef, .undef, .undef, .undef, .undef, .undef, .undef, .undef, .undef, .undef, .undef], seg := [], up := [] } : St S))) (fun m : Nat => (m ≤ l.length ∧ ∀ j (hj : j < l.length), m ≤ j → strEq l[j] w = false)) (fun m : Nat => (m)) () ?_ l.length ⟨Nat.le_refl _, fun j hj h => absurd h (by omega)⟩
  intro m hinv Z1 hZ1
  obtain ⟨hm, hj⟩ := hinv
  conv => whnf
  refine bcase_iff.2 ⟨fun g2_2 => ?_, fun g2_2 => ?_⟩
  · skip
    have hm1 : 1 ≤ m := by have := of_decide_eq_true g2_2; omega
    conv => whnf
    refine ⟨l[m - 1]'(by omega), (by rw [show ((m : Int) - 1) = ((m - 1 : Nat) : Int) by omega]; exact getI_nat (show m - 1 < l.length by omega)), ?_⟩
    conv => whnf
    refine bcase_iff.2 ⟨fun h2 => ?_, fun h2 => ?_⟩
    · skip
      have h2 : strEq (l[m - 1]'(by omega)) w = false := by have h2 : (!strEq (l[m - 1]'(by omega)) w) = true := h2; simpa using h2
      -- Z2:TT
      conv => whnf
      refine ⟨⟨35, [], []⟩, ?_⟩
      conv => whnf
      rw [show IntKind.i64.wrap ((m : Int) - 1 - 1) = ((m - 1 : Nat) : Int) - 1 by rw [wrap_int (by omega) (by omega)]; omega]
      exact hZ1 (m - 1) ⟨by omega, fun j hj2 h => by
        by_cases e : j = m - 1
        · subst e; exact h2
        · exact hj j hj2 (by omega)⟩ (by omega)
    · skip
      have h2 : strEq (l[m - 1]'(by omega)) w = true := by have h2 : (!strEq (l[m - 1]'(by omega)) w) = false := h2; simpa using h2
      have hR : (∀ j (hj : j < l.length), (j : Int) < (m : Int) - 1 → strEq l[j] w = false) → idx (fun x => strEq x w) l 0 = (m : Int) - 1 := fun hn => by
        rw [idx_at _ l (m - 1) 0 (by omega) (fun j hj2 => hn j (by omega) (by omega)) h2]
        omega
      conv => whnf
      refine ⟨⟨99, [], []⟩, ?_⟩
      refine LoopW_ind _ (fun i : Nat => (({ tmps := [strsV l, .str w, .undef, .undef, .undef, vI ((m : Int) - 1), vI i, .undef, .undef, .undef, .undef, .undef, .undef, .undef, .undef, .undef, .undef, .undef, .undef, .undef, .undef, .undef, .undef, .undef, .undef, .undef, .undef, .undef, .undef, .undef, .undef, .undef, .undef, .undef, .undef], seg := [], up := [] } : St S))) (fun i : Nat => (i ≤ l.length ∧ ∀ j (hj : j < l.length), j < i → strEq l[j] w = false)) (fun i : Nat => (l.length - i)) () ?_ 0 ⟨Nat.zero_le _, fun j hj h => absurd h (by omega)⟩
      intro i hinv Z2 hZ2
      obtain ⟨hi, hn⟩ := hinv
      conv => whnf
      refine bcase_iff.2 ⟨fun h5 => ?_, fun h5 => ?_⟩
      · skip
        have hlt : (i : Int) < (m : Int) - 1 := of_decide_eq_true h5
        have hil : i < l.length := by omega
        have hw : IntKind.i64.wrap ((i : Int) + 1) = ((i + 1 : Nat) : Int) := wrap_nat (by omega)
        conv => whnf
        refine ⟨_, getI_nat hil, ?_⟩
        conv => whnf
        refine bcase_iff.2 ⟨fun h7 => ?_, fun h7 => ?_⟩
        · skip
          have h7 : strEq l[i] w = true := h7
          -- R:TFTT
          conv => whnf
          rw [idx_at _ l i 0 hil (fun j hj2 => hn j (by omega) hj2) h7, Nat.zero_add]
        · skip
          have h7 : strEq l[i] w = false := h7
          -- Z5:TF
          conv => whnf
          refine ⟨⟨99, [], []⟩, ?_⟩
          conv => whnf
          rw [hw]
          exact hZ2 (i + 1) ⟨hil, fun j hj2 h => by
            by_cases e : j = i
            · subst e; exact h7
            · exact hn j hj2 (by omega)⟩ (by omega)
      · skip
        have hge : ¬ (i : Int) < (m : Int) - 1 := of_decide_eq_false h5
        -- R:TFF
        conv => whnf
        rw [hR fun j hj2 h => hn j hj2 (by omega)]
  · skip
    have hm0 : m = 0 := by have := of_decide_eq_false g2_2; omega
    have hR : (∀ j (hj : j < l.length), (j : Int) < (m : Int) - 1 → strEq l[j] w = false) → idx (fun x => strEq x w) l 0 = (m : Int) - 1 := fun _ => by
      rw [idx_no _ _ _ fun x hx => ?_, hm0]
      · rfl
      · obtain ⟨j, hj2, rfl⟩ := List.mem_iff_getElem.1 hx
        exact hj j hj2 (by omega)
    conv => whnf
    refine ⟨⟨99, [], []⟩, ?_⟩
    refine LoopW_ind _ (fun i : Nat => (({ tmps := [strsV l, .str w, .undef, .undef, .undef, vI ((m : Int) - 1), vI i, .undef, .undef, .undef, .undef, .undef, .undef, .undef, .undef, .undef, .undef, .undef, .undef, .undef, .undef, .undef, .undef, .undef, .undef, .undef, .undef, .undef, .undef, .undef, .undef, .undef, .undef, .undef, .undef], seg := [], up := [] } : St S))) (fun i : Nat => (i ≤ l.length ∧ ∀ j (hj : j < l.length), j < i → strEq l[j] w = false)) (fun i : Nat => (l.length - i)) () ?_ 0 ⟨Nat.zero_le _, fun j hj h => absurd h (by omega)⟩
    intro i hinv Z2 hZ2
    obtain ⟨hi, hn⟩ := hinv
    conv => whnf
    refine bcase_iff.2 ⟨fun h5 => ?_, fun h5 => ?_⟩
    · skip
      have hlt : (i : Int) < (m : Int) - 1 := of_decide_eq_true h5
      have hil : i < l.length := by omega
      have hw : IntKind.i64.wrap ((i : Int) + 1) = ((i + 1 : Nat) : Int) := wrap_nat (by omega)
      conv => whnf
      refine ⟨_, getI_nat hil, ?_⟩
      conv => whnf
      refine bcase_iff.2 ⟨fun h7 => ?_, fun h7 => ?_⟩
      · skip
        have h7 : strEq l[i] w = true := h7
        -- R:FTT
        conv => whnf
        rw [idx_at _ l i 0 hil (fun j hj2 => hn j (by omega) hj2) h7, Nat.zero_add]
      · skip
        have h7 : strEq l[i] w = false := h7
        -- Z5:TF
        conv => whnf
        refine ⟨⟨99, [], []⟩, ?_⟩
        conv => whnf
        rw [hw]
        exact hZ2 (i + 1) ⟨hil, fun j hj2 h => by
          by_cases e : j = i
          · subst e; exact h7
          · exact hn j hj2 (by omega)⟩ (by omega)
    · skip
      have hge : ¬ (i : Int) < (m : Int) - 1 := of_decide_eq_false h5
      -- R:FF
      conv => whnf
      rw [hR fun j hj2 h => hn j hj2 (by omega)]

theorem op113 : Opens PR 113 := ⟨_, Tryd.func113, rfl, rfl⟩


theorem op114 : Opens PR 114 := ⟨_, Tryd.func114, rfl, rfl⟩

/-- The error of a word that has to be new. -/
def freE (w : ByteArray) (l : List ByteArray) : Int := if !nameB w then 6 else if l.any fun x => strEq x w then 5 else 0

theorem c70 (gl : Gl) (w : ByteArray) (hw1 : w.size ≤ 9223372036854775807) (l : List ByteArray) (hl : l.length ≤ 9223372036854775807) : PCalls PR gl 70 [.str w, strsV l] fun r => r = vI (freE w l) := by
  refine fnW_sound (par_ok gl) Tryd.func70 ?_
  conv => whnf
  refine byC (c113 gl l hl w) op113 ?_
  conv => whnf
  refine bcase_iff.2 ⟨fun h2 => ?_, fun h2 => ?_⟩
  · skip
    have h2 : l.any (fun x => strEq x w) = true := by rw [← idx_any]; exact h2
    conv => whnf
    refine byC (c114 gl w hw1) op114 ?_
    conv => whnf
    refine bcase_iff.2 ⟨fun h4 => ?_, fun h4 => ?_⟩
    · skip
      have h4 : (!nameB w) = true := h4
      -- R:TT
      conv => whnf
      unfold freE; rw [h4]; rfl
    · skip
      have h4 : (!nameB w) = false := h4
      -- R:TF
      conv => whnf
      unfold freE; rw [h4, h2]; rfl
  · skip
    have h2 : l.any (fun x => strEq x w) = false := by rw [← idx_any]; exact h2
    conv => whnf
    refine byC (c114 gl w hw1) op114 ?_
    conv => whnf
    refine bcase_iff.2 ⟨fun h4 => ?_, fun h4 => ?_⟩
    · skip
      have h4 : (!nameB w) = true := h4
      -- R:FT
      conv => whnf
      unfold freE; rw [h4]; rfl
    · skip
      have h4 : (!nameB w) = false := h4
      -- R:FF
      conv => whnf
      unfold freE; rw [h4, h2]; rfl

theorem op70 : Opens PR 70 := ⟨_, Tryd.func70, rfl, rfl⟩

end Go.Ab.StF
