/-
  THE SKELETON FAMILY, PART PK: a further forme: plain.
  THE SKELETON FAMILY, PART WM: a job is looked at of which only the number of types is known.
  THE SKELETON FAMILY, PART WN: Room: of the program.
-/
import Derived.Test.YtfhippofplmpdaaDoorSkelE
namespace Go.Ab.SkF
open Go Go.Ab Go.Ab.Pln

/-- Numbers of types, as bits. -/
def metB (l : List Int) : Nat := bitsO (l.map Int.toNat)
theorem metB_snoc (l : List Int) (t : Int) : metB (l ++ [t]) = metB l ||| 2 ^ t.toNat := by simp [metB, bitsO]
theorem metB_lt {l : List Int} (h : ∀ t ∈ l, 0 ≤ t ∧ t < 6) : metB l < 2 ^ 8 := bitsO_lt fun x hx => by
  obtain ⟨t, ht, rfl⟩ := List.mem_map.1 hx
  have := h t ht; omega
/-- Is the i-th one there before? -/
def dupB (tys : List Int) (i : Nat) : Bool := (tys.take i).any fun x => x == tys.getD i 0
theorem met_dup {tys : List Int} (h : ∀ t ∈ tys, 0 ≤ t ∧ t < 6) {i : Nat} (hi : i < tys.length) : (metB (tys.take i)).testBit tys[i].toNat = dupB tys i := by
  unfold metB dupB
  rw [bitsO_test, Bool.eq_iff_iff, List.contains_iff_mem, List.any_eq_true, getD_at hi]
  constructor
  · intro hm
    obtain ⟨t, ht, he⟩ := List.mem_map.1 hm
    have h1 := h t (List.mem_of_mem_take ht)
    have h2 := h _ (List.getElem_mem hi)
    exact ⟨t, ht, by rw [beq_iff_eq]; omega⟩
  · rintro ⟨t, ht, he⟩
    rw [beq_iff_eq] at he
    exact List.mem_map.2 ⟨t, ht, by rw [he]⟩
theorem dup_none {tys : List Int} (h : ∀ j, j < tys.length → dupB tys j = false) : ((List.range tys.length).any fun i => (tys.take i).any fun x => x == tys.getD i 0) = false := by
  rw [List.any_eq_false]
  intro j hj
  have := h j (List.mem_range.1 hj)
  unfold dupB at this
  rw [this]; simp
theorem dup_some {tys : List Int} {j : Nat} (hj : j < tys.length) (h : dupB tys j = true) : ((List.range tys.length).any fun i => (tys.take i).any fun x => x == tys.getD i 0) = true :=
  List.any_eq_true.2 ⟨j, List.mem_range.2 hj, h⟩
theorem dup_nodup : ∀ {tys : List Int}, (∀ j, j < tys.length → dupB tys j = false) → tys.Nodup := by
  intro tys h
  rw [List.nodup_iff_pairwise_ne, List.pairwise_iff_getElem]
  intro i j hi hj hij he
  have := h j hj
  unfold dupB at this
  rw [List.any_eq_false] at this
  refine this tys[i] ?_ (by rw [getD_at hj, he]; simp)
  rw [List.mem_take_iff_getElem]
  exact ⟨i, by omega, rfl⟩
theorem dup_len {tys : List Int} (h : ∀ t ∈ tys, 0 ≤ t ∧ t < 6) (hd : ∀ j, j < tys.length → dupB tys j = false) : tys.length ≤ 6 := by
  have h1 : (tys.map Int.toNat).Nodup := by
    rw [List.nodup_iff_pairwise_ne, List.pairwise_map]
    refine (List.nodup_iff_pairwise_ne.1 (dup_nodup hd)).imp_of_mem fun {a b} ha hb hab e => hab ?_
    have := h a ha; have := h b hb; omega
  have := List.Nodup.length_le_of_subset (l₂ := List.range 6) h1 fun x hx => by
    obtain ⟨t, ht, rfl⟩ := List.mem_map.1 hx
    have := h t ht
    exact List.mem_range.2 (by omega)
  simpa using this

theorem furF_len (fs : Fms) (day days : Int) : (furF fs day days).length = fs.length + 1 := by simp [furF]
theorem furS_len (n : Nat) (ss : Sgs) (tys : List Int) : (furS n ss tys).length = ss.length + tys.length := by simp [furS]
theorem furS_ok {n : Nat} {ss : Sgs} {tys : List Int} (h : SsOk n 6 ss) (ht : ∀ t ∈ tys, 0 ≤ t ∧ t < 6) : SsOk (n + 1) 6 (furS n ss tys) := by
  refine ⟨fun s hs => ?_, fun s hs => ?_⟩ <;> rcases List.mem_append.1 hs with hs | hs
  · have := h.f s hs; omega
  · obtain ⟨t, _, rfl⟩ := List.mem_map.1 hs; dsimp only; omega
  · have := h.t s hs; omega
  · obtain ⟨t, ht', rfl⟩ := List.mem_map.1 hs; have := ht t ht'; dsimp only; omega

theorem roomR_err {ts : List ByteArray} {fs : Fms} {ss : Sgs} {tys : List Int} {days e : Int} (h : roomE ts fs ss tys days = e) (he : e ≠ 0) : roomR ts fs ss tys days = (0, e) := by
  unfold roomR; rw [if_pos (by rw [h]; exact he), h]
theorem roomR_day {ts : List ByteArray} {fs : Fms} {ss : Sgs} {tys : List Int} {days : Int} (h : roomE ts fs ss tys days = 0) {d : Nat} (hd : d < 62 - days.toNat) (h1 : roomD fs ss tys days d = true) (h2 : ∀ e, e < d → roomD fs ss tys days e = false) : roomR ts fs ss tys days = ((d : Int), 0) := by
  unfold roomR; rw [if_neg (by rw [h]; simp), find_range.2 ⟨hd, h1, h2⟩]
theorem roomR_none {ts : List ByteArray} {fs : Fms} {ss : Sgs} {tys : List Int} {days : Int} (h : roomE ts fs ss tys days = 0) (h2 : ∀ e, e < 62 - days.toNat → roomD fs ss tys days e = false) : roomR ts fs ss tys days = (0, 9) := by
  unfold roomR
  rw [if_neg (by rw [h]; simp), List.find?_eq_none.2 fun e he => by rw [h2 e (List.mem_range.1 he)]; simp]
theorem cp_list {α : Type} (xs : List α) (z : α) (m : Nat) : (xs.take (List.replicate (xs.length + m) z).length) ++ (List.replicate (xs.length + m) z).drop xs.length = xs ++ List.replicate m z := by
  rw [List.take_of_length_le (by simp), List.drop_replicate, Nat.add_sub_cancel_left]
theorem set_last {α : Type} (xs : List α) (z x : α) : (xs ++ [z]).set xs.length x = xs ++ [x] := by
  rw [List.set_append_right _ _ (Nat.le_refl _)]; simp
end Go.Ab.SkF

namespace Go.Ab.SkF
open Go Go.Ab Go.Ab.Pln Go.Proofs
set_option maxHeartbeats 1000000
set_option maxRecDepth 100000

abbrev lookL (nt : Nat) (fs : Fms) (ss : Sgs) (p : Nat → Bool) : List (AV S) := [.lens nt, fmsV fs, sgsV ss, arr8 (groupsM fs.length (pickS ss p)), arr8 (meetM (stN fs) fs.length)]

theorem c80L (gl : Gl) (nt : Nat) (fs : List Fm) (ss : List Sg) (h8 : fs.length ≤ 8) (hs : SsOk fs.length 6 ss) (hsl : ss.length ≤ 60) (m : Nat) (hm : m < 2 ^ 63) : PCalls PR gl 80 [.agg [.lens nt, fmsV fs, sgsV ss], vI m] fun r => r = .ref (lookL nt fs ss m.testBit) := by
  have h0 : ∀ p : Nat → Bool, ∀ i, ∀ s ∈ pickU ss p i, i ≤ ss.length → s.1.toNat < 8 := fun p i s hi hil => by
    unfold pickU at hi
    obtain ⟨k, hk, rfl⟩ := List.mem_map.1 hi
    have hk := List.mem_range.1 (List.mem_filter.1 hk).1
    rw [getD_at (show k < ss.length by omega)]
    have := hs.f _ (List.getElem_mem (show k < ss.length by omega))
    omega
  have hty : ∀ i, i ≤ ss.length → ∀ t, typeM (pickU ss m.testBit i) t < 2 ^ 8 := fun i hi t => typeM_lt (fun s hsm => h0 _ i s hsm hi) t
  have hgr : ∀ T, ∀ x ∈ groupsT fs.length (pickS ss m.testBit) T, x < 2 ^ 8 := fun T => groupsT_lt (T0 := 6) (fun s hsm => h0 _ _ s hsm (Nat.le_refl _)) T
  have hgl := fun T => groupsT_len fs.length (pickS ss m.testBit) T
  refine fnW_sound (par_ok gl) Tryd.func80 ?_
  conv => whnf
  refine ⟨[0, 2, 3, 1, 4, 5, 6, 7, 8], [], [], [], ⟨10141204801825835211973625643007, [], []⟩, by decide +kernel, ?_⟩
  conv => whnf
  refine byC (c94 gl) op94 ?_
  conv => whnf
  refine byC (c113 gl) op113 ?_
  conv => whnf
  refine byC (c95s gl fs h8) op95 ?_
  conv => whnf
  refine ⟨⟨469762146, [2], []⟩, ?_⟩
  refine LoopW_ind _ (fun i : Nat => (({ tmps := [.undef, vI m, .undef, .undef, .undef, .own 21 [], .own 6 [], .undef, .undef, .undef, .undef, .undef, .undef, .undef, .undef, .undef, .undef, .undef, .undef, .undef, .undef, .undef, .undef, .undef, .undef, .undef, sgsV ss, vI ss.length, vI i, .undef, .undef, .undef, .undef, .undef, .undef, .undef, .undef, .undef, .undef, .undef, .undef, .undef, .undef, .undef, .undef, .undef, .undef, .undef, .undef, .undef, .undef, .undef, .undef, .undef, .undef, .undef, .undef, .undef, .undef, .undef, .undef, .undef, .undef, .undef, .undef, .undef, .undef, .undef, .undef, .undef, .undef, .undef, .undef, .undef, .undef, .undef, .undef, .undef, .undef, .undef, .undef, .undef, .undef, .undef, .undef, .undef, .undef, .undef, .undef, .undef, .undef, .undef, .undef, .undef, .undef, .undef, .undef, .undef, .undef, .undef, .undef, .undef, .undef], seg := [(6, .cells [arr6 (typesN ss m.testBit i)]), (21, .cells [.lens nt, fmsV fs, sgsV ss, arr8 (aloneM), arr8 (meetM (stN fs) fs.length)])], up := [] } : St S))) (fun i : Nat => (i ≤ ss.length)) (fun i : Nat => (ss.length - i)) () ?_ 0 (Nat.zero_le _)
  intro i hi Z1 hZ1
  conv => whnf
  refine bcase_iff.2 ⟨fun h4 => ?_, fun h4 => ?_⟩
  · skip
    have hlt : i < ss.length := by have := of_decide_eq_true h4; omega
    have hw : IntKind.i64.wrap ((i : Int) + 1) = ((i + 1 : Nat) : Int) := wrap_nat (by omega)
    conv => whnf
    refine ⟨_, getI_nat hlt, ?_⟩
    conv => whnf
    refine ⟨by omega, ?_⟩
    conv => whnf
    refine bcase_iff.2 ⟨fun h6 => ?_, fun h6 => ?_⟩
    · skip
      have h6 : m.testBit i = true := by rw [← bitN hm (show i < 64 by omega)]; exact h6
      obtain ⟨hf0, hf1⟩ := hs.f _ (List.getElem_mem hlt)
      obtain ⟨ht0, ht1⟩ := hs.t _ (List.getElem_mem hlt)
      obtain ⟨f, hf⟩ : ∃ f : Nat, ss[i].1 = (f : Int) := ⟨ss[i].1.toNat, by omega⟩
      obtain ⟨t, ht⟩ : ∃ t : Nat, ss[i].2.1 = (t : Int) := ⟨ss[i].2.1.toNat, by omega⟩
      have ht6 : t < 6 := by omega
      have hf8 : f < 8 := by omega
      have hgt : getI (natsV (typesN ss m.testBit i)) ss[i].2.1 = some ((typeM (pickU ss m.testBit i) t : Nat) : Int) := by rw [ht, getI_natsD (by rw [typesN_len]; omega), typesN_get ht6]
      conv => whnf
      refine ⟨[0, 1, 2, 3, 4, 5, 6, 7, 8, 9], [], [], [], ⟨10141204801825835211973625643007, [], []⟩, by decide +kernel, ?_⟩
      conv => whnf
      refine ⟨by omega, by omega, ?_⟩
      conv => whnf
      refine ⟨_, hgt, ?_⟩
      conv => whnf
      refine ⟨by omega, ?_⟩
      conv => whnf
      refine ⟨by omega, by omega, ?_⟩
      conv => whnf
      refine ⟨_, hgt, _, rfl, ?_⟩
      -- Z4:TT
      conv => whnf
      refine ⟨⟨469762146, [8, 1008, 2008, 3008, 4008], []⟩, ?_⟩
      conv => whnf
      rw [hf, ht, shl_one (by omega), or_nat (lt63 (hty i hi t)) (Nat.pow_lt_pow_right (by omega) (by omega)), nats_set, typesN_T hlt h6 ht hf, hw]
      exact hZ1 (i + 1) hlt (by omega)
    · skip
      have h6 : m.testBit i = false := by rw [← bitN hm (show i < 64 by omega)]; exact h6
      -- Z4:TF
      conv => whnf
      refine ⟨⟨469762146, [8, 1008, 2008, 3008, 4008], []⟩, ?_⟩
      conv => whnf
      rw [hw, ← typesN_F h6]
      exact hZ1 (i + 1) hlt (by omega)
  · skip
    have hge : i = ss.length := by have := of_decide_eq_false h4; omega
    subst hge
    conv => whnf
    refine loop_q fun Q2 hQ2 => ?_
    refine ⟨⟨844424930132000, [6], []⟩, ?_⟩
    refine LoopW_ind _ (fun t : Nat => (({ tmps := [.undef, .undef, .undef, .undef, .undef, .own 21 [], .undef, .undef, .undef, .undef, .undef, .undef, .undef, .undef, .undef, .undef, .undef, .undef, .undef, .undef, .undef, .undef, .undef, .undef, .undef, .undef, .undef, .undef, .undef, .undef, .undef, .undef, .undef, .undef, .undef, .undef, .undef, .undef, .undef, .undef, .undef, .undef, .undef, .undef, .undef, .undef, .undef, .undef, .agg [arr6 (typesN ss m.testBit ss.length)], vI t, .undef, .undef, .undef, .undef, .undef, .undef, .undef, .undef, .undef, .undef, .undef, .undef, .undef, .undef, .undef, .undef, .undef, .undef, .undef, .undef, .undef, .undef, .undef, .undef, .undef, .undef, .undef, .undef, .undef, .undef, .undef, .undef, .undef, .undef, .undef, .undef, .undef, .undef, .undef, .undef, .undef, .undef, .undef, .undef, .undef, .undef, .undef, .undef, .undef, .undef, .undef, .undef, .undef], seg := [(21, .cells [.lens nt, fmsV fs, sgsV ss, arr8 (groupsT fs.length (pickS ss m.testBit) t), arr8 (meetM (stN fs) fs.length)])], up := [] } : St S))) (fun t : Nat => (t ≤ 6)) (fun t : Nat => (6 - t)) () ?_ 0 (Nat.zero_le _)
    intro t ht Z2 hZ2
    conv => whnf
    refine bcase_iff.2 ⟨fun h10 => ?_, fun h10 => ?_⟩
    · skip
      have hlt6 : t < 6 := by have := of_decide_eq_true h10; omega
      have hwt : IntKind.i64.wrap ((t : Int) + 1) = ((t + 1 : Nat) : Int) := wrap_nat (by omega)
      conv => whnf
      refine ⟨_, getI_natsD (l := typesN ss m.testBit ss.length) (by rw [typesN_len]; exact hlt6), ?_⟩
      conv => whnf
      rw [typesN_get hlt6]
      conv => whnf
      have hset : typeM (pickU ss m.testBit ss.length) t < 2 ^ 8 := hty _ (Nat.le_refl _) t
      conv => whnf
      have hal := fun n => allM_lt (hgr t) hset n
      conv => whnf
      refine ⟨⟨865535553385270304, [], []⟩, ?_⟩
      refine LoopW_ind _ (fun a : Nat => (({ tmps := [.undef, .undef, .undef, .undef, .undef, .own 21 [], .undef, .undef, .undef, .undef, vI (typeM (pickU ss m.testBit ss.length) t), vI (allM a (groupsT fs.length (pickS ss m.testBit) t) (typeM (pickU ss m.testBit ss.length) t)), .undef, .undef, .undef, .undef, .undef, .undef, .undef, .undef, .undef, .undef, .undef, .undef, .undef, .undef, .undef, .undef, .undef, .undef, .undef, .undef, .undef, .undef, .undef, .undef, .undef, .undef, .undef, .undef, .undef, .undef, .undef, .undef, .undef, .undef, .undef, .undef, .agg [arr6 (typesN ss m.testBit ss.length)], vI t, .undef, .undef, .undef, .undef, .undef, .undef, .undef, .undef, vI fs.length, vI a, .undef, .undef, .undef, .undef, .undef, .undef, .undef, .undef, .undef, .undef, .undef, .undef, .undef, .undef, .undef, .undef, .undef, .undef, .undef, .undef, .undef, .undef, .undef, .undef, .undef, .undef, .undef, .undef, .undef, .undef, .undef, .undef, .undef, .undef, .undef, .undef, .undef, .undef, .undef, .undef, .undef, .undef, .undef], seg := [(21, .cells [.lens nt, fmsV fs, sgsV ss, arr8 (groupsT fs.length (pickS ss m.testBit) t), arr8 (meetM (stN fs) fs.length)])], up := [] } : St S))) (fun a : Nat => (a ≤ fs.length)) (fun a : Nat => (fs.length - a)) () ?_ 0 (Nat.zero_le _)
      intro a ha Z3 hZ3
      conv => whnf
      refine bcase_iff.2 ⟨fun h14 => ?_, fun h14 => ?_⟩
      · skip
        have hlta : a < fs.length := by have := of_decide_eq_true h14; omega
        have hwa : IntKind.i64.wrap ((a : Int) + 1) = ((a + 1 : Nat) : Int) := wrap_nat (by omega)
        conv => whnf
        refine ⟨by omega, ?_⟩
        conv => whnf
        refine bcase_iff.2 ⟨fun h16 => ?_, fun h16 => ?_⟩
        · skip
          have h16 : (typeM (pickU ss m.testBit ss.length) t).testBit a = true := by rw [← bitN (lt63 hset) (show a < 64 by omega)]; exact h16
          have hga2 : (groupsT fs.length (pickS ss m.testBit) t).getD a 0 < 2 ^ 8 := by rw [getD_at (by rw [hgl]; omega)]; exact hgr t _ (List.getElem_mem _)
          conv => whnf
          refine ⟨by omega, by omega, ?_⟩
          conv => whnf
          refine ⟨_, getI_natsD (by rw [hgl]; omega), ?_⟩
          -- Z14:TT
          conv => whnf
          refine ⟨⟨865535553385270304, [], []⟩, ?_⟩
          conv => whnf
          rw [or_nat (lt63 (hal a)) (lt63 hga2), hwa]
          have := hZ3 (a + 1) hlta (by omega)
          rw [allM_succ, if_pos h16] at this
          exact this
        · skip
          have h16 : (typeM (pickU ss m.testBit ss.length) t).testBit a = false := by rw [← bitN (lt63 hset) (show a < 64 by omega)]; exact h16
          -- Z14:TF
          conv => whnf
          refine ⟨⟨865535553385270304, [], []⟩, ?_⟩
          conv => whnf
          rw [hwa]
          have := hZ3 (a + 1) hlta (by omega)
          rw [allM_succ, h16, if_neg (by simp)] at this
          exact this
      · skip
        have hga : a = fs.length := by have := of_decide_eq_false h14; omega
        subst hga
        conv => whnf
        refine ⟨⟨7253554918532199978372128, [], []⟩, ?_⟩
        refine LoopW_ind _ (fun s9 : List Nat × Nat => match s9 with | (ys, b) => (({ tmps := [.undef, .undef, .undef, .undef, .undef, .own 21 [], .undef, .undef, .undef, .undef, vI (typeM (pickU ss m.testBit ss.length) t), vI (allM fs.length (groupsT fs.length (pickS ss m.testBit) t) (typeM (pickU ss m.testBit ss.length) t)), .undef, .undef, .undef, .undef, .undef, .undef, .undef, .undef, .undef, .undef, .undef, .undef, .undef, .undef, .undef, .undef, .undef, .undef, .undef, .undef, .undef, .undef, .undef, .undef, .undef, .undef, .undef, .undef, .undef, .undef, .undef, .undef, .undef, .undef, .undef, .undef, .agg [arr6 (typesN ss m.testBit ss.length)], vI t, .undef, .undef, .undef, .undef, .undef, .undef, .undef, .undef, .undef, .undef, .undef, .undef, .undef, .undef, .undef, .undef, .undef, .undef, .undef, .undef, .undef, .undef, .undef, .undef, .undef, .undef, .undef, .undef, .undef, .undef, .undef, vI fs.length, vI b, .undef, .undef, .undef, .undef, .undef, .undef, .undef, .undef, .undef, .undef, .undef, .undef, .undef, .undef, .undef, .undef, .undef, .undef, .undef, .undef], seg := [(21, .cells [.lens nt, fmsV fs, sgsV ss, arr8 (ys), arr8 (meetM (stN fs) fs.length)])], up := [] } : St S))) (fun s9 : List Nat × Nat => match s9 with | (ys, b) => (ys = joinU fs.length (groupsT fs.length (pickS ss m.testBit) t) (typeM (pickU ss m.testBit ss.length) t) b ∧ b ≤ fs.length)) (fun s9 : List Nat × Nat => match s9 with | (ys, b) => (fs.length - b)) () ?_ (_, 0) ⟨(joinU_zero _ _ _).symm, Nat.zero_le _⟩
        rintro ⟨ys, b⟩ hinv Z4 hZ4
        dsimp only at hinv hZ4
        obtain ⟨rfl, hb⟩ := hinv
        conv => whnf
        refine bcase_iff.2 ⟨fun h20 => ?_, fun h20 => ?_⟩
        · skip
          have hltb : b < fs.length := by have := of_decide_eq_true h20; omega
          have hwb : IntKind.i64.wrap ((b : Int) + 1) = ((b + 1 : Nat) : Int) := wrap_nat (by omega)
          conv => whnf
          refine bcase_iff.2 ⟨fun g22_2 => ?_, fun g22_2 => ?_⟩
          · skip
            have g22_2 : (typeM (pickU ss m.testBit ss.length) t != 0) = true := by rw [← nz]; exact g22_2
            conv => whnf
            refine ⟨by omega, ?_⟩
            conv => whnf
            refine bcase_iff.2 ⟨fun h22 => ?_, fun h22 => ?_⟩
            · skip
              have h22 : (allM fs.length (groupsT fs.length (pickS ss m.testBit) t) (typeM (pickU ss m.testBit ss.length) t)).testBit b = true := by rw [← bitN (lt63 (hal fs.length)) (show b < 64 by omega)]; exact h22
              conv => whnf
              refine ⟨by omega, by omega, ?_⟩
              conv => whnf
              refine ⟨_, getI_natsD (by rw [joinU_len, hgl]; omega), _, rfl, ?_⟩
              -- Z20:TTT
              conv => whnf
              refine ⟨⟨7253554918532199978372128, [], []⟩, ?_⟩
              conv => whnf
              rw [nats_set, hwb]
              exact hZ4 (_, b + 1) ⟨joinU_T hltb (by simpa using g22_2) h22, hltb⟩ (by dsimp only; omega)
            · skip
              have h22 : (allM fs.length (groupsT fs.length (pickS ss m.testBit) t) (typeM (pickU ss m.testBit ss.length) t)).testBit b = false := by rw [← bitN (lt63 (hal fs.length)) (show b < 64 by omega)]; exact h22
              -- Z20:TTF
              conv => whnf
              refine ⟨⟨7253554918532199978372128, [], []⟩, ?_⟩
              conv => whnf
              rw [hwb]
              exact hZ4 (_, b + 1) ⟨joinU_F (by rw [h22, Bool.and_false]), hltb⟩ (by dsimp only; omega)
          · skip
            have g22_2 : (typeM (pickU ss m.testBit ss.length) t != 0) = false := by rw [← nz]; exact g22_2
            -- Z20:TF
            conv => whnf
            refine ⟨⟨7253554918532199978372128, [], []⟩, ?_⟩
            conv => whnf
            rw [hwb]
            exact hZ4 (_, b + 1) ⟨joinU_F (by rw [g22_2, Bool.false_and]), hltb⟩ (by dsimp only; omega)
        · skip
          have hgb : b = fs.length := by have := of_decide_eq_false h20; omega
          subst hgb
          -- Z10:TFF
          conv => whnf
          refine ⟨⟨844424930132000, [], []⟩, ?_⟩
          conv => whnf
          rw [hwt, joinU_full, show typeM (pickU ss m.testBit ss.length) t = typeM (pickS ss m.testBit) t from rfl, ← groupsT_succ]
          exact hZ2 (t + 1) hlt6 (by omega)
    · skip
      have hgt : t = 6 := by have := of_decide_eq_false h10; omega
      conv => whnf
      refine (hQ2 _ _ _).mpr ?_
      -- R:FF
      conv => whnf
      rw [hgt]

/-- All sightings. -/
theorem c80b (gl : Gl) (nt : Nat) (fs : Fms) (ss : Sgs) (h8 : fs.length ≤ 8) (hs : SsOk fs.length 6 ss) (hsl : ss.length ≤ 60) :
    PCalls PR gl 80 [.agg [.lens nt, fmsV fs, sgsV ss], vI (IntKind.i64.wrap (shlI .i64 1 (ss.length : Int) - 1))] fun r => r = .ref [.lens nt, fmsV fs, sgsV ss, arr8 (groupsM fs.length ss), arr8 (meetM (stN fs) fs.length)] := by
  have h := c80L gl nt fs ss h8 hs hsl (2 ^ ss.length - 1) (mask_lt hsl)
  have h1 : pickS ss (2 ^ ss.length - 1).testBit = ss := pick_all (fun i hi => mask_bit hi)
  unfold lookL at h
  rw [h1] at h
  rw [mask_all hsl]
  exact h

theorem c74L (nt : Nat) (fs : List Fm) (ss : List Sg) (sx : List Sg) (h8 : fs.length ≤ 8) (hs : SsOk fs.length 6 ss) : PCalls PR glT 74 [.ref [.lens nt, fmsV fs, sgsV sx, arr8 (groupsM fs.length ss), arr8 (meetM (stN fs) fs.length)]] fun r => r = clashV fs ss := by
  refine fnW_sound (par_ok glT) Tryd.func74 ?_
  conv => whnf
  refine ⟨⟨12289, [], []⟩, ?_⟩
  refine LoopW_ind _ (fun i : Nat => (({ tmps := [.ref [.lens nt, fmsV fs, sgsV sx, arr8 (groupsM fs.length ss), arr8 (meetM (stN fs) fs.length)], .undef, .undef, .undef, .undef, .undef, .undef, .undef, .undef, .undef, .undef, .undef, vI fs.length, vI i, .undef, .undef, .undef, .undef, .undef, .undef, .undef, .undef, .undef, .undef, .undef, .undef, .undef, .undef, .undef, .undef, .undef, .undef, .undef, .undef, .undef, .undef], seg := [], up := [] } : St S))) (fun i : Nat => (i ≤ fs.length ∧ ∀ j, j < i → (groupsM fs.length ss).getD j 0 &&& (meetM (stN fs) fs.length).getD j 0 = 0)) (fun i : Nat => (fs.length - i)) () ?_ 0 ⟨Nat.zero_le _, fun j h => absurd h (Nat.not_lt_zero j)⟩
  intro i hinv Z1 hZ1
  obtain ⟨hi, hd⟩ := hinv
  conv => whnf
  refine bcase_iff.2 ⟨fun h2 => ?_, fun h2 => ?_⟩
  · skip
    have hlt : i < fs.length := by have := of_decide_eq_true h2; omega
    have hw : IntKind.i64.wrap ((i : Int) + 1) = ((i + 1 : Nat) : Int) := wrap_nat (by omega)
    have hg8 := groups_lt h8 hs (show i < 8 by omega)
    have hm8 := meetM_lt (R := stN fs) h8 hlt
    have ha8 : (groupsM fs.length ss).getD i 0 &&& (meetM (stN fs) fs.length).getD i 0 < 2 ^ 8 := Nat.and_lt_two_pow _ hm8
    have hand := and_nat (lt63 hg8) (lt63 hm8)
    conv => whnf
    refine ⟨[0, 1, 2, 3, 4, 5, 6, 7, 8, 9, 10, 11, 12, 13], [], [], [], ⟨68719476735, [], []⟩, by decide +kernel, ?_⟩
    conv => whnf
    refine ⟨_, getI_natsD (by rw [groups_len]; omega), ?_⟩
    conv => whnf
    refine ⟨_, getI_natsD (by rw [meetM_len]; omega), ?_⟩
    conv => whnf
    refine bcase_iff.2 ⟨fun h5 => ?_, fun h5 => ?_⟩
    · skip
      have h5 : (groupsM fs.length ss).getD i 0 &&& (meetM (stN fs) fs.length).getD i 0 ≠ 0 := by
        have h5 : (bitsI .and .i64 (((groupsM fs.length ss).getD i 0 : Nat) : Int) (((meetM (stN fs) fs.length).getD i 0 : Nat) : Int) != 0) = true := h5
        rw [hand] at h5
        intro e; rw [e] at h5; cases h5
      have hC := clash_find h8 hs hlt hd h5
      conv => whnf
      refine byC (by have := c72' ha8; rw [← hand] at this; exact this) op72 ?_
      -- R:TT
      conv => whnf
      unfold clashV
      rw [hC]
    · skip
      have h5 : (groupsM fs.length ss).getD i 0 &&& (meetM (stN fs) fs.length).getD i 0 = 0 := by
        have h5 : (bitsI .and .i64 (((groupsM fs.length ss).getD i 0 : Nat) : Int) (((meetM (stN fs) fs.length).getD i 0 : Nat) : Int) != 0) = false := h5
        rw [hand] at h5
        simpa using h5
      -- Z2:TF
      conv => whnf
      refine ⟨⟨12289, [], []⟩, ?_⟩
      conv => whnf
      rw [hw]
      exact hZ1 (i + 1) ⟨hlt, up_succ hd h5⟩ (by omega)
  · skip
    have hge : i = fs.length := by have := of_decide_eq_false h2; omega
    -- R:F
    conv => whnf
    unfold clashV
    rw [clash_no h8 (by rw [hge] at hd; exact hd)]

end Go.Ab.SkF

namespace Go.Ab.SkF
open Go Go.Ab Go.Ab.Pln Go.Proofs
set_option maxHeartbeats 1000000
set_option maxRecDepth 100000

/-- As 'par'; what others see may be forgotten where a loop begins anew. -/
noncomputable abbrev parR (gl : Gl) : Par S Unit := { par gl with rs := true }
theorem parR_ok (gl : Gl) (En : Env Unit) : ParOk PR gl (parR gl) En :=
  have h := par_ok gl En
  ⟨h.ti, h.call, h.mono, h.wit, h.mix, h.fn, h.ucall, h.ufn, h.iter, h.ifn, h.cb, h.eqt, h.mi, h.ai⟩

theorem c34 (ts : List ByteArray) (fs : List Fm) (ss : List Sg) (hL : LensJ ts fs ss) (tys : List Int) (hty : tys.length ≤ 9223372036854775807) (days : Int) : PCalls PR glT 34 [.agg [strsV ts, fmsV fs, sgsV ss], vL tys, vI days] fun r => r = .tup [vI (roomR ts fs ss tys days).1, vI (roomR ts fs ss tys days).2] := by
  refine fnW_sound (parR_ok glT) Tryd.func34 ?_
  conv => whnf
  refine byC (c71 glT ts fs ss hL) op71 ?_
  rcases Classical.em (chE ts fs ss = 0) with hk | hk
  · skip
    rw [openV_ok hk]
    have hV := chk_valid.1 hk
    have hv12 := hV.s12
    have hvE := hV.job
    have hf8 := hvE.n8
    have hn7 := hV.n7
    have hs6 := hvE.s6
    have h0 := hvE.n0
    have ht6 := hV.t6
    have hwr : IntKind.i64.wrap ((ts.length : Int) - 1) = (ts.length : Int) - 1 := wrap_int (by omega) (by omega)
    conv => whnf
    refine byC (c60 glT tys hty 0 _) op60 ?_
    conv => whnf
    refine bcase_iff.2 ⟨fun h4 => ?_, fun h4 => ?_⟩
    · skip
      rw [hwr] at h4
      have h4 : tys.any (outB 0 ((ts.length : Int) - 1)) = true := h4
      -- R:aT
      conv => whnf
      rw [roomR_err (e := 4) (by unfold roomE; rw [if_neg (fun h => h hk), if_pos h4]) (by decide)]
    · skip
      rw [hwr] at h4
      have h4 : tys.any (outB 0 ((ts.length : Int) - 1)) = false := h4
      have hin : ∀ t ∈ tys, 0 ≤ t ∧ t < 6 := fun t ht => by
        have := List.any_eq_false.1 h4 t ht
        simp [outB] at this; omega
      conv => whnf
      refine ⟨⟨3848290698446, [], []⟩, ?_⟩
      conv => whnf
      refine ⟨false, ?_⟩
      refine LoopW_ind _ (fun i : Nat => (({ tmps := [.undef, vL tys, vI days, .own 3 [], .undef, .undef, .own 6 [], .own 7 [], .undef, .undef, vI (metB (tys.take i)), .undef, .undef, .undef, .undef, .undef, .undef, .undef, .undef, .undef, .undef, .undef, .undef, .undef, .undef, .undef, .undef, .undef, .undef, .undef, .undef, .undef, .undef, .undef, .undef, .undef, .undef, .undef, .undef, vL tys, vI tys.length, vI i, .undef, .undef, .undef, .undef, .undef, .undef, .undef, .undef, .undef, .undef, .undef, .undef, .undef, .undef, .undef, .undef, .undef, .undef, .undef, .undef, .undef, .undef, .undef, .undef, .undef, .undef, .undef, .undef, .undef, .undef, .undef, .undef, .undef, .undef, .undef, .undef, .undef, .undef, .undef, .undef, .undef, .undef, .undef, .undef, .undef, .undef, .undef, .undef, .undef, .undef, .undef, .undef, .undef, .undef, .undef, .undef, .undef, .undef, .undef, .undef, .undef, .undef, .undef, .undef, .undef, .undef, .undef, .undef, .undef, .undef, .undef, .undef, .undef, .undef, .undef, .undef, .undef, .undef, .undef, .undef, .undef, .undef, .undef, .undef, .undef, .undef, .undef, .undef, .undef, .undef, .undef, .undef, .undef, .undef, .undef, .undef, .undef, .undef, .undef, .undef, .undef, .undef, .undef, .undef, .undef, .undef, .undef, .undef, .undef, .undef, .undef, .undef, .undef, .undef, .undef, .undef, .undef, .undef, .undef, .undef, .undef, .undef, .undef, .undef, .undef, .undef, .undef, .undef, .undef, .undef, .undef, .undef, .undef, .undef], seg := [(3, .cells [strsV ts, fmsV fs, sgsV ss]), (6, .cells [vI 0]), (7, .cells [vI 0])], up := [] } : St S))) (fun i : Nat => (i ≤ tys.length ∧ ∀ j, j < i → dupB tys j = false)) (fun i : Nat => (tys.length - i)) () ?_ 0 ⟨Nat.zero_le _, fun j h => absurd h (Nat.not_lt_zero j)⟩
      intro i hinv Z1 hZ1
      obtain ⟨hi, hd⟩ := hinv
      conv => whnf
      refine bcase_iff.2 ⟨fun h8 => ?_, fun h8 => ?_⟩
      · skip
        have hlt : i < tys.length := by have := of_decide_eq_true h8; omega
        have hw : IntKind.i64.wrap ((i : Int) + 1) = ((i + 1 : Nat) : Int) := wrap_nat (by omega)
        have hti := hin _ (List.getElem_mem hlt)
        have hte : tys[i] = ((tys[i].toNat : Nat) : Int) := by omega
        have hm8 : metB (tys.take i) < 2 ^ 8 := metB_lt fun t ht => hin t (List.mem_of_mem_take ht)
        conv => whnf
        refine ⟨_, getI_nat hlt, ?_⟩
        conv => whnf
        refine ⟨hti.1, ?_⟩
        conv => whnf
        refine bcase_iff.2 ⟨fun h10 => ?_, fun h10 => ?_⟩
        · skip
          have h10 : dupB tys i = true := by
            have g : (bitsI .and .i64 (shrI .i64 ((metB (tys.take i) : Nat) : Int) tys[i]) 1 == 1) = true := h10
            rw [hte, bitB (lt63 hm8) (by omega), met_dup hin hlt] at g; exact g
          -- R:aFTT
          conv => whnf
          rw [roomR_err (e := 5) (by unfold roomE; rw [if_neg (fun h => h hk), if_neg (by rw [h4]; simp), if_pos (dup_some hlt h10)]) (by decide)]
        · skip
          have h10 : dupB tys i = false := by
            have g : (bitsI .and .i64 (shrI .i64 ((metB (tys.take i) : Nat) : Int) tys[i]) 1 == 1) = false := h10
            rw [hte, bitB (lt63 hm8) (by omega), met_dup hin hlt] at g; exact g
          conv => whnf
          refine ⟨hti.1, ?_⟩
          -- Z8:TF
          conv => whnf
          refine ⟨⟨3848290698446, [], []⟩, ?_⟩
          conv => whnf
          refine ⟨false, ?_⟩
          conv => whnf
          have hmt : bitsI .or .i64 ((metB (tys.take i) : Nat) : Int) (shlI .i64 1 tys[i]) = ((metB (tys.take (i + 1)) : Nat) : Int) := by
            rw [hte, shl_one (by omega), or_nat (lt63 hm8) (Nat.pow_lt_pow_right (by omega) (by omega)), take_snoc hlt, metB_snoc]
          rw [hmt, hw]
          exact hZ1 (i + 1) ⟨hlt, up_succ hd h10⟩ (by omega)
      · skip
        have hge : i = tys.length := by have := of_decide_eq_false h8; omega
        subst hge
        have hl6 := dup_len hin hd
        conv => whnf
        refine ⟨_, rfl, ?_⟩
        conv => whnf
        refine byC (c60 glT [days] (by simp) 1 60) op60 ?_
        conv => whnf
        refine bcase_iff.2 ⟨fun h14 => ?_, fun h14 => ?_⟩
        · skip
          have h14 : [days].any (outB 1 60) = true := h14
          -- R:aFFT
          conv => whnf
          rw [roomR_err (e := 7) (by unfold roomE; rw [if_neg (fun h => h hk), if_neg (by rw [h4]; simp), if_neg (by rw [dup_none hd]; simp), if_pos h14]) (by decide)]
        · skip
          have h14 : [days].any (outB 1 60) = false := h14
          have hdy := (out1 _ _ _).1 h14
          conv => whnf
          refine byC (c83 ts fs ss hL) op83 ?_
          have hE1 : roomE ts fs ss tys days = askE ts fs ss := by unfold roomE; rw [if_neg (fun h => h hk), if_neg (by rw [h4]; simp), if_neg (by rw [dup_none hd]; simp), if_neg (by rw [h14]; simp)]
          rcases Classical.em (askE ts fs ss = 0) with ha | ha
          · skip
            rw [enterV_ok ha]
            have hE : roomE ts fs ss tys days = 0 := hE1.trans ha
            obtain ⟨x0, u0, hsk⟩ := skel_of h0 hf8 hs6 (ask_clash ha)
            have hm9 : manyJ fs ss ≤ 9 := by
              have := hsk.few.le
              unfold manyJ; rw [hsk.eq]; dsimp only; omega
            have hw1 : IntKind.i64.wrap ((fs.length : Int) + 1) = ((fs.length + 1 : Nat) : Int) := wrap_nat (by omega)
            have hw2 : IntKind.i64.wrap ((ss.length : Int) + (tys.length : Int)) = ((ss.length + tys.length : Nat) : Int) := by rw [wrap_int (by omega) (by omega)]; omega
            conv => whnf
            refine ⟨[0, 1, 2, 3, 4, 5, 6, 7, 8, 9, 10, 11, 12, 13, 14, 15, 16, 17], [15], [16], [], ⟨95780971304118053647396689196894323976171195136475135, [], []⟩, by decide +kernel, ?_⟩
            conv => whnf
            refine byC (c84j glT fs ss hf8 hs6) op84 ?_
            conv => whnf
            refine ⟨[0, 1, 2, 3, 4, 5, 7, 8, 9, 10, 11, 12, 13, 14, 15, 6, 16, 17, 18, 19], [6, 16, 18], [], [], ⟨95780971304118053647396689196894323976171195136475135, [], []⟩, by decide +kernel, ?_⟩
            conv => whnf
            refine ⟨by rw [hw1]; omega, _, rfl, ?_⟩
            conv => whnf
            refine ⟨by rw [hw2]; omega, _, rfl, ?_⟩
            conv => whnf
            have hcpF : ovl fs (List.replicate (IntKind.i64.wrap ((fs.length : Int) + 1)).toNat f0) = fs ++ [f0] := by rw [hw1]; exact cp_list fs _ 1
            have hcpG : ovl ss (List.replicate (ss.length : Int).toNat s0) = ss ++ (tys.take 0).map fun t => ((fs.length : Int), t, (0 : Int)) := cp_list ss _ 0
            refine ⟨⟨4543259751217974174964184288116940, [13, 56, 1015, 2015, 3015], [97, 1015, 2015, 3015]⟩, ?_⟩
            conv => whnf
            refine ⟨false, ?_⟩
            refine LoopW_ind _ (fun s9 : Nat × Fms × Sgs => match s9 with | (k, F, G) => (({ tmps := [.undef, .undef, vI days, .own 3 [], .undef, .undef, .own 6 [], .own 7 [], .undef, .undef, .undef, .undef, .undef, .undef, vI (manyJ fs ss), .own 15 [], .undef, .undef, .undef, .undef, .undef, .undef, .undef, .undef, .undef, .undef, .undef, .undef, .undef, .undef, .undef, .undef, .undef, .undef, .undef, .undef, .undef, .undef, .undef, .undef, .undef, .undef, .undef, .undef, .undef, .undef, .undef, .undef, .undef, .undef, .undef, .undef, .undef, .undef, .undef, .undef, .undef, .undef, .undef, .undef, .undef, .undef, .undef, .undef, .undef, .undef, .undef, .undef, .undef, .undef, .undef, .undef, .undef, .undef, .undef, .undef, .undef, .undef, .undef, .undef, .undef, .undef, .undef, .undef, .undef, .undef, .undef, .undef, .undef, .undef, .undef, .undef, .undef, .undef, .undef, .undef, .undef, .undef, .undef, .undef, .undef, .undef, .undef, .undef, .undef, .undef, .undef, .undef, .undef, vL tys, vI tys.length, vI k, .undef, .undef, .undef, .undef, .undef, .undef, .undef, .undef, .undef, .undef, .undef, .undef, .undef, .undef, .undef, .undef, .undef, .undef, .undef, .undef, .undef, .undef, .undef, .undef, .undef, .undef, .undef, .undef, .undef, .undef, .undef, .undef, .undef, .undef, .undef, .undef, .undef, .undef, .undef, .undef, .undef, .undef, .undef, .undef, .undef, .undef, .undef, .undef, .undef, .undef, .undef, .undef, .undef, .undef, .undef, .undef, .undef, .undef, .undef, .undef, .undef, .undef, .undef, .undef], seg := [(3, .cells [strsV ts, fmsV fs, sgsV ss]), (6, .cells [vI 0]), (7, .cells [vI 0]), (15, .cells [strsV ts, .sl (S := S) U.forme F (some 87), .sl (S := S) U.sight G (some 97)]), (87, .row U.forme true), (97, .row U.sight false)], up := [] } : St S))) (fun s9 : Nat × Fms × Sgs => match s9 with | (k, F, G) => (k ≤ tys.length ∧ F = fs ++ [f0] ∧ G = ss ++ (tys.take k).map fun t => ((fs.length : Int), t, 0))) (fun s9 : Nat × Fms × Sgs => match s9 with | (k, F, G) => (tys.length - k)) () ?_ (0, ovl fs (List.replicate (IntKind.i64.wrap ((fs.length : Int) + 1)).toNat f0), ovl ss (List.replicate (ss.length : Int).toNat s0)) ⟨Nat.zero_le _, hcpF, hcpG⟩
            rintro ⟨k, F, G⟩ hinv Z2 hZ2
            dsimp only at hinv hZ2
            obtain ⟨hk2, hF, hG⟩ := hinv
            conv => whnf
            refine bcase_iff.2 ⟨fun h24 => ?_, fun h24 => ?_⟩
            · skip
              have hltk : k < tys.length := by have := of_decide_eq_true h24; omega
              have hwk : IntKind.i64.wrap ((k : Int) + 1) = ((k + 1 : Nat) : Int) := wrap_nat (by omega)
              conv => whnf
              refine ⟨_, getI_nat hltk, ?_⟩
              conv => whnf
              refine ⟨_, rfl, ?_⟩
              conv => whnf
              refine ⟨lim (by rw [hG]; simp; omega), ?_⟩
              -- Z24:T
              conv => whnf
              refine ⟨⟨4543259751217974174964184288116940, [122, 123], []⟩, ?_⟩
              conv => whnf
              refine ⟨false, ?_⟩
              conv => whnf
              rw [hwk]
              exact hZ2 (k + 1, F, _) ⟨hltk, hF, by rw [hG, take_snoc hltk, List.map_append, ← List.append_assoc]; rfl⟩ (by dsimp only; omega)
            · skip
              have hgek : k = tys.length := by have := of_decide_eq_false h24; omega
              have hG : G = (furS fs.length ss tys) := by rw [hG, hgek, List.take_length]; rfl
              subst hF hG
              have hRB : IntKind.i64.wrap (IntKind.i64.wrap (60 - days) + 2) = ((62 - days.toNat : Nat) : Int) := by rw [wrap_int (n := 60 - days) (by omega) (by omega), wrap_int (by omega) (by omega)]; omega
              have hS6 := furS_ok (n := fs.length) hs6 hin
              have hSl := furS_len fs.length ss tys
              conv => whnf
              refine ⟨⟨1020847100762815390390123822295304683724, [], []⟩, ?_⟩
              conv => whnf
              refine ⟨true, ?_⟩
              refine LoopW_ind _ (fun s9 : Nat × Fm => match s9 with | (d, z) => (({ tmps := [.undef, .undef, vI days, .own 3 [], .undef, .undef, .own 6 [], .own 7 [], .undef, .undef, .undef, .undef, .undef, .undef, vI (manyJ fs ss), .own 15 [], .undef, .undef, .undef, .undef, .undef, .undef, .undef, .undef, .undef, .undef, .undef, .undef, .undef, .undef, .undef, .undef, .undef, .undef, .undef, .undef, .undef, .undef, .undef, .undef, .undef, .undef, .undef, .undef, .undef, .undef, .undef, .undef, .undef, .undef, .undef, .undef, .undef, .undef, .undef, .undef, .undef, .undef, .undef, .undef, .undef, .undef, .undef, .undef, .undef, .undef, .undef, .undef, .undef, .undef, .undef, .undef, .undef, .undef, .undef, .undef, .undef, .undef, .undef, .undef, .undef, .undef, .undef, .undef, .undef, .undef, .undef, .undef, .undef, .undef, .undef, .undef, .undef, .undef, .undef, .undef, .undef, .undef, .undef, .undef, .undef, .undef, .undef, .undef, .undef, .undef, .undef, .undef, .undef, .undef, .undef, .undef, .undef, .undef, .undef, .undef, .undef, .undef, .undef, .undef, .undef, .undef, .undef, .undef, .undef, .undef, .undef, .undef, vI (IntKind.i64.wrap (IntKind.i64.wrap (60 - days) + 2)), vI d, .undef, .undef, .undef, .undef, .undef, .undef, .undef, .undef, .undef, .undef, .undef, .undef, .undef, .undef, .undef, .undef, .undef, .undef, .undef, .undef, .undef, .undef, .undef, .undef, .undef, .undef, .undef, .undef, .undef, .undef, .undef, .undef, .undef, .undef, .undef, .undef, .undef, .undef, .undef, .undef, .undef, .undef, .undef, .undef, .undef, .undef], seg := [(3, .cells [.lens ts.length, .lens fs.length, .lens ss.length]), (6, .cells [vI 0]), (7, .cells [vI 0]), (15, .cells [.lens ts.length, .sl (S := S) U.forme (fs ++ [z]) (some 87), .sl (S := S) U.sight (furS fs.length ss tys) (some 97)]), (87, .row U.forme true), (97, .row U.sight true)], up := [] } : St S))) (fun s9 : Nat × Fm => match s9 with | (d, z) => (d ≤ 62 - days.toNat ∧ ∀ e, e < d → roomD fs ss tys days e = false)) (fun s9 : Nat × Fm => match s9 with | (d, z) => (62 - days.toNat - d)) () ?_ (0, f0) ⟨Nat.zero_le _, fun e h => absurd h (Nat.not_lt_zero e)⟩
              rintro ⟨d, z⟩ hinv Z3 hZ3
              dsimp only at hinv hZ3
              obtain ⟨hd0, hrd⟩ := hinv
              conv => whnf
              refine bcase_iff.2 ⟨fun h29 => ?_, fun h29 => ?_⟩
              · skip
                have hltd : d < 62 - days.toNat := by have := of_decide_eq_true h29; rw [hRB] at this; omega
                have hwd : IntKind.i64.wrap ((d : Int) + 1) = ((d + 1 : Nat) : Int) := wrap_nat (by omega)
                have hFl := furF_len fs (d : Int) days
                have hF8 : (furF fs d days).length ≤ 8 := by omega
                rw [← hFl] at hS6
                have hset : ((fs ++ [z]).set fs.length (b0, (d : Int), (d : Int), IntKind.i64.wrap (IntKind.i64.wrap ((d : Int) + days) - 1))) = (furF fs d days) := by
                  rw [set_last, wrap_int (n := (d : Int) + days) (by omega) (by omega), wrap_int (by omega) (by omega)]; rfl
                have h80 : PCalls PR glT 80 [.agg [.lens ts.length, fmsV ((fs ++ [z]).set fs.length (b0, (d : Int), (d : Int), IntKind.i64.wrap (IntKind.i64.wrap ((d : Int) + days) - 1))), sgsV (furS fs.length ss tys)], vI (IntKind.i64.wrap (shlI .i64 1 ((furS fs.length ss tys).length : Int) - 1))] fun r => r = .ref [.lens ts.length, fmsV (furF fs d days), sgsV (furS fs.length ss tys), arr8 (groupsM (furF fs d days).length (furS fs.length ss tys)), arr8 (meetM (stN (furF fs d days)) (furF fs d days).length)] := by
                  rw [hset]; exact c80b glT ts.length (furF fs d days) (furS fs.length ss tys) hF8 hS6 (by omega)
                have h90 : PCalls PR glT 90 [vI ((fs ++ [z]).set fs.length (b0, (d : Int), (d : Int), IntKind.i64.wrap (IntKind.i64.wrap ((d : Int) + days) - 1))).length, vI (manyJ fs ss), .agg [arr8 (groupsM (furF fs d days).length (furS fs.length ss tys))], .agg [arr8 (meetM (stN (furF fs d days)) (furF fs d days).length)]] fun r => r = .clo (.func 114) [] [.ref [vI (furF fs d days).length], .ref [vI (manyJ fs ss)], .ref [arr8 (groupsM (furF fs d days).length (furS fs.length ss tys))], .ref [arr8 (meetM (stN (furF fs d days)) (furF fs d days).length)]] := by
                  rw [hset]; exact c90 glT _ _ _ _
                have hwj := ways_job (fs := (furF fs d days)) (ss := (furS fs.length ss tys)) hF8 (manyJ fs ss)
                conv => whnf
                refine ⟨true, ⟨_, getI_nat (show fs.length < (fs ++ [z]).length by simp), ?_⟩⟩
                conv => whnf
                refine ⟨_, rfl, ?_⟩
                conv => whnf
                refine ⟨[0, 1, 2, 3, 4, 5, 6, 7], [], [], [], ⟨95780971304118053647396689196894323976171195136475135, [], []⟩, by decide +kernel, ?_⟩
                conv => whnf
                refine ⟨by omega, ?_⟩
                conv => whnf
                refine byC h80 op80 ?_
                conv => whnf
                refine byC (c74L ts.length (furF fs d days) (furS fs.length ss tys) (furS fs.length ss tys) hF8 hS6) op74 ?_
                unfold clashV
                rcases hJ : clashJ (furF fs d days) (furS fs.length ss tys) with _ | ⟨a, b⟩
                · skip
                  conv => whnf
                  refine ⟨[0, 1, 2, 3, 4, 5, 6, 7, 8, 9, 10, 11, 12], [], [], [], ⟨95780971304118053647396689196894323976171195136475135, [], []⟩, by decide +kernel, ?_⟩
                  conv => whnf
                  refine byC h90 op90 ?_
                  conv => whnf
                  refine ⟨⟨2993155353254710023581909352793337748077645152960716, [], [87, 97]⟩, ?_⟩
                  conv => whnf
                  refine ⟨((waysA (relOf (groupsM (furF fs d days).length (furS fs.length ss tys))) (relOf (meetM (stN (furF fs d days)) (furF fs d days).length)) (manyJ fs ss) (furF fs d days).length)).map fun p : List Nat × Nat => [.agg [arr8 (pad8 p.1)], vI p.2], ⟨it114 glT (furF fs d days).length hF8 _ _ (groups_len (furF fs d days) (furS fs.length ss tys)) (meetM_len _ _) (fun i hi => groups_lt hF8 hS6 (by omega)) (fun i hi => meetM_lt hF8 hi) (manyJ fs ss) hm9, op114⟩, ?_⟩
                  rcases hW36 : (waysA (relOf (groupsM (furF fs d days).length (furS fs.length ss tys))) (relOf (meetM (stN (furF fs d days)) (furF fs d days).length)) (manyJ fs ss) (furF fs d days).length) with _ | ⟨p, l⟩
                  · skip
                    rw [hW36, hFl] at hwj
                    have hD : roomD fs ss tys days d = false := by unfold roomD; rw [hJ, ← hwj]; rfl
                    -- Z29:Tan
                    conv => whnf
                    refine ⟨⟨1020847100762815390390123822295304683724, [18, 1018, 2018, 3018, 4018], []⟩, ?_⟩
                    conv => whnf
                    refine ⟨true, ?_⟩
                    conv => whnf
                    rw [hwd]
                    have hz3 := hZ3 (d + 1, (b0, (d : Int), (d : Int), IntKind.i64.wrap (IntKind.i64.wrap ((d : Int) + days) - 1))) ⟨hltd, up_succ hrd hD⟩ (by dsimp only; omega)
                    dsimp only at hz3
                    rw [← set_last fs z] at hz3
                    exact hz3
                  · skip
                    rw [hW36, hFl] at hwj
                    have hD : roomD fs ss tys days d = true := by unfold roomD; rw [hJ, ← hwj]; rfl
                    -- R:aFFFaFTac
                    conv => whnf
                    rw [roomR_day hE hltd hD hrd]
                · skip
                  have hD : roomD fs ss tys days d = false := by unfold roomD; rw [hJ]; rfl
                  -- Z29:Tb
                  conv => whnf
                  refine ⟨⟨1020847100762815390390123822295304683724, [18, 1018, 2018, 3018, 4018], []⟩, ?_⟩
                  conv => whnf
                  refine ⟨true, ?_⟩
                  conv => whnf
                  rw [hwd]
                  have hz3 := hZ3 (d + 1, (b0, (d : Int), (d : Int), IntKind.i64.wrap (IntKind.i64.wrap ((d : Int) + days) - 1))) ⟨hltd, up_succ hrd hD⟩ (by dsimp only; omega)
                  dsimp only at hz3
                  rw [← set_last fs z] at hz3
                  exact hz3
              · skip
                have hged : d = 62 - days.toNat := by have := of_decide_eq_false h29; rw [hRB] at this; omega
                -- R:aFFFaFF
                conv => whnf
                rw [roomR_none hE (by rw [← hged]; exact hrd)]
          · skip
            rw [enterV_no ha]
            conv => whnf
            refine bcase_iff.2 ⟨fun h17 => ?_, fun h17 => ?_⟩
            · skip
              -- R:aFFFbT
              conv => whnf
              rw [roomR_err hE1 ha]
            · skip
              exfalso
              have h17 : (askE ts fs ss != 0) = false := h17
              exact ha (by simpa using h17) --done
  · skip
    rw [openV_no hk]
    conv => whnf
    refine bcase_iff.2 ⟨fun h2 => ?_, fun h2 => ?_⟩
    · skip
      -- R:bT
      conv => whnf
      rw [roomR_err (e := chE ts fs ss) (by unfold roomE; rw [if_pos hk]) hk]
    · skip
      exfalso
      have h2 : (chE ts fs ss != 0) = false := h2
      exact hk (by simpa using h2) --done

theorem op34 : Opens PR 34 := ⟨_, Tryd.func34, rfl, rfl⟩

end Go.Ab.SkF
