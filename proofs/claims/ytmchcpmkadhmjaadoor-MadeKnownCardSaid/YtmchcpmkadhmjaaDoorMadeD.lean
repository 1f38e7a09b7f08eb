/-
  THE MADE FAMILY, PART WH: Sources, the function within it.
  THE MADE FAMILY, PART WI: Sources.
-/
import Derived.Test.YtmchcpmkadhmjaaDoorMadeC
import Derived.Test.YtmchcpmkadhmjaaDoorEngD
namespace Go.Ab.MkF
open Go Go.Ab Go.Ab.Pln Go.Proofs
set_option maxHeartbeats 1000000
set_option maxRecDepth 100000

noncomputable abbrev parL (gl : Gl) : Par S Unit := { par gl with ow := true, pk := fun f => Nat.beq f 110, lend := fun f => Nat.beq f 109 }
theorem parL_ok (gl : Gl) (En : Env Unit) : ParOk PR gl (parL gl) En := { par_ok gl En with }
theorem byL {f : FuncId} {args : List (AV S)} {sg : List (Nat × AO S)} {gl : Gl} {Q : AV S → List (Nat × AO S) → Prop} {v : AV S} {sg1 : List (Nat × AO S)} (h : LCalls PR gl f args sg fun r s => r = v ∧ s = sg1) (ho : Opens PR f) (hq : Q v sg1) : LCalls PR gl f args sg Q ∧ Opens PR f :=
  ⟨fun w V l vs hs => (h w V l vs hs).mono fun _ _ ⟨v', he, r, sg', V', l', ⟨hr, hsg⟩, h2⟩ => ⟨v', he, r, sg', V', l', by subst hr; subst hsg; exact hq, h2⟩, ho⟩

/-! ### What it reckons -/
def sjoin (T : List Nat) (j b : Nat) : List Nat := if j < T.length then T.set j (T.getD j 0 ||| b) else T ++ [b]
def stepF (hs : List Sn) (F : List Nat → List Int → Int × List Int → Int × List Int) (T : List Nat) (L : List Int) (b : Nat) (s : Int × List Int) (j : Nat) : Int × List Int :=
  if (clR hs ((sjoin T j b).getD j 0)).isNone then F (sjoin T j b) (L ++ [(j : Int)]) s else s
def foldF (hs : List Sn) (F : List Nat → List Int → Int × List Int → Int × List Int) (T : List Nat) (L : List Int) (b : Nat) (s : Int × List Int) (m : Nat) : Int × List Int := (List.range m).foldl (stepF hs F T L b) s
def srcF (hs : List Sn) : Nat → List Nat → List Int → Int × List Int → Int × List Int
  | 0, T, L, s => if (T.length : Int) ≥ s.1 then s else ((T.length : Int), L)
  | k + 1, T, L, s => if (T.length : Int) ≥ s.1 then s else foldF hs (srcF hs k) T L (2 ^ (hs.length - (k + 1))) s (T.length + 1)
theorem foldF_succ {hs : List Sn} {F : List Nat → List Int → Int × List Int → Int × List Int} {T : List Nat} {L : List Int} {b : Nat} {s : Int × List Int} {m : Nat} : foldF hs F T L b s (m + 1) = stepF hs F T L b (foldF hs F T L b s m) m := by
  unfold foldF; rw [List.range_succ, List.foldl_append]; rfl
theorem srcF_stop {hs : List Sn} {k : Nat} {T : List Nat} {L : List Int} {s : Int × List Int} (h : (T.length : Int) ≥ s.1) : srcF hs k T L s = s := by
  cases k <;> (unfold srcF; rw [if_pos h])
theorem srcF_leaf {hs : List Sn} {T : List Nat} {L : List Int} {s : Int × List Int} (h : ¬ (T.length : Int) ≥ s.1) : srcF hs 0 T L s = ((T.length : Int), L) := by unfold srcF; rw [if_neg h]
theorem srcF_go {hs : List Sn} {k : Nat} {T : List Nat} {L : List Int} {s : Int × List Int} (h : ¬ (T.length : Int) ≥ s.1) : srcF hs (k + 1) T L s = foldF hs (srcF hs k) T L (2 ^ (hs.length - (k + 1))) s (T.length + 1) := by conv => lhs; unfold srcF; rw [if_neg h]
structure SrcOk (i : Nat) (T : List Nat) : Prop where
  n : T.length ≤ i
  x : ∀ x ∈ T, x ≠ 0 ∧ x < 2 ^ i
theorem sjoin_lt {T : List Nat} {j b : Nat} (h : j < T.length) : sjoin T j b = T.set j (T[j] ||| b) := by unfold sjoin; rw [if_pos h, getD_at h]
theorem sjoin_ge {T : List Nat} {b : Nat} : sjoin T T.length b = T ++ [b] := by unfold sjoin; rw [if_neg (Nat.lt_irrefl _)]
theorem or_bit {x i : Nat} (h : x < 2 ^ i) : x ||| 2 ^ i < 2 ^ (i + 1) := Nat.or_lt_two_pow (by rw [Nat.pow_succ]; omega) (by rw [Nat.pow_succ]; have := Nat.two_pow_pos i; omega)
theorem or_ne {x b : Nat} (h : x ≠ 0) : x ||| b ≠ 0 := fun e => h (by
  have : x ≤ x ||| b := Nat.left_le_or
  omega)
theorem SrcOk.join {i j : Nat} {T : List Nat} (hT : SrcOk i T) (hj : j ≤ T.length) : SrcOk (i + 1) (sjoin T j (2 ^ i)) := by
  have hp := Nat.two_pow_pos i
  have h2 : 2 ^ i < 2 ^ (i + 1) := by rw [Nat.pow_succ]; omega
  rcases Nat.lt_or_eq_of_le hj with h | h
  · rw [sjoin_lt h]
    refine ⟨by rw [List.length_set]; have := hT.n; omega, fun x hx => ?_⟩
    rcases List.mem_or_eq_of_mem_set hx with hx | rfl
    · obtain ⟨h3, h4⟩ := hT.x x hx; exact ⟨h3, by omega⟩
    · obtain ⟨h3, h4⟩ := hT.x _ (List.getElem_mem h)
      exact ⟨or_ne h3, or_bit h4⟩
  · subst h
    rw [sjoin_ge]
    refine ⟨by rw [List.length_append]; have := hT.n; simp; omega, fun x hx => ?_⟩
    rcases List.mem_append.1 hx with hx | hx
    · obtain ⟨h3, h4⟩ := hT.x x hx; exact ⟨h3, by omega⟩
    · rw [List.mem_singleton] at hx; subst hx; omega
theorem less_or {x i : Nat} (h : x < 2 ^ i) : less (x ||| 2 ^ i) (2 ^ i) = x := by
  apply Nat.eq_of_testBit_eq
  intro k
  unfold less
  by_cases hk : k = i
  · subst hk
    have := Nat.testBit_lt_two_pow h
    simp [Nat.testBit_xor, Nat.testBit_and, Nat.testBit_or, Nat.testBit_two_pow_self, this]
  · have : Nat.testBit (2 ^ i) k = false := by rw [Nat.testBit_two_pow]; simpa using fun e => hk e.symm
    simp [Nat.testBit_xor, Nat.testBit_and, Nat.testBit_or, this]
abbrev lentA : List (AV S) := [.own 1000001 [], .own 1000002 [], .own 1000003 [], .own 1000004 [], .own 1000005 [], .own 1000006 [], .own 1000007 []]
abbrev lentG (hs : List Sn) (T : List Nat) (L : List Int) (s : Int × List Int) : List (Nat × AO S) :=
  [(1000001, .cells [.sl (S := S) U.int (natsV T) (some 1000011)]), (1000002, .cells [vI s.1]), (1000003, .cells [snsV hs]), (1000004, .cells [.sl (S := S) U.int L (some 1000014)]), (1000005, .cells [.sl (S := S) U.int s.2 none]), (1000006, .cells [snsV hs]),
   (1000007, .cells [.clo (.func 109) [] lentA]), (1000011, .row U.int true), (1000014, .row U.int true)]
abbrev idN : List (Nat × Nat) := [(1000001, 1000001), (1000002, 1000002), (1000003, 1000003), (1000004, 1000004), (1000005, 1000005), (1000006, 1000006), (1000007, 1000007), (1000011, 1000011), (1000014, 1000014)]

theorem c110R (gl : Gl) (xs : List Int) (hx : xs ≠ []) (hl : xs.length ≤ 100000) (e : Nat) : PCalls PR gl 110 [vL xs] fun r => r = .sl (S := S) U.int xs (some e) := by
  refine fnR_sound (e := e) (par_ok gl) Tryd.func110 ?_
  conv => whnf
  refine ⟨hx, ?_⟩
  conv => whnf
  refine ⟨lim (show xs.length ≤ 1000000000 by omega), false, ?_⟩
  -- R:
  conv => whnf
  refine ⟨fun _ => rfl, ?_⟩
  rfl

theorem op110 : Opens PR 110 := ⟨_, Tryd.func110, rfl, rfl⟩

theorem op109 : Opens PR 109 := ⟨_, Tryd.func109, rfl, rfl⟩

theorem c109 (hs : List Sn) (hV : ValidH hs) : ∀ (k i : Nat) (_ : i + k = hs.length) (T : List Nat) (_ : SrcOk i T) (L : List Int) (_ : L.length = i) (s : Int × List Int),
    LCalls PR glT 109 (vI i :: lentA) (lentG hs T L s) fun r sg => r = .tup [] ∧ sg = lentG hs T L (srcF hs k T L s) := by
  intro k
  refine Nat.strongRecOn k fun k IH => ?_
  have h8 := hV.n8
  have h1 := hV.n1
  have hp : 2 ^ hs.length ≤ 256 := Nat.pow_le_pow_right (n := 2) (by omega) (show hs.length ≤ 8 by omega)
  intro i hik T hT L hL s
  have hTn := hT.n
  have hbi : 2 ^ i ≤ 2 ^ 8 := Nat.pow_le_pow_right (by omega) (by omega)
  have hpi := Nat.two_pow_pos i
  have hwi : IntKind.i64.wrap ((i : Int) + 1) = ((i + 1 : Nat) : Int) := wrap_nat (by omega)
  have hsh : shlI .i64 1 (i : Int) = ((2 ^ i : Nat) : Int) := shl_one (by omega)
  have hnT : (natsV T).length = T.length := by simp [natsV]
  refine fnL_sound (parL_ok glT) Tryd.func109 ?_
  conv => whnf
  refine bcase_iff.2 ⟨fun h0 => ?_, fun h0 => ?_⟩
  · skip
    have h0 : (T.length : Int) ≥ s.1 := by have := of_decide_eq_true h0; rw [hnT] at this; exact this
    -- R:T
    conv => whnf
    refine ⟨⟨1, [], []⟩, ?_⟩
    conv => whnf
    exact ⟨rfl, by rw [srcF_stop h0]⟩
  · skip
    have h0 : ¬ (T.length : Int) ≥ s.1 := by have := of_decide_eq_false h0; rw [hnT] at this; exact this
    conv => whnf
    refine bcase_iff.2 ⟨fun h1 => ?_, fun h1 => ?_⟩
    · skip
      have h1 : i = hs.length := by have h1 : ((i : Int) == (hs.length : Int)) = true := h1; have := eq_of_beq h1; omega
      have hk0 : k = 0 := by omega
      subst hk0
      have hLn : L ≠ [] := fun e => by rw [e] at hL; simp at hL; omega
      conv => whnf
      refine ⟨[0, 2, 3, 1, 4, 5], [2, 3, 4], [1, 4], [1000005], ⟨154742504910672534362390527, [], []⟩, by decide +kernel, ?_⟩
      conv => whnf
      refine byC (c110R glT L hLn (by omega) 23) op110 ?_
      conv => whnf
      refine ⟨rfl, ?_⟩
      -- R:FT
      conv => whnf
      refine ⟨⟨1, [23], [23]⟩, ?_⟩
      conv => whnf
      exact ⟨rfl, by rw [srcF_leaf h0, hnT]⟩
    · skip
      have h1 : i ≠ hs.length := fun e => by have h1 : ((i : Int) == (hs.length : Int)) = false := h1; rw [e] at h1; simp at h1
      obtain ⟨k, rfl⟩ : ∃ k', k = k' + 1 := ⟨k - 1, by omega⟩
      have hi2 : hs.length - (k + 1) = i := by omega
      conv => whnf
      rw [hnT, show IntKind.i64.wrap ((T.length : Int) + 1) = ((T.length + 1 : Nat) : Int) from wrap_nat (by omega)]
      refine ⟨⟨805306579, [], []⟩, ?_⟩
      refine LoopW_ind _ (fun j : Nat => (({ tmps := [vI i, .own 1000001 [], .undef, .undef, .own 1000004 [], .undef, .own 1000006 [], .own 1000007 [], .undef, .undef, .undef, .undef, .undef, .undef, .undef, .undef, .undef, .undef, .undef, .undef, .undef, .undef, .undef, .undef, .undef, .undef, .undef, .undef, vI ((T.length + 1 : Nat) : Int), vI j, .undef, .undef, .undef, .undef, .undef, .undef, .undef, .undef, .undef, .undef, .undef, .undef, .undef, .undef, .undef, .undef, .undef, .undef, .undef, .undef, .undef, .undef, .undef, .undef, .undef, .undef, .undef, .undef, .undef, .undef, .undef, .undef, .undef, .undef, .undef, .undef, .undef, .undef, .undef, .undef, .undef, .undef, .undef, .undef, .undef, .undef, .undef, .undef, .undef, .undef, .undef, .undef, .undef, .undef, .undef, .undef, .undef], seg := [(1000001, .cells [.sl (S := S) U.int (natsV T) (some 1000011)]), (1000002, .cells [vI (foldF hs (srcF hs k) T L (2 ^ i) s j).1]), (1000003, .cells [snsV hs]), (1000004, .cells [.sl (S := S) U.int L (some 1000014)]), (1000005, .cells [.sl (S := S) U.int (foldF hs (srcF hs k) T L (2 ^ i) s j).2 none]), (1000006, .cells [snsV hs]), (1000007, .cells [.clo (.func 109) [] lentA]), (1000011, .row U.int true), (1000014, .row U.int true)], up := [] } : St S))) (fun j : Nat => (j ≤ T.length + 1)) (fun j : Nat => (T.length + 1 - j)) () ?_ 0 (Nat.zero_le _)
      intro j hi Z1 hZ1
      conv => whnf
      refine bcase_iff.2 ⟨fun h4 => ?_, fun h4 => ?_⟩
      · skip
        have hlt : j < T.length + 1 := by have := of_decide_eq_true h4; omega
        have hw : IntKind.i64.wrap ((j : Int) + 1) = ((j + 1 : Nat) : Int) := wrap_nat (by omega)
        conv => whnf
        refine bcase_iff.2 ⟨fun h6 => ?_, fun h6 => ?_⟩
        · skip
          have h6 : j = T.length := by have h6 : ((j : Int) == ((natsV T).length : Int)) = true := h6; have := eq_of_beq h6; omega
          have hx0 : T.getD j 0 = 0 := by rw [h6]; simp
          have hG : getI (natsV T ++ [(0 : Int)]) (j : Int) = some ((T.getD j 0 : Nat) : Int) := by rw [hx0, h6, ← hnT]; show (natsV T ++ [(0 : Int)])[(natsV T).length]? = _; simp
          have hS : (natsV T ++ [(0 : Int)]).set ((j : Int)).toNat (((T.getD j 0 ||| 2 ^ i) : Nat) : Int) = natsV (sjoin T j (2 ^ i)) := by rw [hx0, Nat.zero_or, h6, sjoin_ge, ← hnT, Int.toNat_natCast]; simp [natsV]
          have hSF : ∀ F : List Int → List Int, (fun zs : List (S.T U.int) => zs.set ((j : Int)).toNat (((T.getD j 0 ||| 2 ^ i) : Nat) : Int)) = F → F (natsV T ++ [(0 : Int)]) = natsV (sjoin T j (2 ^ i)) := fun F h => by rw [← h]; exact hS
          have hS2 : (natsV (sjoin T j (2 ^ i))).set ((j : Int)).toNat ((T.getD j 0 : Nat) : Int) = natsV T ++ [(0 : Int)] := by rw [hx0, h6, sjoin_ge, ← hnT, Int.toNat_natCast]; simp [natsV]
          have hS2F : ∀ F : List Int → List Int, (fun zs : List (S.T U.int) => zs.set ((j : Int)).toNat ((T.getD j 0 : Nat) : Int)) = F → F (natsV (sjoin T j (2 ^ i))) = natsV T ++ [(0 : Int)] := fun F h => by rw [← h]; exact hS2
          have hcut : (natsV T ++ [(0 : Int)]).take ((j : Int)).toNat = natsV T := by rw [Int.toNat_natCast, h6, ← hnT]; simp
          have hx0l : T.getD j 0 < 2 ^ i := by
            by_cases e : j < T.length
            · rw [getD_at e]; exact (hT.x _ (List.getElem_mem e)).2
            · rw [List.getD_eq_getElem?_getD, List.getElem?_eq_none (by omega)]; exact hpi
          have hx1i : (T.getD j 0 ||| 2 ^ i) < 2 ^ (i + 1) := or_bit hx0l
          have hih : 2 ^ (i + 1) ≤ 2 ^ hs.length := Nat.pow_le_pow_right (by omega) (by omega)
          have hx1 : (T.getD j 0 ||| 2 ^ i) < 2 ^ hs.length := by omega
          have h63 : (2 : Nat) ^ 63 = 9223372036854775808 := rfl
          have h28 : (2 : Nat) ^ 8 = 256 := rfl
          have hO : bitsI .or .i64 ((T.getD j 0 : Nat) : Int) (shlI .i64 1 (i : Int)) = (((T.getD j 0 ||| 2 ^ i) : Nat) : Int) := by rw [hsh, or_nat (by omega) (by omega)]
          have hN : bitsI .andNot .i64 (((T.getD j 0 ||| 2 ^ i) : Nat) : Int) (shlI .i64 1 (i : Int)) = ((T.getD j 0 : Nat) : Int) := by rw [hsh, andNot_nat (by omega) (by omega)]; exact congrArg (fun n : Nat => (n : Int)) (less_or hx0l)
          have hj : j ≤ T.length := by omega
          have hT1j : (sjoin T j (2 ^ i)).getD j 0 = (T.getD j 0 ||| 2 ^ i) := by
            rcases Nat.lt_or_eq_of_le hj with e | e
            · rw [sjoin_lt e, getD_at e, getD_at (by simpa using e)]; simp
            · subst e; rw [sjoin_ge]; simp
          have hT1l : j < (sjoin T j (2 ^ i)).length := by
            rcases Nat.lt_or_eq_of_le hj with e | e
            · rw [sjoin_lt e]; simpa using e
            · subst e; rw [sjoin_ge]; simp
          have hG1 : getI (natsV (sjoin T j (2 ^ i))) (j : Int) = some (((T.getD j 0 ||| 2 ^ i) : Nat) : Int) := by rw [getI_nats hT1l, ← hT1j, getD_at hT1l]
          have htake : (L ++ [(j : Int)]).take ((i : Int)).toNat = L := by rw [Int.toNat_natCast, ← hL]; simp
          conv => whnf
          refine ⟨_, rfl, ?_⟩
          conv => whnf
          refine ⟨lim (by simp [natsV]; omega), ?_⟩
          conv => whnf
          refine ⟨[0, 1, 2, 3, 4, 5, 6, 7, 8], [2, 3, 7, 400039], [2, 3, 7], [], ⟨154742504910672534362390527, [], []⟩, by decide +kernel, ?_⟩
          conv => whnf
          refine ⟨_, hG, ?_⟩
          conv => whnf
          refine ⟨_, hG, ?_⟩
          conv => whnf
          refine ⟨Int.natCast_nonneg _, ?_⟩
          conv => whnf
          refine ⟨_, hG, ?_⟩
          conv => whnf
          refine ⟨(((T.getD j 0 ||| 2 ^ i) : Nat) : Int), congrArg some hO, ?_⟩
          conv => whnf
          generalize hFhS : (fun zs : List (S.T U.int) => zs.set ((j : Int)).toNat (((T.getD j 0 ||| 2 ^ i) : Nat) : Int)) = FhS
          conv => whnf
          conv => whnf
          conv => whnf
          rw [hSF _ hFhS]
          conv => whnf
          refine ⟨[0, 1, 2, 3, 4, 5, 6, 7, 8, 9, 10, 11, 12], [3, 4, 500049], [3, 4], [], ⟨154742504910672534362390527, [], []⟩, by decide +kernel, ?_⟩
          conv => whnf
          refine ⟨_, hG1, ?_⟩
          conv => whnf
          refine ⟨_, hG1, ?_⟩
          conv => whnf
          refine byC (c111 hs hV (T.getD j 0 ||| 2 ^ i) hx1) op111 ?_
          rcases hc : clR hs (T.getD j 0 ||| 2 ^ i) with _ | ⟨a, b⟩
          · skip
            conv => whnf
            refine ⟨_, rfl, ?_⟩
            conv => whnf
            refine ⟨lim (by simp; omega), ?_⟩
            conv => whnf
            rw [hwi]
            conv => whnf
            refine ⟨idN, [], ?_⟩
            conv => whnf
            conv => whnf
            conv => whnf
            refine byL (IH k (by omega) (i + 1) (by omega) _ (hT.join hj) (L ++ [(j : Int)]) (by simp; omega) (foldF hs (srcF hs k) T L (2 ^ i) s j)) op109 ?_
            conv => whnf
            refine ⟨by omega, ?_⟩
            conv => whnf
            refine ⟨by omega, by simp <;> omega, ?_⟩
            conv => whnf
            conv => whnf
            conv => whnf
            refine ⟨rfl, ?_⟩
            conv => whnf
            rw [htake]
            conv => whnf
            refine ⟨[0, 1, 2, 3, 4, 5, 6, 7, 8], [2, 3, 7, 400070], [2, 3, 7], [], ⟨154742504910672534362390527, [], []⟩, by decide +kernel, ?_⟩
            conv => whnf
            refine ⟨_, hG1, ?_⟩
            conv => whnf
            refine ⟨_, hG1, ?_⟩
            conv => whnf
            refine ⟨Int.natCast_nonneg _, ?_⟩
            conv => whnf
            refine ⟨_, hG1, ?_⟩
            conv => whnf
            refine ⟨((T.getD j 0 : Nat) : Int), congrArg some hN, ?_⟩
            conv => whnf
            generalize hFhS2 : (fun zs : List (S.T U.int) => zs.set ((j : Int)).toNat ((T.getD j 0 : Nat) : Int)) = FhS2
            conv => whnf
            conv => whnf
            conv => whnf
            rw [hS2F _ hFhS2]
            conv => whnf
            refine ⟨true, ?_⟩
            conv => whnf
            conv => whnf
            conv => whnf
            refine ⟨_, hG, ?_⟩
            conv => whnf
            refine ⟨_, hG, ?_⟩
            conv => whnf
            refine bcase_iff.2 ⟨fun h15 => ?_, fun h15 => ?_⟩
            · skip
              conv => whnf
              refine ⟨by omega, ?_⟩
              conv => whnf
              refine ⟨by omega, by simp <;> omega, ?_⟩
              conv => whnf
              conv => whnf
              conv => whnf
              refine ⟨rfl, ?_⟩
              conv => whnf
              rw [hcut]
              -- Z4:TTaT
              conv => whnf
              refine ⟨⟨805306579, [37, 38, 61, 62], []⟩, ?_⟩
              conv => whnf
              rw [hw]
              have hz := hZ1 (j + 1) (by omega) (by omega)
              rw [foldF_succ] at hz
              unfold stepF at hz
              rw [hT1j, hc] at hz
              exact hz
            · skip
              have h15 : (((T.getD j 0 : Nat) : Int) == 0) = false := h15
              rw [hx0] at h15
              cases h15 --done
          · skip
            conv => whnf
            refine ⟨[0, 1, 2, 3, 4, 5, 6, 7, 8], [2, 3, 7, 400070], [2, 3, 7], [], ⟨154742504910672534362390527, [], []⟩, by decide +kernel, ?_⟩
            conv => whnf
            refine ⟨_, hG1, ?_⟩
            conv => whnf
            refine ⟨_, hG1, ?_⟩
            conv => whnf
            refine ⟨Int.natCast_nonneg _, ?_⟩
            conv => whnf
            refine ⟨_, hG1, ?_⟩
            conv => whnf
            refine ⟨((T.getD j 0 : Nat) : Int), congrArg some hN, ?_⟩
            conv => whnf
            generalize hFhS2 : (fun zs : List (S.T U.int) => zs.set ((j : Int)).toNat ((T.getD j 0 : Nat) : Int)) = FhS2
            conv => whnf
            conv => whnf
            conv => whnf
            rw [hS2F _ hFhS2]
            conv => whnf
            refine ⟨true, ?_⟩
            conv => whnf
            conv => whnf
            conv => whnf
            refine ⟨_, hG, ?_⟩
            conv => whnf
            refine ⟨_, hG, ?_⟩
            conv => whnf
            refine bcase_iff.2 ⟨fun h15 => ?_, fun h15 => ?_⟩
            · skip
              conv => whnf
              refine ⟨by omega, ?_⟩
              conv => whnf
              refine ⟨by omega, by simp <;> omega, ?_⟩
              conv => whnf
              conv => whnf
              conv => whnf
              refine ⟨rfl, ?_⟩
              conv => whnf
              rw [hcut]
              -- Z4:TTbT
              conv => whnf
              refine ⟨⟨805306579, [37, 38, 61, 62], []⟩, ?_⟩
              conv => whnf
              rw [hw]
              have hz := hZ1 (j + 1) (by omega) (by omega)
              rw [foldF_succ] at hz
              unfold stepF at hz
              rw [hT1j, hc] at hz
              exact hz
            · skip
              have h15 : (((T.getD j 0 : Nat) : Int) == 0) = false := h15
              rw [hx0] at h15
              cases h15 --done
        · skip
          have h6 : j < T.length := by
            have h6 : ((j : Int) == ((natsV T).length : Int)) = false := h6
            have : j ≠ T.length := fun e => by rw [hnT, e] at h6; simp at h6
            omega
          have hjn : j < (natsV T).length := by omega
          have hgd : T.getD j 0 = T[j] := getD_at h6
          have hx0 : T.getD j 0 ≠ 0 := by rw [hgd]; exact (hT.x _ (List.getElem_mem h6)).1
          have hG : getI (natsV T) (j : Int) = some ((T.getD j 0 : Nat) : Int) := by rw [hgd]; exact getI_nats h6
          have hS : (natsV T).set ((j : Int)).toNat (((T.getD j 0 ||| 2 ^ i) : Nat) : Int) = natsV (sjoin T j (2 ^ i)) := by rw [hgd, sjoin_lt h6, Int.toNat_natCast]; simp [natsV]
          have hSF : ∀ F : List Int → List Int, (fun zs : List (S.T U.int) => zs.set ((j : Int)).toNat (((T.getD j 0 ||| 2 ^ i) : Nat) : Int)) = F → F (natsV T) = natsV (sjoin T j (2 ^ i)) := fun F h => by rw [← h]; exact hS
          have hS2 : (natsV (sjoin T j (2 ^ i))).set ((j : Int)).toNat ((T.getD j 0 : Nat) : Int) = natsV T := by rw [hgd, sjoin_lt h6, Int.toNat_natCast]; simp [natsV]; rw [← List.map_set, List.set_getElem_self]
          have hS2F : ∀ F : List Int → List Int, (fun zs : List (S.T U.int) => zs.set ((j : Int)).toNat ((T.getD j 0 : Nat) : Int)) = F → F (natsV (sjoin T j (2 ^ i))) = natsV T := fun F h => by rw [← h]; exact hS2
          have hx0l : T.getD j 0 < 2 ^ i := by
            by_cases e : j < T.length
            · rw [getD_at e]; exact (hT.x _ (List.getElem_mem e)).2
            · rw [List.getD_eq_getElem?_getD, List.getElem?_eq_none (by omega)]; exact hpi
          have hx1i : (T.getD j 0 ||| 2 ^ i) < 2 ^ (i + 1) := or_bit hx0l
          have hih : 2 ^ (i + 1) ≤ 2 ^ hs.length := Nat.pow_le_pow_right (by omega) (by omega)
          have hx1 : (T.getD j 0 ||| 2 ^ i) < 2 ^ hs.length := by omega
          have h63 : (2 : Nat) ^ 63 = 9223372036854775808 := rfl
          have h28 : (2 : Nat) ^ 8 = 256 := rfl
          have hO : bitsI .or .i64 ((T.getD j 0 : Nat) : Int) (shlI .i64 1 (i : Int)) = (((T.getD j 0 ||| 2 ^ i) : Nat) : Int) := by rw [hsh, or_nat (by omega) (by omega)]
          have hN : bitsI .andNot .i64 (((T.getD j 0 ||| 2 ^ i) : Nat) : Int) (shlI .i64 1 (i : Int)) = ((T.getD j 0 : Nat) : Int) := by rw [hsh, andNot_nat (by omega) (by omega)]; exact congrArg (fun n : Nat => (n : Int)) (less_or hx0l)
          have hj : j ≤ T.length := by omega
          have hT1j : (sjoin T j (2 ^ i)).getD j 0 = (T.getD j 0 ||| 2 ^ i) := by
            rcases Nat.lt_or_eq_of_le hj with e | e
            · rw [sjoin_lt e, getD_at e, getD_at (by simpa using e)]; simp
            · subst e; rw [sjoin_ge]; simp
          have hT1l : j < (sjoin T j (2 ^ i)).length := by
            rcases Nat.lt_or_eq_of_le hj with e | e
            · rw [sjoin_lt e]; simpa using e
            · subst e; rw [sjoin_ge]; simp
          have hG1 : getI (natsV (sjoin T j (2 ^ i))) (j : Int) = some (((T.getD j 0 ||| 2 ^ i) : Nat) : Int) := by rw [getI_nats hT1l, ← hT1j, getD_at hT1l]
          have htake : (L ++ [(j : Int)]).take ((i : Int)).toNat = L := by rw [Int.toNat_natCast, ← hL]; simp
          conv => whnf
          refine ⟨[0, 1, 2, 3, 4, 5, 6, 7, 8], [2, 3, 7, 400039], [2, 3, 7], [], ⟨154742504910672534362390527, [], []⟩, by decide +kernel, ?_⟩
          conv => whnf
          refine ⟨_, hG, ?_⟩
          conv => whnf
          refine ⟨_, hG, ?_⟩
          conv => whnf
          refine ⟨Int.natCast_nonneg _, ?_⟩
          conv => whnf
          refine ⟨_, hG, ?_⟩
          conv => whnf
          refine ⟨(((T.getD j 0 ||| 2 ^ i) : Nat) : Int), congrArg some hO, ?_⟩
          conv => whnf
          generalize hFhS : (fun zs : List (S.T U.int) => zs.set ((j : Int)).toNat (((T.getD j 0 ||| 2 ^ i) : Nat) : Int)) = FhS
          conv => whnf
          conv => whnf
          conv => whnf
          rw [hSF _ hFhS]
          conv => whnf
          refine ⟨[0, 1, 2, 3, 4, 5, 6, 7, 8, 9, 10, 11, 12], [3, 4, 500049], [3, 4], [], ⟨154742504910672534362390527, [], []⟩, by decide +kernel, ?_⟩
          conv => whnf
          refine ⟨_, hG1, ?_⟩
          conv => whnf
          refine ⟨_, hG1, ?_⟩
          conv => whnf
          refine byC (c111 hs hV (T.getD j 0 ||| 2 ^ i) hx1) op111 ?_
          rcases hc : clR hs (T.getD j 0 ||| 2 ^ i) with _ | ⟨a, b⟩
          · skip
            conv => whnf
            refine ⟨_, rfl, ?_⟩
            conv => whnf
            refine ⟨lim (by simp; omega), ?_⟩
            conv => whnf
            rw [hwi]
            conv => whnf
            refine ⟨idN, [], ?_⟩
            conv => whnf
            conv => whnf
            conv => whnf
            refine byL (IH k (by omega) (i + 1) (by omega) _ (hT.join hj) (L ++ [(j : Int)]) (by simp; omega) (foldF hs (srcF hs k) T L (2 ^ i) s j)) op109 ?_
            conv => whnf
            refine ⟨by omega, ?_⟩
            conv => whnf
            refine ⟨by omega, by simp <;> omega, ?_⟩
            conv => whnf
            conv => whnf
            conv => whnf
            refine ⟨rfl, ?_⟩
            conv => whnf
            rw [htake]
            conv => whnf
            refine ⟨[0, 1, 2, 3, 4, 5, 6, 7, 8], [2, 3, 7, 400070], [2, 3, 7], [], ⟨154742504910672534362390527, [], []⟩, by decide +kernel, ?_⟩
            conv => whnf
            refine ⟨_, hG1, ?_⟩
            conv => whnf
            refine ⟨_, hG1, ?_⟩
            conv => whnf
            refine ⟨Int.natCast_nonneg _, ?_⟩
            conv => whnf
            refine ⟨_, hG1, ?_⟩
            conv => whnf
            refine ⟨((T.getD j 0 : Nat) : Int), congrArg some hN, ?_⟩
            conv => whnf
            generalize hFhS2 : (fun zs : List (S.T U.int) => zs.set ((j : Int)).toNat ((T.getD j 0 : Nat) : Int)) = FhS2
            conv => whnf
            conv => whnf
            conv => whnf
            rw [hS2F _ hFhS2]
            conv => whnf
            refine ⟨true, ?_⟩
            conv => whnf
            conv => whnf
            conv => whnf
            refine ⟨_, hG, ?_⟩
            conv => whnf
            refine ⟨_, hG, ?_⟩
            conv => whnf
            refine bcase_iff.2 ⟨fun h15 => ?_, fun h15 => ?_⟩
            · skip
              exact absurd (by have h15 : (((T.getD j 0 : Nat) : Int) == 0) = true := h15; have := eq_of_beq h15; omega) hx0 --done
            · skip
              -- Z4:TFaF
              conv => whnf
              refine ⟨⟨805306579, [37, 38, 61, 62], []⟩, ?_⟩
              conv => whnf
              rw [hw]
              have hz := hZ1 (j + 1) (by omega) (by omega)
              rw [foldF_succ] at hz
              unfold stepF at hz
              rw [hT1j, hc] at hz
              exact hz
          · skip
            conv => whnf
            refine ⟨[0, 1, 2, 3, 4, 5, 6, 7, 8], [2, 3, 7, 400070], [2, 3, 7], [], ⟨154742504910672534362390527, [], []⟩, by decide +kernel, ?_⟩
            conv => whnf
            refine ⟨_, hG1, ?_⟩
            conv => whnf
            refine ⟨_, hG1, ?_⟩
            conv => whnf
            refine ⟨Int.natCast_nonneg _, ?_⟩
            conv => whnf
            refine ⟨_, hG1, ?_⟩
            conv => whnf
            refine ⟨((T.getD j 0 : Nat) : Int), congrArg some hN, ?_⟩
            conv => whnf
            generalize hFhS2 : (fun zs : List (S.T U.int) => zs.set ((j : Int)).toNat ((T.getD j 0 : Nat) : Int)) = FhS2
            conv => whnf
            conv => whnf
            conv => whnf
            rw [hS2F _ hFhS2]
            conv => whnf
            refine ⟨true, ?_⟩
            conv => whnf
            conv => whnf
            conv => whnf
            refine ⟨_, hG, ?_⟩
            conv => whnf
            refine ⟨_, hG, ?_⟩
            conv => whnf
            refine bcase_iff.2 ⟨fun h15 => ?_, fun h15 => ?_⟩
            · skip
              exact absurd (by have h15 : (((T.getD j 0 : Nat) : Int) == 0) = true := h15; have := eq_of_beq h15; omega) hx0 --done
            · skip
              -- Z4:TFbF
              conv => whnf
              refine ⟨⟨805306579, [37, 38, 61, 62], []⟩, ?_⟩
              conv => whnf
              rw [hw]
              have hz := hZ1 (j + 1) (by omega) (by omega)
              rw [foldF_succ] at hz
              unfold stepF at hz
              rw [hT1j, hc] at hz
              exact hz
      · skip
        have hge : j = T.length + 1 := by have := of_decide_eq_false h4; omega
        -- R:FFF
        conv => whnf
        refine ⟨⟨1, [], []⟩, ?_⟩
        conv => whnf
        exact ⟨rfl, by rw [srcF_go h0, hi2, hge]⟩

end Go.Ab.MkF

namespace Go.Ab.MkF
open Go Go.Ab Go.Ab.Pln Go.Proofs
set_option maxHeartbeats 1000000
set_option maxRecDepth 100000

def srcS (hs : List Sn) : Int × List Int := srcF hs hs.length [] [] (((hs.length + 1 : Nat) : Int), [])
def srcV (hs : List Sn) : List Int × Int × Int := if chHE hs = 0 then ((srcS hs).2, (srcS hs).1, 0) else ([], 0, chHE hs)

theorem c37 (hs : List Sn) (hl : hs.length ≤ 9223372036854775807) : PCalls PR glT 37 [.agg [snsV hs]] fun r => r = .tup [vL (srcV hs).1, vI (srcV hs).2.1, vI (srcV hs).2.2] := by
  refine fnW_sound (parL_ok glT) Tryd.func37 ?_
  conv => whnf
  refine byC (c102 glT hs hl) op102 ?_
  rcases hk : chHE hs with (_ | n) | n
  · skip
    have hk : chHE hs = 0 := hk
    have hV := chH_valid.1 hk
    have hh8 := hV.n8
    have h8 := hV.n8
    have h1 := hV.n1
    have hp : 2 ^ hs.length ≤ 256 := Nat.pow_le_pow_right (n := 2) (by omega) (show hs.length ≤ 8 by omega)
    conv => whnf
    rw [show IntKind.i64.wrap ((hs.length : Int) + 1) = ((hs.length + 1 : Nat) : Int) from wrap_nat (by omega)]
    conv => whnf
    refine ⟨[(6, 1000001), (3, 1000002), (1, 1000003), (7, 1000004), (2, 1000005), (5, 1000006), (8, 1000007), (1006, 1000011), (1007, 1000014)], [1002], ?_⟩
    conv => whnf
    conv => whnf
    conv => whnf
    refine byL (c109 hs hV hs.length 0 (by omega) [] ⟨Nat.zero_le _, fun x h => absurd h (by simp)⟩ [] rfl (((hs.length + 1 : Nat) : Int), [])) op109 ?_
    conv => whnf
    refine ⟨[0, 1, 2, 3, 4], [2], [], [], ⟨67108863, [], []⟩, by decide +kernel, ?_⟩
    conv => whnf
    refine ⟨rfl, ?_⟩
    -- R:a
    conv => whnf
    unfold srcV
    rw [if_pos hk]
    rfl
  · skip
    have hne : ¬ chHE hs = 0 := by rw [hk]; intro e; cases e
    -- R:b
    conv => whnf
    unfold srcV
    rw [if_neg hne, hk]
  · skip
    have hne : ¬ chHE hs = 0 := by rw [hk]; intro e; cases e
    -- R:c
    conv => whnf
    unfold srcV
    rw [if_neg hne, hk]

theorem op37 : Opens PR 37 := ⟨_, Tryd.func37, rfl, rfl⟩

end Go.Ab.MkF
