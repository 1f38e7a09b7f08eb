/-
  THE STATE FAMILY, PART OC: any order of a forme; StateJust.
-/
import Derived.Test.YtmhbchljhnfahaaDoorLawB
namespace Go.Ab.StF
open Go Go.Ab Go.Proofs
set_option maxHeartbeats 1000000
set_option maxRecDepth 100000

/-- A call of which it is only said that what it returns is one of some. -/
theorem byE {gl : Gl} {f : FuncId} {args : List (AV S)} {ι : Type} {R : ι → Prop} {V : ι → AV S} {Q : AV S → Prop} (h : PCalls PR gl f args fun r => ∃ o, R o ∧ r = V o) (ho : Opens PR f) (hw : ∃ o, R o) (hQ : ∀ o, R o → Q (V o)) : PCalls PR gl f args Q ∧ Opens PR f ∧ ∃ r, Q r :=
  ⟨h.mono fun r ⟨o, h1, h2⟩ => by rw [h2]; exact hQ o h1, ho, let ⟨o, h⟩ := hw; ⟨_, hQ o h⟩⟩

/-- The first readings of some loci. -/
structure FstP (xs : List (ByteArray × Int)) (i : Nat) (fs : List Int) : Prop where
  l : fs.length = i
  v : ∀ j, j < i → (fs.getD j 0 = 1 ∨ fs.getD j 0 = 2)
  f : ∀ j, j < i → (xs.getD j (ByteArray.empty, 0)).2 = 0 ∨ (xs.getD j (ByteArray.empty, 0)).2 = fs.getD j 0
theorem FstP.snoc {xs : List (ByteArray × Int)} {i : Nat} {fs : List Int} {v : Int} (h : FstP xs i fs) (hv : v = 1 ∨ v = 2) (hf : (xs.getD i (ByteArray.empty, 0)).2 = 0 ∨ (xs.getD i (ByteArray.empty, 0)).2 = v) : FstP xs (i + 1) (fs ++ [v]) := by
  have hg : ∀ j, j < i + 1 → (fs ++ [v]).getD j 0 = if j = i then v else fs.getD j 0 := fun j hj => by
    rw [List.getD_eq_getElem?_getD]
    by_cases e : j = i
    · rw [if_pos e, List.getElem?_append_right (by rw [h.l]; omega), h.l, e]; simp
    · rw [if_neg e, List.getElem?_append_left (by rw [h.l]; omega), ← List.getD_eq_getElem?_getD]
  refine ⟨by simp [h.l], fun j hj => ?_, fun j hj => ?_⟩ <;> rw [hg j hj] <;> split
  · exact hv
  · exact h.v j (by omega)
  · rename_i e; rw [e]; exact hf
  · exact h.f j (by omega)
theorem pick_val {v : Int} (h : 0 ≤ v ∧ v ≤ 255) : IntKind.i64.wrap (1 + v.tmod 2) = 1 ∨ IntKind.i64.wrap (1 + v.tmod 2) = 2 := by
  rw [Int.tmod_eq_emod_of_nonneg h.1, wrap_int (by omega) (by omega)]; omega
def turnV (l : List Int) (n : Nat) : Int := if l.length = 0 then 0 else l.getD (n % l.length) 0
theorem turn_val {l : List Int} (hb : ∀ v ∈ l, 0 ≤ v ∧ v ≤ 255) (n : Nat) : 0 ≤ turnV l n ∧ turnV l n ≤ 255 := by
  unfold turnV
  split
  · omega
  · rename_i h
    have : n % l.length < l.length := Nat.mod_lt _ (by omega)
    rw [getD_e this]; exact hb _ (List.getElem_mem _)
theorem c105' (gl : Gl) (l : List Int) (hl : l.length ≤ 9223372036854775807) (hb : ∀ v ∈ l, 0 ≤ v ∧ v ≤ 255) (m : Int) (n : Nat) (e : m = n) : PCalls PR gl 105 [.sl (S := S) U.u8 l none, vI m] fun r => r = vI (turnV l n) := by
  subst e; exact c105 gl l hl hb n
theorem nat_of {v : Int} (h : 0 ≤ v ∧ v ≤ 255) {n : Nat} (hn : 1 ≤ n) : ∃ k : Nat, (IntKind.i64.wrap (v.tdiv 2)).tmod (n : Int) = k ∧ k < n := by
  obtain ⟨q, rfl⟩ : ∃ q : Nat, v = q := ⟨v.toNat, by omega⟩
  refine ⟨q / 2 % n, ?_, Nat.mod_lt _ (by omega)⟩
  rw [Int.tdiv_eq_ediv_of_nonneg (by omega), wrap_int (by omega) (by omega), Int.tmod_eq_emod_of_nonneg (by omega), show (q : Int) / 2 = ((q / 2 : Nat) : Int) by omega]; omega
theorem perm_step {n : Nat} {os lf : List Nat} {k : Nat} (h : Perm n (os ++ lf)) (hk : k < lf.length) : Perm n ((os ++ [lf[k]]) ++ (lf.take k ++ lf.drop (k + 1))) := by
  have e : lf = lf.take k ++ lf[k] :: lf.drop (k + 1) := by rw [← List.drop_eq_getElem_cons hk, List.take_append_drop]
  have hp : ((os ++ [lf[k]]) ++ (lf.take k ++ lf.drop (k + 1))).Perm (os ++ lf) := by
    rw [List.append_assoc]
    refine List.Perm.append_left _ ?_
    conv => rhs; rw [e]
    exact (List.perm_middle (a := lf[k]) (l₁ := lf.take k) (l₂ := lf.drop (k + 1))).symm
  exact ⟨hp.nodup_iff.2 h.nodup, fun x hx => h.lt x (hp.mem_iff.1 hx), by rw [hp.length_eq]; exact h.len⟩
theorem nats_get {l : List Nat} {k : Nat} (h : k < l.length) : (natsV l)[k]'(by simpa [natsV] using h) = ((l[k] : Nat) : Int) := by simp [natsV]
theorem nats_len (l : List Nat) : (natsV l).length = l.length := by simp [natsV]

theorem c45 (gl : Gl) {xs : List (ByteArray × Int)} {cs : List (ByteArray × List Int)} (hv : Valid xs cs) (l : List Int) (hl : l.length ≤ 9223372036854775807) (hb : ∀ v ∈ l, 0 ≤ v ∧ v ≤ 255) : PCalls PR gl 45 [.agg [lociV xs, copsV cs], .sl (S := S) U.u8 l none] fun r => ∃ o, Ord xs o ∧ r = ordrV o := by
  have h5 := hv.l5
  have ht := turn_val hb
  refine fnW_sound (par_ok gl) Tryd.func45 ?_
  conv => whnf
  refine ⟨⟨246, [], [6, 1005, 2005]⟩, ?_⟩
  refine LoopW_ind _ (fun s : Nat × List Int => match s with | (i, fs) => (({ tmps := [.undef, .sl (S := S) U.u8 l none, .own 2 [], .undef, .own 4 [], .own 5 [], .sl (S := S) U.int (natsV (List.range i)) (some 6), vI i, .undef, .undef, .undef, .undef, .undef, .undef, .undef, .undef, .undef, .undef, .undef, .undef, .undef, .undef, .undef, .undef, .undef, .undef, .undef, .undef, .undef, .undef, .undef, .undef, .undef, .undef, .undef, .undef, .undef, .undef, .undef, .undef, .undef, .undef, .undef, .undef, .undef, .undef, .undef, .undef, .undef, .undef, .undef, .undef, .undef, .undef, .undef, .undef, .undef, .undef, .undef, .undef, .undef, .undef, .undef, .undef, .undef, .undef, .undef, .undef, .undef, .undef, .undef, .undef, .undef, .undef, .undef], seg := [(2, .cells [lociV xs, copsV cs]), (4, .cells [.sl (S := S) U.int [] (some 1004), .sl (S := S) U.int [] (some 2004)]), (5, .cells [.sl (S := S) U.int fs (some 1005), .sl (S := S) U.int [] (some 2005)]), (6, .row U.int false), (1004, .row U.int true), (1005, .row U.int false), (2004, .row U.int true), (2005, .row U.int false)], up := [] } : St S))) (fun s : Nat × List Int => match s with | (i, fs) => (i ≤ xs.length ∧ FstP xs i fs)) (fun s : Nat × List Int => match s with | (i, fs) => (xs.length - i)) () ?_ (0, []) ⟨Nat.zero_le _, rfl, fun j h => absurd h (by omega), fun j h => absurd h (by omega)⟩
  rintro ⟨i, fs⟩ hinv Z1 hZ1
  dsimp only at hinv hZ1
  obtain ⟨hi, hfs⟩ := hinv
  conv => whnf
  refine bcase_iff.2 ⟨fun h4 => ?_, fun h4 => ?_⟩
  · skip
    have hlt : i < xs.length := by have := of_decide_eq_true h4; omega
    have hw : IntKind.i64.wrap ((i : Int) + 1) = ((i + 1 : Nat) : Int) := wrap_nat (by omega)
    have hfl := hfs.l
    have hxf := hv.fst _ (List.getElem_mem hlt)
    have hxg : (xs.getD i (ByteArray.empty, 0)).2 = xs[i].2 := by rw [getD_e hlt]
    conv => whnf
    refine ⟨_, getI_nat hlt, ?_⟩
    conv => whnf
    refine bcase_iff.2 ⟨fun h7 => ?_, fun h7 => ?_⟩
    · skip
      have h0 : xs[i].2 = 0 := beq_iff_eq.1 h7
      conv => whnf
      refine byC (c105' gl l hl hb _ i rfl) op105 ?_
      conv => whnf
      refine ⟨by omega, ?_⟩
      conv => whnf
      refine ⟨_, rfl, ?_⟩
      conv => whnf
      refine ⟨lim (by show fs.length + 1 ≤ _; omega), ?_⟩
      conv => whnf
      refine ⟨_, rfl, ?_⟩
      conv => whnf
      refine ⟨lim (by show (natsV (List.range i)).length + 1 ≤ _; simp [natsV]; omega), ?_⟩
      -- Z4:TT
      conv => whnf
      refine ⟨⟨246, [33, 34, 38, 39], []⟩, ?_⟩
      conv => whnf
      rw [hw]
      have := hZ1 (i + 1, _) ⟨hlt, hfs.snoc (pick_val (ht i)) (.inl (by rw [hxg]; exact h0))⟩ (by dsimp only; omega)
      rw [List.range_succ, nats_snoc] at this
      exact this
    · skip
      have h0 : xs[i].2 ≠ 0 := beq_eq_false_iff_ne.1 h7
      conv => whnf
      refine ⟨_, rfl, ?_⟩
      conv => whnf
      refine ⟨lim (by show fs.length + 1 ≤ _; omega), ?_⟩
      conv => whnf
      refine ⟨_, rfl, ?_⟩
      conv => whnf
      refine ⟨lim (by show (natsV (List.range i)).length + 1 ≤ _; simp [natsV]; omega), ?_⟩
      -- Z4:TF
      conv => whnf
      refine ⟨⟨246, [33, 34, 38, 39], []⟩, ?_⟩
      conv => whnf
      rw [hw]
      have := hZ1 (i + 1, _) ⟨hlt, hfs.snoc (v := xs[i].2) (by omega) (.inr (by rw [hxg]))⟩ (by dsimp only; omega)
      rw [List.range_succ, nats_snoc] at this
      exact this
  · skip
    have hge : i = xs.length := by have := of_decide_eq_false h4; omega
    conv => whnf
    refine ⟨⟨118, [6], [6]⟩, ?_⟩
    refine LoopW_ind _ (fun s : List Nat × List Nat => match s with | (os, lf) => (({ tmps := [.undef, .sl (S := S) U.u8 l none, .own 2 [], .undef, .own 4 [], .own 5 [], vL (natsV lf), .undef, .undef, .undef, .undef, .undef, .undef, .undef, .undef, .undef, .undef, .undef, .undef, .undef, .undef, .undef, .undef, .undef, .undef, .undef, .undef, .undef, .undef, .undef, .undef, .undef, .undef, .undef, .undef, .undef, .undef, .undef, .undef, .undef, .undef, .undef, .undef, .undef, .undef, .undef, .undef, .undef, .undef, .undef, .undef, .undef, .undef, .undef, .undef, .undef, .undef, .undef, .undef, .undef, .undef, .undef, .undef, .undef, .undef, .undef, .undef, .undef, .undef, .undef, .undef, .undef, .undef, .undef, .undef], seg := [(2, .cells [lociV xs, copsV cs]), (4, .cells [.sl (S := S) U.int [] (some 1004), .sl (S := S) U.int [] (some 2004)]), (5, .cells [.sl (S := S) U.int fs (some 1005), .sl (S := S) U.int (natsV os) (some 2005)]), (1004, .row U.int true), (1005, .row U.int false), (2004, .row U.int true), (2005, .row U.int false)], up := [] } : St S))) (fun s : List Nat × List Nat => match s with | (os, lf) => (Perm xs.length (os ++ lf))) (fun s : List Nat × List Nat => match s with | (os, lf) => (lf.length)) () ?_ ([], List.range i) (by rw [hge]; exact ⟨List.nodup_range, fun x hx => List.mem_range.1 hx, by simp⟩)
    rintro ⟨os, lf⟩ hp Z2 hZ2
    dsimp only at hp hZ2
    have hpl : os.length + lf.length = xs.length := by have := hp.len; simpa using this
    have hnl := nats_len lf
    have hnx := nats_len os
    conv => whnf
    refine bcase_iff.2 ⟨fun h11 => ?_, fun h11 => ?_⟩
    · skip
      have hpos : 1 ≤ lf.length := by have := of_decide_eq_true h11; omega
      obtain ⟨k, hK, hk⟩ := nat_of (ht (xs.length + lf.length)) hpos
      have hK0 := hK
      rw [show ((lf.length : Nat) : Int) = (((natsV lf).length : Nat) : Int) by rw [hnl]] at hK
      have hkn : k < (natsV lf).length := by omega
      have hw1 : IntKind.i64.wrap ((k : Int) + 1) = ((k + 1 : Nat) : Int) := wrap_nat (by omega)
      conv => whnf
      refine byC (c105' gl l hl hb _ (xs.length + lf.length) (by rw [hnl, wrap_int (by omega) (by omega)]; omega)) op105 ?_
      conv => whnf
      refine ⟨by omega, ?_⟩
      conv => whnf
      refine ⟨by omega, ?_⟩
      conv => whnf
      refine ⟨[0, 1, 2, 3, 4, 5, 6, 7, 8, 9], [6], [], [], ⟨37778931862957161709567, [], []⟩, by decide +kernel, ?_⟩
      conv => whnf
      refine ⟨_, getI_at hK hkn, ?_⟩
      conv => whnf
      refine ⟨_, rfl, ?_⟩
      conv => whnf
      refine ⟨lim (by show (natsV os).length + 1 ≤ _; omega), ?_⟩
      conv => whnf
      refine ⟨[0, 1, 2, 3, 5, 6, 7, 8, 4, 9, 10], [4], [], [], ⟨37778931862957161709567, [], []⟩, by decide +kernel, ?_⟩
      conv => whnf
      refine ⟨by omega, ?_⟩
      conv => whnf
      refine ⟨Nat.zero_le _, (show Int.toNat _ ≤ (natsV lf).length by rw [hK, Int.toNat_natCast]; omega), ?_⟩
      conv => whnf
      refine ⟨by rw [hK, hw1]; omega, ?_⟩
      conv => whnf
      refine ⟨(show Int.toNat _ ≤ (natsV lf).length by rw [hK, hw1, Int.toNat_natCast]; omega), Nat.le_refl _, ?_⟩
      conv => whnf
      refine ⟨lim (by simp only [List.length_drop, List.length_take]; omega), ?_⟩
      conv => whnf
      refine ⟨lim (by simp only [List.length_drop, List.length_take]; omega), ?_⟩
      -- Z11:T
      conv => whnf
      refine ⟨⟨118, [61, 62, 68, 73], []⟩, ?_⟩
      conv => whnf
      have hd : (natsV lf).take (((natsV lf).length : Int)).toNat = natsV lf := by rw [Int.toNat_natCast, List.take_length]
      have := hZ2 (os ++ [lf[k]], lf.take k ++ lf.drop (k + 1)) (perm_step hp hk) (by dsimp only; simp only [List.length_append, List.length_take, List.length_drop]; omega)
      rw [nats_snoc, ← nats_get hk, show natsV (lf.take k ++ lf.drop (k + 1)) = (natsV lf).take k ++ (natsV lf).drop (k + 1) by simp [natsV, List.map_take, List.map_drop]] at this
      simp only [hK, hw1, Int.toNat_natCast, List.drop_zero, List.take_length]
      exact this
    · skip
      have hz : lf = [] := List.eq_nil_of_length_eq_zero (by have := of_decide_eq_false h11; omega)
      -- R:FF
      conv => whnf
      refine ⟨(fs, natsV os), ⟨by rw [hfs.l, hge], fun j hj => hfs.v j (by omega), fun j hj => hfs.f j (by omega), os, by rw [hz, List.append_nil] at hp; exact hp, rfl⟩, rfl⟩

theorem op45 : Opens PR 45 := ⟨_, Tryd.func45, rfl, rfl⟩


end Go.Ab.StF
