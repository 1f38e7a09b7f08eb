/-
  THE SKELETON FAMILY, PLAIN LAW, PART J: how long parts of jobs are, and what a map of counts holds.
  THE SKELETON FAMILY, PART WJ: some formes, and Proof: of the program.
  THE SKELETON FAMILY, PART WK: Proof: of the program.
  THE SKELETON FAMILY, PART WL: Share: of the program.
-/
import Derived.Test.YtfhippofplmpdaaDoorSkelA
import Derived.Test.YtfhippofplmpdaaDoorSkelD
namespace Go.Ab.SkF
open Go Go.Ab Go.Ab.Pln

theorem cons_len {β : Type} (x : Sg) (ss : Sgs) (v : Nat → Int) (g : Nat → Sg → β) : ∀ ks : List Nat, (ks.flatMap fun k => ((x :: ss).filter fun y => y.1 == v k).map (g k)).length =
    (ks.flatMap fun k => (ss.filter fun y => y.1 == v k).map (g k)).length + (ks.filter fun k => x.1 == v k).length
  | [] => rfl
  | k :: ks => by
    have ih := cons_len x ss v g ks
    rw [List.flatMap_cons, List.flatMap_cons, List.length_append, List.length_append, ih, List.length_map, List.length_map]
    cases hb : x.1 == v k with
    | true =>
      rw [List.filter_cons_of_pos (l := ss) (a := x) (by exact hb), List.filter_cons_of_pos (l := ks) (a := k) (by exact hb), List.length_cons, List.length_cons]
      omega
    | false =>
      rw [List.filter_cons_of_neg (l := ss) (a := x) (by rw [hb]; simp), List.filter_cons_of_neg (l := ks) (a := k) (by rw [hb]; simp)]
      omega

theorem filter_one {q : Nat → Bool} : ∀ {l : List Nat}, l.Nodup → (∀ a ∈ l, ∀ b ∈ l, q a = true → q b = true → a = b) → (l.filter q).length ≤ 1
  | [], _, _ => by simp
  | a :: l, hn, h => by
    rw [List.nodup_cons] at hn
    rw [List.filter_cons]
    split
    · rename_i ha
      have : l.filter q = [] := by
        rw [List.filter_eq_nil_iff]
        intro b hb hqb
        have := h a (List.mem_cons_self ..) b (List.mem_cons_of_mem _ hb) ha hqb
        rw [this] at hn; exact hn.1 hb
      rw [this]; simp
    · exact filter_one hn.2 fun a ha b hb => h a (List.mem_cons_of_mem _ ha) b (List.mem_cons_of_mem _ hb)

theorem subP_le {l : List Nat} (hl : l.Pairwise (· < ·)) : ∀ ss : Sgs, (subP ss l).length ≤ ss.length
  | [] => by
    have e : ∀ n : List Nat, (n.flatMap fun k => (([] : Sgs).filter fun x => x.1 == ((l.getD k 0 : Nat) : Int)).map fun x => (((k : Nat) : Int), x.2)) = [] := fun n => by
      induction n with
      | nil => rfl
      | cons a n ih => rw [List.flatMap_cons, ih]; rfl
    unfold subP
    rw [e]; exact Nat.le_refl _
  | x :: ss => by
    have ih := subP_le hl ss
    unfold subP at ih ⊢
    have e := cons_len x ss (fun k => ((l.getD k 0 : Nat) : Int)) (fun k x => (((k : Nat) : Int), x.2)) (List.range l.length)
    have h1 : ((List.range l.length).filter fun k => x.1 == ((l.getD k 0 : Nat) : Int)).length ≤ 1 := by
      refine filter_one List.nodup_range fun a ha b hb h1 h2 => ?_
      have h1 : x.1 = ((l.getD a 0 : Nat) : Int) := by simpa using h1
      have h2 : x.1 = ((l.getD b 0 : Nat) : Int) := by simpa using h2
      have ha := List.mem_range.1 ha
      have hb := List.mem_range.1 hb
      rw [getD_at ha] at h1
      rw [getD_at hb] at h2
      have hp := List.pairwise_iff_getElem.1 hl
      rcases Nat.lt_trichotomy a b with hab | hab | hab
      · have := hp a b ha hb hab; omega
      · exact hab
      · have := hp b a hb ha hab; omega
    rw [List.length_cons]
    rw [e]
    omega
end Go.Ab.SkF

namespace Go.Ab.SkF
open Go Go.Ab Go.Ab.Pln Go.Proofs
set_option maxHeartbeats 1000000
set_option maxRecDepth 100000

/-- The sightings of the first formes of some. -/
def subK (ss : Sgs) (l : List Nat) (k m : Nat) : Sgs := subP ss (l.take k) ++ ((ss.take m).filter fun x => x.1 == ((l.getD k 0 : Nat) : Int)).map fun x => (((k : Nat) : Int), x.2)
theorem subK_zero (ss : Sgs) (l : List Nat) (k : Nat) : subK ss l k 0 = subP ss (l.take k) := by simp [subK]
theorem subK_T {ss : Sgs} {l : List Nat} {k m : Nat} (h : m < ss.length) (hx : ss[m].1 = ((l.getD k 0 : Nat) : Int)) : subK ss l k (m + 1) = subK ss l k m ++ [(((k : Nat) : Int), ss[m].2)] := by
  unfold subK
  have hb : (ss[m].1 == ((l.getD k 0 : Nat) : Int)) = true := by rw [hx]; exact beq_self_eq_true _
  rw [take_snoc h, List.filter_append, List.map_append, List.append_assoc, List.filter_cons_of_pos (by exact hb)]; rfl
theorem subK_F {ss : Sgs} {l : List Nat} {k m : Nat} (h : m < ss.length) (hx : ss[m].1 ≠ ((l.getD k 0 : Nat) : Int)) : subK ss l k (m + 1) = subK ss l k m := by
  unfold subK
  have hb : ¬ (ss[m].1 == ((l.getD k 0 : Nat) : Int)) = true := by rw [beq_iff_eq]; exact hx
  rw [take_snoc h, List.filter_append, List.map_append, List.filter_cons_of_neg (by exact hb)]
  simp only [List.filter_nil, List.map_nil, List.append_nil]
theorem subK_all {ss : Sgs} {l : List Nat} {k : Nat} (h : k < l.length) : subK ss l k ss.length = subP ss (l.take (k + 1)) := by
  unfold subK subP
  rw [List.take_length, List.length_take, List.length_take, Nat.min_eq_left (by omega), Nat.min_eq_left (by omega), List.range_succ, List.flatMap_append]
  congr 1
  · rw [List.flatMap_def, List.flatMap_def]
    congr 1
    refine List.map_congr_left fun j hj => ?_
    have hj := List.mem_range.1 hj
    rw [getD_take hj, getD_take (by omega)]
  · simp only [List.flatMap_cons, List.flatMap_nil, List.append_nil]
    rw [getD_take (by omega)]
theorem subF_snoc (fs : Fms) {l : List Nat} {k : Nat} (h : k < l.length) : subF fs (l.take (k + 1)) = subF fs (l.take k) ++ [fs.getD (l.getD k 0) f0] := by
  unfold subF
  rw [take_snoc h, List.map_append, getD_at h]; rfl
theorem flat_len {α β : Type} {f : α → List β} {c : Nat} : ∀ {l : List α}, (∀ a ∈ l, (f a).length ≤ c) → (l.flatMap f).length ≤ l.length * c
  | [], _ => by simp
  | a :: l, h => by
    rw [List.flatMap_cons, List.length_append, List.length_cons, Nat.succ_mul]
    have h1 := h a (List.mem_cons_self ..)
    have h2 := flat_len (f := f) (c := c) (l := l) fun b hb => h b (List.mem_cons_of_mem _ hb)
    omega
theorem subP_len {ss : Sgs} {l : List Nat} : (subP ss l).length ≤ l.length * ss.length := by
  have h := flat_len (f := fun k => (ss.filter fun x => x.1 == ((l.getD k 0 : Nat) : Int)).map fun x => (((k : Nat) : Int), x.2)) (c := ss.length) (l := List.range l.length) (fun k _ => by rw [List.length_map]; exact List.length_filter_le _ _)
  rw [List.length_range] at h
  exact h
theorem subK_len {ss : Sgs} {l : List Nat} {k m : Nat} (hl : l.length ≤ 64) (hs : ss.length ≤ 100) (_hk : k ≤ l.length) : (subK ss l k m).length ≤ 7000 := by
  unfold subK
  rw [List.length_append, List.length_map]
  have h1 := subP_len (ss := ss) (l := l.take k)
  have h2 := List.length_filter_le (fun x : Sg => x.1 == ((l.getD k 0 : Nat) : Int)) (ss.take m)
  have h3 : (l.take k).length * ss.length ≤ 64 * 100 := Nat.mul_le_mul (by simp; omega) hs
  have h4 : (ss.take m).length ≤ ss.length := by simp; omega
  omega

theorem c89 (ts : List ByteArray) (fs : List Fm) (ss : List Sg) (hf8 : fs.length ≤ 8) (hs : ss.length ≤ 100) (s : Nat) (hs2 : s < 2 ^ fs.length) : PCalls PR glT 89 [.agg [strsV ts, fmsV fs, sgsV ss], vI s] fun r => r = .agg [strsV ts, fmsV (subF fs (bitsL s)), sgsV (subP ss (bitsL s))] := by
  have h256 : 2 ^ fs.length ≤ 2 ^ 8 := Nat.pow_le_pow_right (n := 2) (by omega) hf8
  have hbl : (bitsL s).length ≤ fs.length := asc_le (bits_asc (by omega) hs2)
  refine fnW_sound (par_ok glT) Tryd.func89 ?_
  conv => whnf
  refine byC (c111 s (by omega)) op111 ?_
  conv => whnf
  refine loop_q fun Q1 hQ1 => ?_
  refine ⟨⟨114740, [1005, 2005, 3005], [1005, 2005, 3005, 902005, 903005]⟩, ?_⟩
  refine LoopW_ind _ (fun k : Nat => (({ tmps := [.undef, .undef, .own 2 [], .undef, .own 4 [], .own 5 [], .undef, .undef, .undef, .undef, .undef, .undef, .undef, .undef, vL (natsV (bitsL s)), vI (natsV (bitsL s)).length, vI k, .undef, .undef, .undef, .undef, .undef, .undef, .undef, .undef, .undef, .undef, .undef, .undef, .undef, .undef, .undef, .undef, .undef, .undef, .undef, .undef, .undef, .undef, .undef, .undef, .undef, .undef, .undef, .undef, .undef, .undef, .undef, .undef, .undef, .undef, .undef, .undef, .undef], seg := [(2, .cells [strsV ts, fmsV fs, sgsV ss]), (4, .cells [.sl (S := S) U.str [] (some 1004), .sl (S := S) U.forme [] (some 2004), .sl (S := S) U.sight [] (some 3004)]), (5, .cells [strsV ts, .sl (S := S) U.forme (subF fs ((bitsL s).take k)) (some 902005), .sl (S := S) U.sight (subP ss ((bitsL s).take k)) (some 903005)]), (1004, .row U.str true), (2004, .row U.forme true), (3004, .row U.sight true), (902005, .row U.forme false), (903005, .row U.sight false)], up := [] } : St S))) (fun k : Nat => (k ≤ (bitsL s).length)) (fun k : Nat => ((bitsL s).length - k)) () ?_ 0 (Nat.zero_le _)
  intro k hi Z1 hZ1
  conv => whnf
  refine bcase_iff.2 ⟨fun h3 => ?_, fun h3 => ?_⟩
  · skip
    rw [natsV_length] at h3
    have hlt : k < (bitsL s).length := by have := of_decide_eq_true h3; omega
    have hw : IntKind.i64.wrap ((k : Int) + 1) = ((k + 1 : Nat) : Int) := wrap_nat (by omega)
    have hfl : (subF fs ((bitsL s).take k)).length = k := by rw [subF_len, List.length_take]; omega
    have hlk : (bitsL s).getD k 0 < fs.length := by rw [getD_at hlt]; exact ((bits_mem (by omega) hs2).1 (List.getElem_mem hlt)).1
    conv => whnf
    refine ⟨_, getI_natsD hlt, ?_⟩
    conv => whnf
    rw [← subK_zero ss (bitsL s) k]
    refine ⟨⟨14794932, [], []⟩, ?_⟩
    refine LoopW_ind _ (fun m : Nat => (({ tmps := [.undef, .undef, .own 2 [], .undef, .own 4 [], .own 5 [], .undef, vI ((bitsL s).getD k 0), .undef, .undef, .undef, .undef, .undef, .undef, vL (natsV (bitsL s)), vI (natsV (bitsL s)).length, vI k, .undef, .undef, .undef, .undef, sgsV ss, vI ss.length, vI m, .undef, .undef, .undef, .undef, .undef, .undef, .undef, .undef, .undef, .undef, .undef, .undef, .undef, .undef, .undef, .undef, .undef, .undef, .undef, .undef, .undef, .undef, .undef, .undef, .undef, .undef, .undef, .undef, .undef, .undef], seg := [(2, .cells [strsV ts, fmsV fs, sgsV ss]), (4, .cells [.sl (S := S) U.str [] (some 1004), .sl (S := S) U.forme [] (some 2004), .sl (S := S) U.sight [] (some 3004)]), (5, .cells [strsV ts, .sl (S := S) U.forme (subF fs ((bitsL s).take k)) (some 902005), .sl (S := S) U.sight (subK ss (bitsL s) k m) (some 903005)]), (1004, .row U.str true), (2004, .row U.forme true), (3004, .row U.sight true), (902005, .row U.forme false), (903005, .row U.sight false)], up := [] } : St S))) (fun m : Nat => (m ≤ ss.length)) (fun m : Nat => (ss.length - m)) () ?_ 0 (Nat.zero_le _)
    intro m hm Z2 hZ2
    conv => whnf
    refine bcase_iff.2 ⟨fun h6 => ?_, fun h6 => ?_⟩
    · skip
      have hlt6 : m < ss.length := by have := of_decide_eq_true h6; omega
      have hw6 : IntKind.i64.wrap ((m : Int) + 1) = ((m + 1 : Nat) : Int) := wrap_nat (by omega)
      have hkl := subK_len (m := m) (show (bitsL s).length ≤ 64 by omega) hs hi
      conv => whnf
      refine ⟨_, getI_nat (by omega), ?_⟩
      conv => whnf
      refine bcase_iff.2 ⟨fun h8 => ?_, fun h8 => ?_⟩
      · skip
        have hx : ss[m].1 = (((bitsL s).getD k 0 : Nat) : Int) := by have h8 : (ss[m].1 == (((bitsL s).getD k 0 : Nat) : Int)) = true := h8; simpa using h8
        conv => whnf
        refine ⟨_, rfl, ?_⟩
        conv => whnf
        refine ⟨lim (by simp <;> omega), ?_⟩
        -- Z6:TT
        conv => whnf
        refine ⟨⟨14794932, [9, 38, 39, 1009, 2009, 3009, 4009], []⟩, ?_⟩
        conv => whnf
        rw [hw6, hfl]
        have := hZ2 (m + 1) hlt6 (by omega)
        rw [subK_T hlt6 hx] at this
        exact this
      · skip
        have hx : ss[m].1 ≠ (((bitsL s).getD k 0 : Nat) : Int) := by have h8 : (ss[m].1 == (((bitsL s).getD k 0 : Nat) : Int)) = false := h8; simpa using h8
        -- Z6:TF
        conv => whnf
        refine ⟨⟨14794932, [9, 38, 39, 1009, 2009, 3009, 4009], []⟩, ?_⟩
        conv => whnf
        rw [hw6]
        have := hZ2 (m + 1) hlt6 (by omega)
        rw [subK_F hlt6 hx] at this
        exact this
    · skip
      have hge6 : m = ss.length := by have := of_decide_eq_false h6; omega
      rw [hge6, subK_all hlt]
      conv => whnf
      refine ⟨[0, 1, 2, 3, 4, 5, 6, 7, 8, 9, 10], [7], [], [], ⟨18014398509481983, [], []⟩, by decide +kernel, ?_⟩
      conv => whnf
      refine ⟨_, getI_nat hlk, ?_⟩
      conv => whnf
      refine ⟨_, rfl, ?_⟩
      conv => whnf
      refine ⟨lim (by simp <;> omega), ?_⟩
      -- Z3:TF
      conv => whnf
      refine ⟨⟨114740, [9, 38, 39, 49, 50, 1009, 2009, 3009, 4009], []⟩, ?_⟩
      conv => whnf
      rw [hw]
      have := hZ1 (k + 1) hlt (by omega)
      rw [subF_snoc fs hlt, getD_at hlk] at this
      exact this
  · skip
    rw [natsV_length] at h3
    have hge : k = (bitsL s).length := by have := of_decide_eq_false h3; omega
    conv => whnf
    refine (hQ1 _ _ _).mpr ?_
    -- R:F
    conv => whnf
    rw [hge, List.take_length]

theorem op89 : Opens PR 89 := ⟨_, Tryd.func89, rfl, rfl⟩

end Go.Ab.SkF

namespace Go.Ab.SkF
open Go Go.Ab Go.Ab.Pln Go.Proofs
set_option maxHeartbeats 1000000
set_option maxRecDepth 100000

/-- What a map of counts holds. -/
abbrev KV (kvs : List (Nat × Nat)) : List (AV S × AV S) := kvs.map fun p => (vI p.1, vI p.2)
/-- The boxes of Proof. -/
abbrev upsP (ts : List ByteArray) (fs : Fms) (ss : Sgs) (x : List Nat) (all : Nat) (kvs : List (Nat × Nat)) : List (Nat × AO S) :=
  [(1, .cells (jobC ts fs ss)), (2, .row U.int true), (6, .cells [arr8 (pad8 x)]), (7, .cells [vI all]), (8, .cells [.mpu 32]), (32, .mp (KV kvs))]
theorem look_none {s : Nat} : ∀ {kvs : List (Nat × Nat)}, (∀ p ∈ kvs, p.1 < s) → lookM keqI (vI s) (KV kvs) = some none
  | [], _ => rfl
  | p :: kvs, h => by
    have h1 := h p (List.mem_cons_self ..)
    have h2 := look_none (kvs := kvs) fun q hq => h q (List.mem_cons_of_mem _ hq)
    have e : keqI (vI s) (vI p.1) = some false := by
      show some (((s : Nat) : Int) == ((p.1 : Nat) : Int)) = _
      rw [eqN]; congr 1; simp; omega
    show (match keqI (vI s) (vI p.1) with | none => none | some true => some (some (vI p.2)) | some false => lookM keqI (vI s) (KV kvs)) = _
    rw [e]; exact h2
theorem look_some {s m : Nat} : ∀ {kvs : List (Nat × Nat)}, (∀ p ∈ kvs, p.1 < s) → lookM keqI (vI s) (KV kvs ++ [(vI s, vI m)]) = some (some (vI m))
  | [], _ => by
    have e : keqI (vI s) (vI s) = some true := by
      show some (((s : Nat) : Int) == ((s : Nat) : Int)) = _
      simp
    show (match keqI (vI s) (vI s) with | none => none | some true => some (some (vI m)) | some false => lookM keqI (vI s) []) = _
    rw [e]
  | p :: kvs, h => by
    have h1 := h p (List.mem_cons_self ..)
    have h2 := look_some (m := m) (kvs := kvs) fun q hq => h q (List.mem_cons_of_mem _ hq)
    have e : keqI (vI s) (vI p.1) = some false := by
      show some (((s : Nat) : Int) == ((p.1 : Nat) : Int)) = _
      rw [eqN]; congr 1; simp; omega
    show (match keqI (vI s) (vI p.1) with | none => none | some true => some (some (vI p.2)) | some false => lookM keqI (vI s) (KV kvs ++ [(vI s, vI m)])) = _
    rw [e]; exact h2
theorem KV_snoc (kvs : List (Nat × Nat)) (s m : Nat) : KV (kvs ++ [(s, m)]) = KV kvs ++ [(vI s, vI m)] := by simp [KV]
theorem op88 : Opens PR 88 := ⟨_, Tryd.func88, rfl, rfl⟩

theorem u88 (ts : List ByteArray) (fs : Fms) (ss : Sgs) (hV : Valid ts fs ss) (x : List Nat) (all : Nat) (kvs : List (Nat × Nat)) (set : Nat) (hset : set < 2 ^ fs.length) (hk : ∀ p ∈ kvs, p.1 < set)
    (Q : AV S → List (Nat × AO S) → Unit → Prop) (h : Q (vB (proofD fs ss all set)) (upsP ts fs ss x all (kvs ++ [(set, manyJ (subF fs (bitsL set)) (subP ss (bitsL set)))])) ()) (En : Env Unit) :
    UCalls PR glT En 88 [vI set, .up 1 [], .up 8 [], .up 7 []] (upsP ts fs ss x all kvs) () Q := by
  have hv := hV.job
  have hf8 := hv.n8
  have hs6 := hv.s6
  have hv12 := hV.s12
  have hasc := bits_asc (c := fs.length) (by omega) hset
  have hbl := asc_le hasc
  have hfl := subF_len fs (bitsL set)
  have hs1 := (sub_ok hs6 (bitsL set)).2
  rw [← hfl] at hs1
  have hf1 : (subF fs (bitsL set)).length ≤ 8 := by rw [hfl]; omega
  have hsl := subP_le hasc.1 ss
  have he : (((manyJ (subF fs (bitsL set)) (subP ss (bitsL set)) : Nat) : Int) == (all : Int)) = proofD fs ss all set := eqN
  unfold upsP at h
  rw [KV_snoc, ← he] at h
  refine fnU_sound (par_ok glT En) Tryd.func88 ?_
  conv => whnf
  refine byC (c89 ts fs ss hf8 (by omega) set hset) op89 ?_
  conv => whnf
  refine ⟨[0, 1, 2, 3, 4, 5, 6, 7], [], [], [], ⟨1099511627775, [], []⟩, by decide +kernel, ?_⟩
  conv => whnf
  refine ⟨by omega, ?_⟩
  conv => whnf
  refine byC (c80a glT ts (subF fs (bitsL set)) (subP ss (bitsL set)) hf1 hs1 (by omega)) op80 ?_
  conv => whnf
  refine ⟨[0, 1, 2, 3, 4, 5, 6, 7, 8, 9, 10, 11, 12, 13, 14, 15, 16, 17], [], [], [], ⟨1099511627775, [], []⟩, by decide +kernel, ?_⟩
  conv => whnf
  refine byC (c84j glT (subF fs (bitsL set)) (subP ss (bitsL set)) hf1 hs1) op84 ?_
  conv => whnf
  refine ⟨none, look_none hk, ?_⟩
  conv => whnf
  refine ⟨some (vI (manyJ (subF fs (bitsL set)) (subP ss (bitsL set)))), look_some hk, ?_⟩
  -- R:
  conv => whnf
  exact h

theorem snoc_lt {kvs : List (Nat × Nat)} {i m : Nat} (hk : ∀ p ∈ kvs, p.1 < i) : ∀ p ∈ kvs ++ [(i, m)], p.1 < i + 1 := fun p hp => by
  rcases List.mem_append.1 hp with hp | hp
  · have := hk p hp; omega
  · rw [List.mem_singleton] at hp; rw [hp]; exact Nat.lt_succ_self i

theorem u78P (ts : List ByteArray) (fs : Fms) (ss : Sgs) (hV : Valid ts fs ss) (x : List Nat) (all : Nat) (Q : AV S → List (Nat × AO S) → Unit → Prop) (h : ∀ kvs, Q (vL (few (proofD fs ss all) (2 ^ fs.length)).1) (upsP ts fs ss x all kvs) ()) (En : Env Unit) :
    UCalls PR glT En 78 [vI fs.length, .clo (.func 88) [] [.up 1 [], .up 8 [], .up 7 []]] (upsP ts fs ss x all []) () Q := by
  have hn8 := hV.n7
  have h4096 : 2 ^ fs.length ≤ 2 ^ 7 := Nat.pow_le_pow_right (n := 2) (by omega) (show fs.length ≤ 7 by omega)
  have hshl : shlI .i64 1 (fs.length : Int) = ((2 ^ fs.length : Nat) : Int) := shl_one (by omega)
  refine fnU_sound (par_ok glT En) Tryd.func78 ?_
  conv => whnf
  refine ⟨by omega, ?_⟩
  conv => whnf
  refine ⟨⟨1586, [4], [4]⟩, ?_⟩
  refine LoopW_ind _ (fun s9 : Nat × List (Nat × Nat) => match s9 with | (i, kvs) => (({ tmps := [.undef, .clo (.func 88) [] [.up 1 [], .up 8 [], .up 7 []], .undef, .undef, vL (few (proofD fs ss all) i).1, vB (few (proofD fs ss all) i).2, .undef, .undef, .undef, vI (shlI .i64 1 (fs.length : Int)), vI i, .undef, .undef, .undef, .undef, .undef, .undef, .undef, .undef, .undef, .undef, .undef, .undef, .undef, .undef, .undef, .undef, .undef, .undef, .undef, .undef, .undef, .undef, .undef, .undef, .undef, .undef, .undef, .undef, .undef, .undef, .undef], seg := [], up := upsP ts fs ss x all kvs } : St S))) (fun s9 : Nat × List (Nat × Nat) => match s9 with | (i, kvs) => (i ≤ 2 ^ fs.length ∧ ∀ p ∈ kvs, p.1 < i)) (fun s9 : Nat × List (Nat × Nat) => match s9 with | (i, kvs) => (2 ^ fs.length - i)) () ?_ (0, []) ⟨Nat.zero_le _, fun p hp => by cases hp⟩
  rintro ⟨i, kvs⟩ hinv Z1 hZ1
  dsimp only at hinv hZ1
  obtain ⟨hi, hk⟩ := hinv
  have hfl := few_len (proofD fs ss all) i (by omega)
  have hbl := bitsL_len i
  have hst : few (proofD fs ss all) (i + 1) = fewStep (proofD fs ss all) (few (proofD fs ss all) i) i := few_succ (proofD fs ss all) i
  obtain ⟨⟨best, is⟩, hq⟩ : ∃ s, few (proofD fs ss all) i = s := ⟨_, rfl⟩
  rw [hq] at hfl hst
  simp only at hfl
  conv => whnf
  refine bcase_iff.2 ⟨fun h3 => ?_, fun h3 => ?_⟩
  · skip
    rw [hq]
    rw [hshl] at h3
    have hlt : i < 2 ^ fs.length := by have := of_decide_eq_true h3; omega
    have hw : IntKind.i64.wrap ((i : Int) + 1) = ((i + 1 : Nat) : Int) := wrap_nat (by omega)
    have hgo : skipB (best, is) (natsV (bitsL i)) = false → few (proofD fs ss all) (i + 1) = if (proofD fs ss all) i then (natsV (bitsL i), true) else (best, is) := fun h => by rw [hst, fewStep, h]; rfl
    have hno : skipB (best, is) (natsV (bitsL i)) = true → few (proofD fs ss all) (i + 1) = (best, is) := fun h => by rw [hst, fewStep, if_pos h]
    conv => whnf
    refine byC (c111 i (by omega)) op111 ?_
    rcases is with _ | _
    · skip
      have hs := hgo rfl
      conv => whnf
      refine ⟨fun En' _ => u88 ts fs ss hV x all kvs i hlt hk _ ?_ En', op88⟩
      conv => whnf
      refine bcase_iff.2 ⟨fun h7 => ?_, fun h7 => ?_⟩
      · skip
        rw [if_pos h7] at hs
        -- Z3:TaT
        conv => whnf
        refine ⟨⟨1586, [], []⟩, ?_⟩
        conv => whnf
        rw [hw]
        have := hZ1 (i + 1, kvs ++ [(i, manyJ (subF fs (bitsL i)) (subP ss (bitsL i)))]) ⟨hlt, snoc_lt hk⟩ (by omega)
        rw [hs] at this
        exact this
      · skip
        rw [if_neg (by rw [h7]; simp)] at hs
        -- Z3:TaF
        conv => whnf
        refine ⟨⟨1586, [], []⟩, ?_⟩
        conv => whnf
        rw [hw]
        have := hZ1 (i + 1, kvs ++ [(i, manyJ (subF fs (bitsL i)) (subP ss (bitsL i)))]) ⟨hlt, snoc_lt hk⟩ (by omega)
        rw [hs] at this
        exact this
    · skip
      conv => whnf
      refine bcase_iff.2 ⟨fun g6_7 => ?_, fun g6_7 => ?_⟩
      · skip
        have g : decide (((natsV (bitsL i)).length : Int) > best.length) = true := g6_7
        have hs := hno (by unfold skipB; rw [g]; rfl)
        -- Z3:TbT
        conv => whnf
        refine ⟨⟨1586, [], []⟩, ?_⟩
        conv => whnf
        rw [hw]
        have := hZ1 (i + 1, kvs) ⟨hlt, fun p hp => by have := hk p hp; omega⟩ (by omega)
        rw [hs] at this
        exact this
      · skip
        have g7 : decide (((natsV (bitsL i)).length : Int) > best.length) = false := g6_7
        conv => whnf
        refine bcase_iff.2 ⟨fun g6_13 => ?_, fun g6_13 => ?_⟩
        · skip
          have g13 : (((natsV (bitsL i)).length : Int) == best.length) = true := g6_13
          conv => whnf
          refine byC (c112 glT (natsV (bitsL i)) best (by simp; omega) hfl) op112 ?_
          conv => whnf
          refine bcase_iff.2 ⟨fun h6 => ?_, fun h6 => ?_⟩
          · skip
            have g6 : decide (cmpL cmpI (natsV (bitsL i)) best > 0) = true := h6
            have hs := hno (by unfold skipB; rw [g7, g13, g6]; rfl)
            -- Z3:TbFTT
            conv => whnf
            refine ⟨⟨1586, [], []⟩, ?_⟩
            conv => whnf
            rw [hw]
            have := hZ1 (i + 1, kvs) ⟨hlt, fun p hp => by have := hk p hp; omega⟩ (by omega)
            rw [hs] at this
            exact this
          · skip
            have g6 : decide (cmpL cmpI (natsV (bitsL i)) best > 0) = false := h6
            have hs := hgo (by unfold skipB; rw [g7, g13, g6]; rfl)
            conv => whnf
            refine ⟨fun En' _ => u88 ts fs ss hV x all kvs i hlt hk _ ?_ En', op88⟩
            conv => whnf
            refine bcase_iff.2 ⟨fun h7 => ?_, fun h7 => ?_⟩
            · skip
              rw [if_pos h7] at hs
              -- Z3:TbFTFT
              conv => whnf
              refine ⟨⟨1586, [], []⟩, ?_⟩
              conv => whnf
              rw [hw]
              have := hZ1 (i + 1, kvs ++ [(i, manyJ (subF fs (bitsL i)) (subP ss (bitsL i)))]) ⟨hlt, snoc_lt hk⟩ (by omega)
              rw [hs] at this
              exact this
            · skip
              rw [if_neg (by rw [h7]; simp)] at hs
              -- Z3:TbFTFF
              conv => whnf
              refine ⟨⟨1586, [], []⟩, ?_⟩
              conv => whnf
              rw [hw]
              have := hZ1 (i + 1, kvs ++ [(i, manyJ (subF fs (bitsL i)) (subP ss (bitsL i)))]) ⟨hlt, snoc_lt hk⟩ (by omega)
              rw [hs] at this
              exact this
        · skip
          have g13 : (((natsV (bitsL i)).length : Int) == best.length) = false := g6_13
          have hs := hgo (by unfold skipB; rw [g7, g13]; rfl)
          conv => whnf
          refine ⟨fun En' _ => u88 ts fs ss hV x all kvs i hlt hk _ ?_ En', op88⟩
          conv => whnf
          refine bcase_iff.2 ⟨fun h7 => ?_, fun h7 => ?_⟩
          · skip
            rw [if_pos h7] at hs
            -- Z3:TbFFT
            conv => whnf
            refine ⟨⟨1586, [], []⟩, ?_⟩
            conv => whnf
            rw [hw]
            have := hZ1 (i + 1, kvs ++ [(i, manyJ (subF fs (bitsL i)) (subP ss (bitsL i)))]) ⟨hlt, snoc_lt hk⟩ (by omega)
            rw [hs] at this
            exact this
          · skip
            rw [if_neg (by rw [h7]; simp)] at hs
            -- Z3:TbFFF
            conv => whnf
            refine ⟨⟨1586, [], []⟩, ?_⟩
            conv => whnf
            rw [hw]
            have := hZ1 (i + 1, kvs ++ [(i, manyJ (subF fs (bitsL i)) (subP ss (bitsL i)))]) ⟨hlt, snoc_lt hk⟩ (by omega)
            rw [hs] at this
            exact this
  · skip
    rw [hshl] at h3
    have hge : i = 2 ^ fs.length := by have := of_decide_eq_false h3; omega
    -- R:F
    conv => whnf
    have h := h kvs
    rw [← hge] at h
    exact h

theorem c30 (ts : List ByteArray) (fs : List Fm) (ss : List Sg) (hL : LensJ ts fs ss) : PCalls PR glT 30 [.agg [strsV ts, fmsV fs, sgsV ss]] fun r => r = .tup [vL (proofR ts fs ss).1, vI (proofR ts fs ss).2] := by
  refine fnW_sound (par_ok glT) Tryd.func30 ?_
  conv => whnf
  refine byC (c83 ts fs ss hL) op83 ?_
  rcases Classical.em (askE ts fs ss = 0) with hk | hk
  · skip
    rw [enterV_ok hk]
    have hv := (ask_valid hk).job
    have h8 := hv.n8
    have hs6 := hv.s6
    have h0 := hv.n0
    obtain ⟨x0, u0, hsk⟩ := skel_of h0 h8 hs6 (ask_clash hk)
    have hsl : List.drop 0 (List.take ((fs.length : Int)).toNat (natsV (pad8 (skelJ fs ss).1))) = natsV x0 := by rw [hsk.eq, List.drop_zero, Int.toNat_natCast]; exact take_pad hsk.few.way.len
    have hxl : (natsV x0).length = fs.length := by rw [natsV_length]; exact hsk.few.way.len
    have hxne : natsV x0 ≠ [] := fun e => by rw [e] at hxl; simp at hxl; omega
    have hpf := (proof_find h8 hs6 (ask_clash hk)).1
    have hR : proofR ts fs ss = (natsV (proofL fs ss (manyJ fs ss)), 0) := by unfold proofR; rw [if_neg (fun h => h hk)]
    have hV := ask_valid hk
    conv => whnf
    refine ⟨[0, 1, 2, 3, 4, 5, 6, 7, 8, 9, 10, 11, 12, 13, 14, 15, 16, 17, 18], [15, 16], [17], [], ⟨274877906943, [], []⟩, by decide +kernel, ?_⟩
    conv => whnf
    refine byC (c84j glT fs ss h8 hs6) op84 ?_
    conv => whnf
    refine ⟨fun En' _ => u78P ts fs ss hV (skelJ fs ss).1 (manyJ fs ss) _ (fun kvs => ?_) En', op78⟩
    -- R:a
    conv => whnf
    rw [hR, hpf]
  · skip
    rw [enterV_no hk]
    conv => whnf
    refine bcase_iff.2 ⟨fun h2 => ?_, fun h2 => ?_⟩
    · skip
      -- R:bT
      conv => whnf
      unfold proofR
      rw [if_pos hk]
    · skip
      exfalso
      have h2 : (askE ts fs ss != 0) = false := h2
      exact hk (by simpa using h2) --done

theorem op30 : Opens PR 30 := ⟨_, Tryd.func30, rfl, rfl⟩

end Go.Ab.SkF

namespace Go.Ab.SkF
open Go Go.Ab Go.Ab.Pln Go.Proofs
set_option maxHeartbeats 1000000
set_option maxRecDepth 100000

theorem pad_len {x : List Nat} (h : x.length ≤ 8) : (pad8 x).length = 8 := by simp [pad8]; omega
theorem pad_get {x : List Nat} {i : Nat} (h : i < x.length) : (pad8 x).getD i 0 = x.getD i 0 := by simp [pad8, List.getD_eq_getElem?_getD, List.getElem?_append_left h]
theorem natsV_inj {x y : List Nat} (h : natsV x = natsV y) : x = y := by
  have := congrArg (List.map Int.toNat) h
  simpa [natsV, Function.comp_def] using this
theorem pad_inj {x y : List Nat} (h : x.length = y.length) : (natsV (pad8 x) == natsV (pad8 y)) = (x == y) := by
  rw [Bool.eq_iff_iff, beq_iff_eq, beq_iff_eq]
  constructor
  · intro e
    have := congrArg (List.take x.length) e
    rw [take_pad rfl, h, take_pad rfl] at this
    exact natsV_inj this
  · intro e; rw [e]
/-- One way against another. -/
def badS (x0 : List Nat) (a b : Nat) (p : List Nat × Nat) : Bool := p.1 != x0 && ((p.1.getD a 0 == p.1.getD b 0) != (x0.getD a 0 == x0.getD b 0))

theorem c32 (ts : List ByteArray) (fs : List Fm) (ss : List Sg) (hL : LensJ ts fs ss) (a b : Int) : PCalls PR glT 32 [.agg [strsV ts, fmsV fs, sgsV ss], vI a, vI b] fun r => r = .tup [vI (shareR ts fs ss a b).1, vI (shareR ts fs ss a b).2] := by
  refine fnW_sound (par_ok glT) Tryd.func32 ?_
  conv => whnf
  refine byC (c71 glT ts fs ss hL) op71 ?_
  rcases Classical.em (chE ts fs ss = 0) with hk | hk
  · skip
    rw [openV_ok hk]
    have hvE := (chk_valid.1 hk).job
    have h8 := hvE.n8
    have hs6 := hvE.s6
    have h0 := hvE.n0
    have hwr : IntKind.i64.wrap ((fs.length : Int) - 1) = (fs.length : Int) - 1 := wrap_int (by omega) (by omega)
    conv => whnf
    refine ⟨_, rfl, ?_⟩
    conv => whnf
    refine ⟨_, rfl, ?_⟩
    conv => whnf
    refine byC (c60 glT [a, b] (by simp) 0 _) op60 ?_
    conv => whnf
    refine bcase_iff.2 ⟨fun h4 => ?_, fun h4 => ?_⟩
    · skip
      rw [hwr] at h4
      have h4 : [a, b].any (outB 0 ((fs.length : Int) - 1)) = true := h4
      -- R:aT
      conv => whnf
      unfold shareR
      rw [if_neg (fun h => h hk), if_pos h4]
    · skip
      rw [hwr] at h4
      have h4 : [a, b].any (outB 0 ((fs.length : Int) - 1)) = false := h4
      have hin : (0 ≤ a ∧ a < fs.length) ∧ 0 ≤ b ∧ b < fs.length := by
        simp [outB] at h4; omega
      obtain ⟨an, rfl⟩ : ∃ n : Nat, a = n := ⟨a.toNat, by omega⟩
      obtain ⟨bn, rfl⟩ : ∃ n : Nat, b = n := ⟨b.toNat, by omega⟩
      obtain ⟨⟨_, ha1⟩, _, hb1⟩ := hin
      conv => whnf
      refine byC (c83 ts fs ss hL) op83 ?_
      rcases Classical.em (askE ts fs ss = 0) with ha | ha
      · skip
        rw [enterV_ok ha]
        obtain ⟨x0, u0, hsk⟩ := skel_of h0 h8 hs6 (ask_clash ha)
        have hxl := hsk.few.way.len
        have h84 : PCalls PR glT 84 [vI fs.length, .agg [arr8 (groupsM fs.length ss)], .agg [arr8 (meetM (stN fs) fs.length)]] fun r => r = .tup [.agg [arr8 (pad8 x0)], vI u0] := by have h := c84j glT fs ss h8 hs6; rw [hsk.eq] at h; exact h
        have hul := hsk.few.le
        have hpl := pad_len (x := x0) (by omega)
        have hR : shareR ts fs ss (an : Int) (bn : Int) = (if (waysA (relOf (groupsM fs.length ss)) (relOf (meetM (stN fs) fs.length)) u0 fs.length).any (badS x0 an bn) then 0 else if x0.getD an 0 == x0.getD bn 0 then 1 else 2, 0) := by
          unfold shareR
          rw [if_neg (fun h => h hk), if_neg (by rw [h4]; simp), if_neg (fun h => h ha), Int.toNat_natCast, Int.toNat_natCast]
          have hmem : x0 ∈ allJ fs ss := by
            unfold allJ manyJ
            rw [hsk.eq]
            exact List.mem_map.2 ⟨(x0, u0), List.mem_of_mem_head? hsk.few.head, rfl⟩
          rw [← share_eq hmem]
          unfold shareP allJ manyJ
          rw [hsk.eq, List.any_map, ← ways_job h8]
          rfl
        conv => whnf
        refine ⟨[0, 1, 2, 3, 4, 5, 6, 7, 8, 9, 10, 11, 12, 13, 14, 15, 16, 17], [15], [16], [], ⟨4951760157141521099596496895, [], []⟩, by decide +kernel, ?_⟩
        conv => whnf
        refine byC h84 op84 ?_
        conv => whnf
        refine ⟨[0, 1, 2, 3, 4, 5, 6, 7, 8], [7], [], [], ⟨4951760157141521099596496895, [], []⟩, by decide +kernel, ?_⟩
        conv => whnf
        refine ⟨by omega, by omega, ?_⟩
        conv => whnf
        refine ⟨_, getI_natsD (by rw [hpl]; omega), ?_⟩
        conv => whnf
        refine ⟨by omega, by omega, ?_⟩
        conv => whnf
        refine ⟨_, getI_natsD (by rw [hpl]; omega), ?_⟩
        conv => whnf
        refine ⟨[0, 1, 2, 3, 4, 5, 6, 7, 8, 9, 10, 11, 12], [], [], [], ⟨4951760157141521099596496895, [], []⟩, by decide +kernel, ?_⟩
        conv => whnf
        refine byC (c90 glT fs.length u0 (groupsM fs.length ss) (meetM (stN fs) fs.length)) op90 ?_
        conv => whnf
        refine ⟨⟨18889465931478580860144, [3, 30], []⟩, ?_⟩
        conv => whnf
        refine ⟨((waysA (relOf (groupsM fs.length ss)) (relOf (meetM (stN fs) fs.length)) u0 fs.length)).map fun p : List Nat × Nat => [.agg [arr8 (pad8 p.1)], vI p.2], ⟨it114 glT fs.length h8 _ _ (groups_len fs ss) (meetM_len _ _) (fun i hi => groups_lt h8 hs6 (by omega)) (fun i hi => meetM_lt h8 hi) u0 (by omega), op114⟩, ?_⟩
        refine eachW_ind (fun p : List Nat × Nat => [.agg [arr8 (pad8 p.1)], vI p.2]) [.undef, .undef, .undef, .undef, .own 4 [], .own 5 [], .own 6 [], .own 7 [], .undef, .undef, .own 10 [], .undef, .own 12 [], .undef, .undef, .undef, .undef, .undef, .undef, .undef, .undef, .undef, .undef, .undef, .undef, .undef, .undef, .undef, .undef, .undef, .undef, .undef, .undef, .undef, .undef, .undef, .undef, .undef, .undef, .undef, .undef, .undef, .undef, .undef, .undef, .undef, .undef, .undef, .undef, .undef, .undef, .undef, .undef, .undef, .undef, .undef, .undef, .undef, .undef, .undef, .undef, .undef, .undef, .undef, .undef, .undef, .undef, .undef, .undef, .undef, .undef, .undef, .undef, .undef, .clo (.func 114) [] [.ref [vI fs.length], .ref [vI u0], .ref [arr8 (groupsM fs.length ss)], .ref [arr8 (meetM (stN fs) fs.length)]], .undef, .undef, .undef, .undef, .undef, .undef, .undef, .undef, .undef, .undef, .undef, .undef, .undef, .undef, .undef, .undef, .undef] [(4, .cells [vI an]), (5, .cells [vI bn]), (6, .cells [vI 0]), (7, .cells [vI 0]), (10, .cells [arr8 (pad8 x0)]), (12, .cells [vB ((((pad8 x0).getD an 0 : Nat) : Int) == (((pad8 x0).getD bn 0 : Nat) : Int))])] [] (fun l _ => ((∀ p ∈ l, p ∈ (waysA (relOf (groupsM fs.length ss)) (relOf (meetM (stN fs) fs.length)) u0 fs.length)) ∧ (waysA (relOf (groupsM fs.length ss)) (relOf (meetM (stN fs) fs.length)) u0 fs.length).any (badS x0 an bn) = l.any (badS x0 an bn))) ?_ ?_ _ () ⟨fun _ h => h, rfl⟩
        · rintro ⟨⟩ hF12
          have haF : (waysA (relOf (groupsM fs.length ss)) (relOf (meetM (stN fs) fs.length)) u0 fs.length).any (badS x0 an bn) = false := hF12.2
          rw [haF, if_neg (by simp)] at hR
          conv => whnf
          refine bcase_iff.2 ⟨fun h15 => ?_, fun h15 => ?_⟩
          · skip
            have g : (x0.getD an 0 == x0.getD bn 0) = true := by
              have g : ((((pad8 x0).getD an 0 : Nat) : Int) == (((pad8 x0).getD bn 0 : Nat) : Int)) = true := h15
              rw [eqN, pad_get (by omega), pad_get (by omega)] at g; exact g
            rw [g, if_pos rfl] at hR
            -- R:aFanT
            conv => whnf
            rw [hR]
          · skip
            have g : (x0.getD an 0 == x0.getD bn 0) = false := by
              have g : ((((pad8 x0).getD an 0 : Nat) : Int) == (((pad8 x0).getD bn 0 : Nat) : Int)) = false := h15
              rw [eqN, pad_get (by omega), pad_get (by omega)] at g; exact g
            rw [g, if_neg (by simp)] at hR
            -- R:aFanF
            conv => whnf
            rw [hR]
        · rintro p l ⟨⟩ hF12 Z1 hZ1
          obtain ⟨hmF, haF⟩ := hF12
          have hpn := ((mem_ways (x := p.1) (u := p.2)).1 (hmF p (List.mem_cons_self ..))).1.len
          rw [List.any_cons] at haF
          conv => whnf
          refine ⟨[0, 1, 2, 3, 4, 5, 6, 7, 8, 9, 10, 11, 12, 13], [], [], [], ⟨4951760157141521099596496895, [], []⟩, by decide +kernel, ?_⟩
          conv => whnf
          refine ⟨_, rfl, ?_⟩
          conv => whnf
          refine bcase_iff.2 ⟨fun g13_3 => ?_, fun g13_3 => ?_⟩
          · skip
            have g1 : (p.1 != x0) = true := by
              have g : (!(natsV (pad8 p.1) == natsV (pad8 x0))) = true := g13_3
              rw [pad_inj (by omega)] at g; exact g
            conv => whnf
            refine ⟨by omega, by omega, ?_⟩
            conv => whnf
            refine ⟨_, getI_natsD (by rw [pad_len (by omega)]; omega), ?_⟩
            conv => whnf
            refine ⟨by omega, by omega, ?_⟩
            conv => whnf
            refine ⟨_, getI_natsD (by rw [pad_len (by omega)]; omega), ?_⟩
            conv => whnf
            refine bcase_iff.2 ⟨fun h13 => ?_, fun h13 => ?_⟩
            · skip
              have g2 : ((p.1.getD an 0 == p.1.getD bn 0) != (x0.getD an 0 == x0.getD bn 0)) = true := by
                have g : (((((pad8 p.1).getD an 0 : Nat) : Int) == (((pad8 p.1).getD bn 0 : Nat) : Int)) != ((((pad8 x0).getD an 0 : Nat) : Int) == (((pad8 x0).getD bn 0 : Nat) : Int))) = true := h13
                rw [eqN, eqN, pad_get (by omega), pad_get (by omega), pad_get (by omega), pad_get (by omega)] at g; exact g
              have hbad : badS x0 an bn p = true := by unfold badS; rw [g1, g2]; rfl
              rw [hbad, Bool.true_or] at haF
              rw [haF, if_pos rfl] at hR
              -- R:aFacTT
              conv => whnf
              rw [hR]
            · skip
              have g2 : ((p.1.getD an 0 == p.1.getD bn 0) != (x0.getD an 0 == x0.getD bn 0)) = false := by
                have g : (((((pad8 p.1).getD an 0 : Nat) : Int) == (((pad8 p.1).getD bn 0 : Nat) : Int)) != ((((pad8 x0).getD an 0 : Nat) : Int) == (((pad8 x0).getD bn 0 : Nat) : Int))) = false := h13
                rw [eqN, eqN, pad_get (by omega), pad_get (by omega), pad_get (by omega), pad_get (by omega)] at g; exact g
              have hbad : badS x0 an bn p = false := by unfold badS; rw [g1, g2]; rfl
              -- Y12:cTF
              conv => whnf
              refine ⟨⟨18889465931478580860144, [13, 1013, 2013, 3013, 4013], []⟩, ?_⟩
              conv => whnf
              rw [hbad, Bool.false_or] at haF
              exact hZ1 () ⟨fun q hq => hmF q (List.mem_cons_of_mem _ hq), haF⟩
          · skip
            have g1 : (p.1 != x0) = false := by
              have g : (!(natsV (pad8 p.1) == natsV (pad8 x0))) = false := g13_3
              rw [pad_inj (by omega)] at g; exact g
            have hbad : badS x0 an bn p = false := by unfold badS; rw [g1]; rfl
            -- Y12:cF
            conv => whnf
            refine ⟨⟨18889465931478580860144, [13, 1013, 2013, 3013, 4013], []⟩, ?_⟩
            conv => whnf
            rw [hbad, Bool.false_or] at haF
            exact hZ1 () ⟨fun q hq => hmF q (List.mem_cons_of_mem _ hq), haF⟩
      · skip
        rw [enterV_no ha]
        conv => whnf
        refine bcase_iff.2 ⟨fun h7 => ?_, fun h7 => ?_⟩
        · skip
          -- R:aFbT
          conv => whnf
          unfold shareR
          rw [if_neg (fun h => h hk), if_neg (by rw [h4]; simp), if_pos ha]
        · skip
          exfalso
          have h7 : (askE ts fs ss != 0) = false := h7
          exact ha (by simpa using h7) --done
  · skip
    rw [openV_no hk]
    conv => whnf
    refine bcase_iff.2 ⟨fun h2 => ?_, fun h2 => ?_⟩
    · skip
      -- R:bT
      conv => whnf
      unfold shareR
      rw [if_pos hk]
    · skip
      exfalso
      have h2 : (chE ts fs ss != 0) = false := h2
      exact hk (by simpa using h2) --done

theorem op32 : Opens PR 32 := ⟨_, Tryd.func32, rfl, rfl⟩

end Go.Ab.SkF
