/-
  THE SKELETON FAMILY, PART PV: jobs with some of the sightings, and what agrees: plain.
  THE SKELETON FAMILY, PART LH: the law SkelDoubt.
-/
import Derived.Test.YtfhippofplmpdaaDoorLawD
namespace Go.Ab.SkF
open Go Go.Ab Go.Ab.Pln

/-- Sightings that are in order: each is, and no two tell of the same. -/
structure SiOk (n nt : Nat) (ss : Sgs) : Prop where
  each : ∀ s ∈ ss, 0 ≤ s.1 ∧ s.1 < n ∧ 0 ≤ s.2.1 ∧ s.2.1 < nt ∧ 0 ≤ s.2.2 ∧ s.2.2 ≤ 2
  two : ss.Pairwise fun a b => ¬ (a.1 = b.1 ∧ a.2.1 = b.2.1)
theorem si_ok {n nt : Nat} {ss : Sgs} (h : SiOk n nt ss) {i : Nat} (hi : i < ss.length) : siF n nt ss i = 0 := by
  obtain ⟨h1, h2, h3, h4, h5, h6⟩ := h.each _ (List.getElem_mem hi)
  unfold siF siE
  rw [getD_at hi, if_neg, if_neg, if_neg]
  · rw [List.any_eq_true]
    rintro ⟨y, hy, he⟩
    obtain ⟨j, hj, rfl⟩ := List.mem_take_iff_getElem.1 hy
    rw [Bool.and_eq_true, beq_iff_eq, beq_iff_eq] at he
    exact List.pairwise_iff_getElem.1 h.two j i (by omega) hi (by omega) he
  · rw [Bool.not_eq_true]; exact (out1 _ _ _).2 ⟨h5, h6⟩
  · rw [Bool.not_eq_true, Bool.or_eq_false_iff]; exact ⟨(out1 _ _ _).2 (by omega), (out1 _ _ _).2 (by omega)⟩
theorem Valid.ok {ts : List ByteArray} {fs : Fms} {ss : Sgs} (v : Valid ts fs ss) : SiOk fs.length ts.length ss := by
  refine ⟨fun s hs => ?_, List.pairwise_iff_getElem.2 fun i j hi hj hij he => ?_⟩
  · obtain ⟨i, hi, rfl⟩ := List.getElem_of_mem hs
    obtain ⟨h1, h2, h3, h4, h5, h6, _⟩ := v.sight hi
    exact ⟨h1, h2, h3, h4, h5, h6⟩
  · exact (v.sight hj).2.2.2.2.2.2 i hij he.1 he.2
theorem Valid.with {ts : List ByteArray} {fs : Fms} {ss ss' : Sgs} (v : Valid ts fs ss) (h : SiOk fs.length ts.length ss') (hl : ss'.length ≤ 12) : Valid ts fs ss' :=
  ⟨v.t6, v.tn, v.n1, v.n7, v.fo, hl, fun _ hi => si_ok h hi⟩
theorem SiOk.sub {n nt : Nat} {ss ss' : Sgs} (h : SiOk n nt ss) (hs : ss'.Sublist ss) : SiOk n nt ss' := ⟨fun s hm => h.each s (hs.subset hm), h.two.sublist hs⟩
theorem pick_sublist (ss : Sgs) (p : Nat → Bool) : (pickS ss p).Sublist ss := by
  unfold pickS pickU
  have h : (List.range ss.length).map (fun i => ss.getD i s0) = ss := by
    apply List.ext_getElem
    · simp
    · intro i h1 h2; rw [List.getElem_map, List.getElem_range, getD_at h2]
  conv => rhs; rw [← h]
  exact List.Sublist.map _ List.filter_sublist
theorem Valid.pick {ts : List ByteArray} {fs : Fms} {ss : Sgs} (v : Valid ts fs ss) (p : Nat → Bool) : Valid ts fs (pickS ss p) :=
  v.with (v.ok.sub (pick_sublist ss p)) (Nat.le_trans (pick_sublist ss p).length_le v.s12)

theorem crackR_ok {ts : List ByteArray} {fs : Fms} {ss : Sgs} (hk : chE ts fs ss = 0) {t : Nat} (ht : t < ts.length) : crackR ts fs ss t = if (crackS fs ss t).1 > (crackS fs ss t).2 then (0, 0, 8) else ((crackS fs ss t).1, (crackS fs ss t).2, 0) := by
  unfold crackR
  rw [if_neg (fun h => h hk), if_neg (by rw [(out1 _ _ _).2 (by omega)]; simp)]
/-- Can a type have cracked? -/
def okC (fs : Fms) (ss : Sgs) (t : Nat) : Bool := decide ((crackS fs ss t).1 ≤ (crackS fs ss t).2)
theorem agree_all {nt : Nat} {fs : Fms} {ss : Sgs} (hJ : clashJ fs ss = none) : agreeB nt fs ss = (List.range nt).all (okC fs ss) := by unfold agreeB; rw [hJ]; rfl
theorem less_nil {nt : Nat} {fs : Fms} {ss : Sgs} : lessP nt fs ss [] = agreeB nt fs ss := by
  unfold lessP
  rw [pick_all (ss := ss) (p := fun i => !([] : List Nat).contains i) fun i _ => rfl]
theorem doubt_nil {nt : Nat} {fs : Fms} {ss : Sgs} {l : List Nat} (h : LeastL ss.length (lessP nt fs ss) l) : (l.length == 0) = agreeB nt fs ss := by
  cases hA : agreeB nt fs ss with
  | true =>
    have := h.least [] ⟨.nil, fun x hx => by cases hx⟩ (by rw [less_nil]; exact hA)
    simp at this; simp [this]
  | false =>
    rw [beq_eq_false_iff_ne]
    intro e
    have e := List.eq_nil_of_length_eq_zero e
    have := h.does
    rw [e, less_nil, hA] at this
    cases this
end Go.Ab.SkF

namespace Go.Ab.SkF
open Go Go.Ab Go.Ab.Pln Go.Proofs
set_option maxHeartbeats 1000000
set_option maxRecDepth 100000

end Go.Ab.SkF
