/-
  THE SKELETON FAMILY: how many sightings the reach of a claim lets a job have.
-/
import Derived.Deep.Strs
import Derived.Deep.Slices
import Derived.Test.YtfhippofplmpdaaDoorArgs
namespace Go.Ab.SkF
open Go.Deep  Go Go.Ab Go.Proofs Go.Proofs.YtfhippofplmpdaaDoor Go.ChangeShapes Go.WideShapes Go.ChangeAt Go.RowKit
variable {H : Type} {enc : TypeId × Value → H} {w : World}

set_option maxRecDepth 100000
theorem weights_slice {P : Program} {t e : TypeId} {es sp : List (DataW H)} (ht : P.underlying t = some (.slice e)) : (DataW.slice es sp).weights P t = (es.length + sp.length) * P.bytesOf e :: (DataW.weightsAll P e es ++ DataW.weightsAll P e sp) := by
  conv => lhs; unfold DataW.weights
  rw [ht]
theorem weights_struct {P : Program} {t : TypeId} {fs : Array Field} {parts : List (DataW H)} (ht : P.underlying t = some (.struct fs)) : (DataW.agg parts).weights P t = DataW.weightsEach P (fs.toList.map (·.type)) parts := by
  conv => lhs; unfold DataW.weights
  rw [ht]
theorem bytes65 : Tryd.prog.bytesOf 65 = 24 := by kernel_rfl
theorem sights_slice {fuel : Nat} {c : Value} {x : DataW H × List MemPlace} {ss : List Sg} (h : DataW.trod enc Tryd.prog w 0 (fun _ => true) true fuel 24 [c] = some x) (hr : Rep w (allV w) Loc.none c (sgsV ss))
    (hw : (x.1.weights Tryd.prog 24).all (· ≤ reachBytes) = true) : ss.length ≤ 5864062014634 := by
  obtain ⟨base, cap, rfl, hcap⟩ := hr.slcap
  rcases open_slice Tryd.underlying24 h with ⟨h0, _⟩ | ⟨a, len, cap', m, n, D, Pl, h0, _, hl, _, hm, rfl, _⟩
  · simp only [List.cons.injEq, Value.slice.injEq, and_true] at h0
    omega
  · simp only [List.cons.injEq, Value.slice.injEq, and_true] at h0
    simp only [if_true] at hm
    subst hm
    rw [weights_slice Tryd.underlying24] at hw
    simp only [List.all_cons, Bool.and_eq_true, decide_eq_true_eq, List.length_map, List.length_range, bytes65] at hw
    have h1 := hw.1
    unfold reachBytes at h1
    omega
theorem sights_len {v : Value} {d : DataW H} {ps : List MemPlace} {ts : List ByteArray} {fs : List Fm} {ss : List Sg} (hd : DataW.Trod enc Tryd.prog w 0 (fun _ => true) true 26 v d ps)
    (hr : Rep w (allV w) Loc.none v (.agg [strsV ts, fmsV fs, sgsV ss])) (hw : (d.weights Tryd.prog 26).all (· ≤ reachBytes) = true) : ss.length ≤ 5864062014634 := by
  obtain ⟨cs, rfl, hcs⟩ := hr.agg
  obtain ⟨fuel, hf⟩ := hd
  obtain ⟨c0, r0, e0, _, h1⟩ := hcs.head trivial
  obtain ⟨c1, r1, e1, _, h2⟩ := h1.head trivial
  obtain ⟨c2, r2, e2, h3, _⟩ := h2.head trivial
  obtain ⟨y0, y1, y2, n, hx, hl, _, _, g2⟩ := trod_struct3 Tryd.underlying26 hf
  have hd' := congrArg Prod.fst hx
  simp only at hd'
  subst hd'
  have hw2 : (y2.1.weights Tryd.prog 24).all (· ≤ reachBytes) = true := by
    rw [weights_struct Tryd.underlying26] at hw
    rw [List.all_eq_true] at hw ⊢
    intro q hq
    refine hw q ?_
    simp only [List.map_cons, List.map_nil, DataW.weightsEach, List.mem_append]
    exact .inr (.inr (.inl hq))
  have g3 : DataW.trod enc Tryd.prog w 0 (fun _ => true) true n 24 ((cs.toList.drop 2).take (Tryd.prog.cellsOf 24)) = some y2 := g2
  rw [e0, e1, e2, z24] at g3
  exact sights_slice g3 h3 hw2
end Go.Ab.SkF
