/-
  THE STATE FAMILY, PART OF: StateOrders; the reference's Last.
-/
import Derived.Test.YtmhbchljhnfahaaDoorLawB
import Derived.Test.YtmhbchljhnfahaaDoorRefB
import Derived.Test.YtmhbchljhnfahaaDoorEngC
namespace Go.Ab.StF
open Go Go.Ab Go.Proofs
set_option maxHeartbeats 1000000
set_option maxRecDepth 100000

theorem c51R (gl : Gl) {n : Nat} (o : List Int × List Int) (ho : OkO n o) (k e : Nat) : PCalls PR gl 51 [.agg [vL o.1, vL o.2], vI k] fun r => r = .sl (S := S) U.int (stateS k o) (some e) := by
  refine fnR_sound (e := e) (par_ok gl) Tryd.func51 ?_
  conv => whnf
  refine ⟨⟨102, [4], [4, 5]⟩, ?_⟩
  refine LoopW_ind _ (fun i : Nat => (({ tmps := [.undef, vI k, .own 2 [], .undef, .undef, .sl (S := S) U.int ((List.range i).map (atV o.1 o.2 k)) (some 5), vI i, .undef, .undef, .undef, .undef, .undef, .undef, .undef, .undef, .undef, .undef, .undef, .undef, .undef, .undef, .undef], seg := [(2, .cells [vL o.1, vL o.2]), (5, .row U.int false)], up := [] } : St S))) (fun i : Nat => (i ≤ o.1.length)) (fun i : Nat => (o.1.length - i)) () ?_ 0 (Nat.zero_le _)
  intro i hi Z1 hZ1
  have hn5 := ho.n5
  have hl := ho.l
  have hm := ho.m
  conv => whnf
  refine bcase_iff.2 ⟨fun h3 => ?_, fun h3 => ?_⟩
  · skip
    have hlt : i < o.1.length := by have := of_decide_eq_true h3; omega
    have hw : IntKind.i64.wrap ((i : Int) + 1) = ((i + 1 : Nat) : Int) := wrap_nat (by omega)
    conv => whnf
    refine byC (c107 gl o.1 o.2 (by omega) k i hlt ho.v) op107 ?_
    conv => whnf
    refine ⟨_, rfl, ?_⟩
    conv => whnf
    refine ⟨lim (by simp only [List.length_map, List.length_range, List.length_cons, List.length_nil]; omega), ?_⟩
    -- Z3:T
    conv => whnf
    refine ⟨⟨102, [19, 20], []⟩, ?_⟩
    conv => whnf
    rw [hw, ← rm_succ]
    exact hZ1 (i + 1) hlt (by omega)
  · skip
    have hge : i = o.1.length := by have := of_decide_eq_false h3; omega
    -- R:F
    conv => whnf
    refine ⟨fun _ => rfl, ?_⟩
    rw [hge]
    rfl


/-- The last readings, of the first orders: some of the loci have one order more. -/
def lasU (n : Nat) (L : List (List Int × List Int)) (i k : Nat) : List Int := (List.range n).map fun j => sameL 0 ((L.take (if j < k then i + 1 else i)).map fun o => atV o.1 o.2 n j)
theorem bne_sf {a : Int} (h : (a != a) = true) : False := by simp at h
end Go.Ab.StF
