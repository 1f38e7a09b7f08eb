/-
  THE SKELETON FAMILY, PART PW: some formes of a job alone, and numbers by turns: plain.
  THE SKELETON FAMILY, PART LI: turn, and the law SkelFewer.
-/
import Derived.Test.YtfhippofplmpdaaDoorLawE
namespace Go.Ab.SkF
open Go Go.Ab Go.Ab.Pln

/-- All but one of some numbers. -/
def dropI (l : List Nat) (i : Nat) : List Nat := l.take i ++ l.drop (i + 1)
structure ProofF (ts : List ByteArray) (fs : Fms) (ss : Sgs) (u : Nat) (p : List Nat) : Prop where
  asc : Asc 0 fs.length p
  len : u ≤ p.length
  ne : p ≠ []
  many : ∃ y, Skel (subF fs p) (subR ss p) y u
  less : ∀ i, i < p.length → 1 < p.length → ∃ y w, Skel (subF fs (dropI p i)) (subR ss (dropI p i)) y w ∧ w < u
/-- A number of a list of bytes, by turns. -/
def tnI (x : List Int) (i : Nat) : Int := if x.length = 0 then 0 else x.getD (i % x.length) 0
def tnN (x : List Int) (i : Nat) : Nat := (tnI x i).toNat
theorem tn_cast {x : List Int} (hx : ∀ v ∈ x, 0 ≤ v ∧ v ≤ 255) (i : Nat) : tnI x i = ((tnN x i : Nat) : Int) ∧ tnI x i ≤ 255 := by
  unfold tnN tnI
  split
  · simp
  · rename_i h
    have hi : i % x.length < x.length := Nat.mod_lt _ (by omega)
    rw [getD_at hi]
    have := hx _ (List.getElem_mem hi)
    omega
/-- Do two formes tell against numbers? -/
def badP (fs : Fms) (ss : Sgs) (c : Nat → Nat) (a b : Nat) : Bool := (lab fs.length ss a == lab fs.length ss b && !(c a == c b)) || (stN fs a b && c a == c b)
end Go.Ab.SkF

namespace Go.Ab.SkF
open Go Go.Ab Go.Ab.Pln Go.Proofs
set_option maxHeartbeats 1000000
set_option maxRecDepth 100000
theorem getI_at {α : Type} {l : List α} {m : Int} {k : Nat} (e : m = (k : Int)) (h : k < l.length) : getI l m = some l[k] := by rw [e]; exact getI_nat h
theorem c48 (gl : Gl) (l : List Int) (hl : l.length ≤ 9223372036854775807) (hb : ∀ v ∈ l, 0 ≤ v ∧ v ≤ 255) (n : Nat) : PCalls PR gl 48 [.sl (S := S) U.u8 l none, vI n] fun r => r = vI (tnI l n) := by
  refine fnW_sound (par_ok gl) Tryd.func48 ?_
  conv => whnf
  refine bcase_iff.2 ⟨fun h1 => ?_, fun h1 => ?_⟩
  · skip
    have h0 : l.length = 0 := by have := beq_iff_eq.1 h1; omega
    -- R:T
    conv => whnf
    unfold tnI; rw [if_pos h0]
  · skip
    have h0 : l.length ≠ 0 := by have := beq_eq_false_iff_ne.1 h1; omega
    have hm : ((n : Int).tmod l.length) = ((n % l.length : Nat) : Int) := by rw [Int.tmod_eq_emod_of_nonneg (by omega)]; omega
    have hlt : n % l.length < l.length := Nat.mod_lt _ (by omega)
    have hv := hb _ (List.getElem_mem hlt)
    conv => whnf
    refine ⟨by omega, ?_⟩
    conv => whnf
    refine ⟨_, getI_at hm hlt, ?_⟩
    -- R:F
    conv => whnf
    unfold tnI; rw [if_neg h0, getD_at hlt, wrap_int (by omega) (by omega)]

theorem op48 : Opens PR 48 := ⟨_, Tryd.func48, rfl, rfl⟩

end Go.Ab.SkF
