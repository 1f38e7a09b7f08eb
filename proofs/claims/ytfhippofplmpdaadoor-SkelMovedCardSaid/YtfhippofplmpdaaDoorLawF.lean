/-
  THE SKELETON FAMILY, PART PW: some formes of a job alone, and numbers by turns: plain.
  THE SKELETON FAMILY, PART LI: turn, and the law SkelFewer.
-/
import Derived.Test.YtfhippofplmpdaaDoorLawE
namespace Go.Ab.SkF
open Go Go.Ab Go.Ab.Pln

/-- All but one of some numbers. -/
def dropI (l : List Nat) (i : Nat) : List Nat := l.take i ++ l.drop (i + 1)
structure ProofF (ts : List ByteArray) (fs : Fms) (ss : Sgs) (u : Nat) (p : List Nat) : Prop where
  asc : Asc 0 fs.length p
  len : u ≤ p.length
  ne : p ≠ []
  many : ∃ y, Skel (subF fs p) (subR ss p) y u
  less : ∀ i, i < p.length → 1 < p.length → ∃ y w, Skel (subF fs (dropI p i)) (subR ss (dropI p i)) y w ∧ w < u
/-- A number of a list of bytes, by turns. -/
def tnI (x : List Int) (i : Nat) : Int := if x.length = 0 then 0 else x.getD (i % x.length) 0
def tnN (x : List Int) (i : Nat) : Nat := (tnI x i).toNat
/-- Do two formes tell against numbers? -/
def badP (fs : Fms) (ss : Sgs) (c : Nat → Nat) (a b : Nat) : Bool := (lab fs.length ss a == lab fs.length ss b && !(c a == c b)) || (stN fs a b && c a == c b)
end Go.Ab.SkF

namespace Go.Ab.SkF
open Go Go.Ab Go.Ab.Pln Go.Proofs
set_option maxHeartbeats 1000000
set_option maxRecDepth 100000
theorem getI_at {α : Type} {l : List α} {m : Int} {k : Nat} (e : m = (k : Int)) (h : k < l.length) : getI l m = some l[k] := by rw [e]; exact getI_nat h
end Go.Ab.SkF
