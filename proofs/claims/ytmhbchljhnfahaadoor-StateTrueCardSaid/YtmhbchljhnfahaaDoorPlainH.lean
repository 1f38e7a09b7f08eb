/-
  THE STATE FAMILY, PLAIN LAW, PART H: the mistaken readings of an order, copy by copy.
-/
import Derived.Test.YtmhbchljhnfahaaDoorPlainB
namespace Go.Ab.StF
open Go Go.Ab Go.Proofs

/-- The fewest of a copy, of the first states. -/
def bstJ (ss : List Int) (o : List Int × List Int) (j : Nat) : List Int := bestF (natsV (amiL ss (stateS 0 o))) ((List.range j).map fun k => natsV (amiL ss (stateS (k + 1) o)))

def offU (n : Nat) (cs : List (ByteArray × List Int)) (o : List Int × List Int) (i : Nat) : List Int := (List.range i).flatMap fun i => (bestK (showsOf cs i) o n).map fun k => (i : Int) * n + k
def offW (n : Nat) (cs : List (ByteArray × List Int)) (o : List Int × List Int) (i q : Nat) : List Int := offU n cs o i ++ ((bestK (showsOf cs i) o n).take q).map fun k => (i : Int) * n + k
def rdI (n : Nat) (x : Int) : Int × Int := (x.tdiv n, x.tmod n)
end Go.Ab.StF
