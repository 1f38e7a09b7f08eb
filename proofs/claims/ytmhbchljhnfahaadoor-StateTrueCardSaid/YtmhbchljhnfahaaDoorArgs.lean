/-
  THE STATE FAMILY: the arguments of its laws, read as ours.
-/
import Derived.ChangeBears
import Derived.Test.YtmhbchljhnfahaaDoorCard
import Derived.Test.YtmhbchljhnfahaaDoorRefB
import Derived.Test.YtmhbchljhnfahaaDoorEngC
namespace Go.Ab.StF
open Go Go.Ab Go.Proofs
set_option maxRecDepth 100000

theorem kids : Kids Tryd.prog (· < Tryd.prog.types.size) := kids_rows (by kernel_rfl) (by kernel_rfl)
theorem full : ∀ t e, t < Tryd.prog.types.size → Tryd.prog.underlying t = some (.slice e) → 0 < Tryd.prog.cellsOf e := slices_full_of Tryd.prog (by kernel_rfl)
theorem z3 : Tryd.prog.cellsOf 3 = 1 := by kernel_rfl
theorem z5 : Tryd.prog.cellsOf 5 = 1 := by kernel_rfl
theorem z9 : Tryd.prog.cellsOf 9 = 1 := by kernel_rfl
theorem z22 : Tryd.prog.cellsOf 22 = 1 := by kernel_rfl
theorem z23 : Tryd.prog.cellsOf 23 = 1 := by kernel_rfl
theorem z25 : Tryd.prog.cellsOf 25 = 2 := by kernel_rfl
theorem z26 : Tryd.prog.cellsOf 26 = 1 := by kernel_rfl
theorem z58 : Tryd.prog.cellsOf 58 = 1 := by kernel_rfl
theorem z60 : Tryd.prog.cellsOf 60 = 3 := by kernel_rfl
theorem z61 : Tryd.prog.cellsOf 61 = 4 := by kernel_rfl
theorem z71 : Tryd.prog.cellsOf 71 = 2 := by kernel_rfl
theorem z89 : Tryd.prog.cellsOf 89 = 2 := by kernel_rfl

abbrev B63 : Nat := 9223372036854775807

section
variable {H : Type} {enc : TypeId × Value → H} {w : World}

theorem oInt : OpA S enc Tryd.prog w 3 fun cl => ∃ n : Int, cl = Cod.enc (S := S) U.int n ∧ IntKind.i64.min ≤ n ∧ n ≤ IntKind.i64.max :=
  (OpA.int Tryd.underlying3).mono fun _ ⟨n, h, h1⟩ => ⟨n, h, h1⟩
theorem oByte : OpA S enc Tryd.prog w 5 fun cl => ∃ n : Int, cl = Cod.enc (S := S) U.u8 n ∧ IntKind.u8.min ≤ n ∧ n ≤ IntKind.u8.max :=
  (OpA.int Tryd.underlying5).mono fun _ ⟨n, h, h1⟩ => ⟨n, h, h1⟩
theorem oInts : OpA S enc Tryd.prog w 26 fun cl => ∃ ys : List Int, cl = [vL ys] ∧ ys.length ≤ B63 ∧ ∀ y ∈ ys, IntKind.i64.min ≤ y ∧ y ≤ IntKind.i64.max :=
  OpA.slice (S := S) (u := U.int) Tryd.underlying26 z3 oInt
theorem oBytes : OpA S enc Tryd.prog w 58 fun cl => ∃ ys : List Int, cl = [.sl (S := S) U.u8 ys none] ∧ ys.length ≤ B63 ∧ ∀ y ∈ ys, IntKind.u8.min ≤ y ∧ y ≤ IntKind.u8.max :=
  OpA.slice (S := S) (u := U.u8) Tryd.underlying58 z5 oByte
theorem oLocus : OpA S enc Tryd.prog w 89 fun cl => ∃ y : ByteArray × Int, cl = Cod.enc (S := S) U.locus y ∧ y.1.size ≤ B63 := by
  refine (OpA.struct (Rs := [_, _]) Tryd.underlying89 ⟨rfl, _, _, rfl, OpA.str Tryd.underlying9, by rw [z9], _, _, rfl, oInt, by rw [z9, z3, z89], rfl⟩).mono ?_
  rintro cl ⟨a, b, rfl, ⟨s, rfl, hs⟩, c, d, rfl, ⟨n, rfl, _⟩, rfl⟩
  exact ⟨(s, n), rfl, hs⟩
theorem oLoci : OpA S enc Tryd.prog w 22 fun cl => ∃ ys : List (ByteArray × Int), cl = [lociV ys] ∧ ys.length ≤ B63 ∧ ∀ y ∈ ys, y.1.size ≤ B63 :=
  OpA.slice (S := S) (u := U.locus) Tryd.underlying22 z89 oLocus
theorem oCopy : OpA S enc Tryd.prog w 71 fun cl => ∃ y : ByteArray × List Int, cl = Cod.enc (S := S) U.copy y ∧ y.1.size ≤ B63 ∧ y.2.length ≤ B63 := by
  refine (OpA.struct (Rs := [_, _]) Tryd.underlying71 ⟨rfl, _, _, rfl, OpA.str Tryd.underlying9, by rw [z9], _, _, rfl, oInts, by rw [z9, z26, z71], rfl⟩).mono ?_
  rintro cl ⟨a, b, rfl, ⟨s, rfl, hs⟩, c, d, rfl, ⟨ys, rfl, hl, _⟩, rfl⟩
  exact ⟨(s, ys), rfl, hs, hl⟩
theorem oCops : OpA S enc Tryd.prog w 23 fun cl => ∃ ys : List (ByteArray × List Int), cl = [copsV ys] ∧ ys.length ≤ B63 ∧ ∀ y ∈ ys, y.1.size ≤ B63 ∧ y.2.length ≤ B63 :=
  OpA.slice (S := S) (u := U.copy) Tryd.underlying23 z71 oCopy
theorem oForme : OpA S enc Tryd.prog w 25 fun cl => ∃ xs cs, cl = [lociV xs, copsV cs] ∧ LensN xs cs := by
  refine (OpA.struct (Rs := [_, _]) Tryd.underlying25 ⟨rfl, _, _, rfl, oLoci, by rw [z22], _, _, rfl, oCops, by rw [z22, z23, z25], rfl⟩).mono ?_
  rintro cl ⟨a, b, rfl, ⟨xs, rfl, h1, h2⟩, c, d, rfl, ⟨cs, rfl, h3, h4⟩, rfl⟩
  exact ⟨xs, cs, rfl, ⟨h1, h3, fun x hx => (h4 x hx).2⟩, h2, fun x hx => (h4 x hx).1⟩
end

/-- A forme without anything. -/
abbrev noForme : Value := .agg #[.slice none 0 0, .slice none 0 0]
end Go.Ab.StF
