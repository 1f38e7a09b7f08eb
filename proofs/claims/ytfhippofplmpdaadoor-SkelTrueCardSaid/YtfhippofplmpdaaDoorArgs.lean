/-
  THE SKELETON FAMILY: the arguments of its laws, read as ours.
-/
import Derived.ChangeBears
import Derived.Test.YtfhippofplmpdaaDoorCard
import Derived.Test.YtfhippofplmpdaaDoorSkelC
import Derived.Test.YtfhippofplmpdaaDoorEngC
namespace Go.Ab.SkF
open Go Go.Ab Go.Proofs
set_option maxRecDepth 100000

theorem kids : Kids Tryd.prog (· < Tryd.prog.types.size) := kids_rows (by kernel_rfl) (by kernel_rfl)
theorem full : ∀ t e, t < Tryd.prog.types.size → Tryd.prog.underlying t = some (.slice e) → 0 < Tryd.prog.cellsOf e := slices_full_of Tryd.prog (by kernel_rfl)
theorem z3 : Tryd.prog.cellsOf 3 = 1 := by kernel_rfl
theorem z5 : Tryd.prog.cellsOf 5 = 1 := by kernel_rfl
theorem z9 : Tryd.prog.cellsOf 9 = 1 := by kernel_rfl
theorem z22 : Tryd.prog.cellsOf 22 = 1 := by kernel_rfl
theorem z23 : Tryd.prog.cellsOf 23 = 1 := by kernel_rfl
theorem z24 : Tryd.prog.cellsOf 24 = 1 := by kernel_rfl
theorem z26 : Tryd.prog.cellsOf 26 = 3 := by kernel_rfl
theorem z51 : Tryd.prog.cellsOf 51 = 1 := by kernel_rfl
theorem z53 : Tryd.prog.cellsOf 53 = 4 := by kernel_rfl
theorem z63 : Tryd.prog.cellsOf 63 = 4 := by kernel_rfl
theorem z65 : Tryd.prog.cellsOf 65 = 3 := by kernel_rfl
abbrev B63 : Nat := 9223372036854775807

section
variable {H : Type} {enc : TypeId × Value → H} {w : World}

theorem oInt : OpA S enc Tryd.prog w 3 fun cl => ∃ n : Int, cl = Cod.enc (S := S) U.int n ∧ IntKind.i64.min ≤ n ∧ n ≤ IntKind.i64.max :=
  (OpA.int Tryd.underlying3).mono fun _ ⟨n, h, h1⟩ => ⟨n, h, h1⟩
theorem oByte : OpA S enc Tryd.prog w 5 fun cl => ∃ n : Int, cl = Cod.enc (S := S) U.u8 n ∧ IntKind.u8.min ≤ n ∧ n ≤ IntKind.u8.max :=
  (OpA.int Tryd.underlying5).mono fun _ ⟨n, h, h1⟩ => ⟨n, h, h1⟩
theorem oBytes : OpA S enc Tryd.prog w 51 fun cl => ∃ ys : List Int, cl = [.sl (S := S) U.u8 ys none] ∧ ys.length ≤ B63 ∧ ∀ y ∈ ys, 0 ≤ y ∧ y ≤ 255 :=
  OpA.slice (S := S) (u := U.u8) Tryd.underlying51 z5 oByte
theorem oStrE : OpA S enc Tryd.prog w 9 fun cl => ∃ s : ByteArray, cl = Cod.enc (S := S) U.str s ∧ s.size ≤ B63 := OpA.str Tryd.underlying9
theorem oStrs : OpA S enc Tryd.prog w 22 fun cl => ∃ ys : List ByteArray, cl = [strsV ys] ∧ ys.length ≤ B63 ∧ ∀ y ∈ ys, y.size ≤ B63 :=
  OpA.slice (S := S) (u := U.str) Tryd.underlying22 z9 oStrE
theorem oFm : OpA S enc Tryd.prog w 63 fun cl => ∃ y : Fm, cl = Cod.enc (S := S) U.forme y ∧ y.1.size ≤ B63 := by
  refine (OpA.struct (Rs := [_, _, _, _]) Tryd.underlying63 ⟨rfl, _, _, rfl, OpA.str Tryd.underlying9, by rw [z9], _, _, rfl, oInt, by rw [z9, z3], _, _, rfl, oInt, by rw [z9, z3], _, _, rfl, oInt, by rw [z9, z3, z63], rfl⟩).mono ?_
  rintro cl ⟨a, b, rfl, ⟨s, rfl, hs⟩, c, d, rfl, ⟨n, rfl, _⟩, e, f, rfl, ⟨m, rfl, _⟩, g, h, rfl, ⟨k, rfl, _⟩, rfl⟩
  exact ⟨(s, n, m, k), rfl, hs⟩
theorem oSg : OpA S enc Tryd.prog w 65 fun cl => ∃ y : Sg, cl = Cod.enc (S := S) U.sight y ∧ (IntKind.i64.min ≤ y.1 ∧ y.1 ≤ IntKind.i64.max) := by
  refine (OpA.struct (Rs := [_, _, _]) Tryd.underlying65 ⟨rfl, _, _, rfl, oInt, by rw [z3], _, _, rfl, oInt, by rw [z3], _, _, rfl, oInt, by rw [z3, z65], rfl⟩).mono ?_
  rintro cl ⟨a, b, rfl, ⟨n, rfl, h1⟩, e, f, rfl, ⟨m, rfl, _⟩, g, h, rfl, ⟨k, rfl, _⟩, rfl⟩
  exact ⟨(n, m, k), rfl, h1⟩
theorem oFms : OpA S enc Tryd.prog w 23 fun cl => ∃ ys : List Fm, cl = [fmsV ys] ∧ ys.length ≤ B63 ∧ ∀ y ∈ ys, y.1.size ≤ B63 :=
  OpA.slice (S := S) (u := U.forme) Tryd.underlying23 z63 oFm
theorem oSgs : OpA S enc Tryd.prog w 24 fun cl => ∃ ys : List Sg, cl = [sgsV ys] ∧ ys.length ≤ B63 ∧ ∀ y ∈ ys, (IntKind.i64.min ≤ y.1 ∧ y.1 ≤ IntKind.i64.max) :=
  OpA.slice (S := S) (u := U.sight) Tryd.underlying24 z65 oSg
theorem oJob : OpA S enc Tryd.prog w 26 fun cl => ∃ ts fs ss, cl = [strsV ts, fmsV fs, sgsV ss] ∧ LensJ ts fs ss := by
  refine (OpA.struct (Rs := [_, _, _]) Tryd.underlying26 ⟨rfl, _, _, rfl, oStrs, by rw [z22], _, _, rfl, oFms, by rw [z22, z23], _, _, rfl, oSgs, by rw [z22, z23, z24, z26], rfl⟩).mono ?_
  rintro cl ⟨a, b, rfl, ⟨ts, rfl, h1, h2⟩, c, d, rfl, ⟨fs, rfl, h3, h4⟩, e, f, rfl, ⟨ss, rfl, h5, _⟩, rfl⟩
  exact ⟨ts, fs, ss, rfl, ⟨h1, h3, h5, h2, h4⟩⟩
theorem oPast : OpA S enc Tryd.prog w 53 fun cl => ∃ sk ty dy sh : List Int, cl = [.sl (S := S) U.u8 sk none, .sl (S := S) U.u8 ty none, .sl (S := S) U.u8 dy none, .sl (S := S) U.u8 sh none] ∧
    (sk.length ≤ B63 ∧ ∀ y ∈ sk, 0 ≤ y ∧ y ≤ 255) ∧ (ty.length ≤ B63 ∧ ∀ y ∈ ty, 0 ≤ y ∧ y ≤ 255) ∧ (dy.length ≤ B63 ∧ ∀ y ∈ dy, 0 ≤ y ∧ y ≤ 255) ∧ (sh.length ≤ B63 ∧ ∀ y ∈ sh, 0 ≤ y ∧ y ≤ 255) := by
  refine (OpA.struct (Rs := [_, _, _, _]) Tryd.underlying53 ⟨rfl, _, _, rfl, oBytes, by rw [z51], _, _, rfl, oBytes, by rw [z51], _, _, rfl, oBytes, by rw [z51], _, _, rfl, oBytes, by rw [z51, z53], rfl⟩).mono ?_
  rintro cl ⟨a, b, rfl, ⟨sk, rfl, h1⟩, c, d, rfl, ⟨ty, rfl, h2⟩, e, f, rfl, ⟨dy, rfl, h3⟩, g, h, rfl, ⟨sh, rfl, h4⟩, rfl⟩
  exact ⟨sk, ty, dy, sh, rfl, h1, h2, h3, h4⟩
end

/-- A job without anything. -/
abbrev noJob : Value := .agg #[.slice none 0 0, .slice none 0 0, .slice none 0 0]
end Go.Ab.SkF
