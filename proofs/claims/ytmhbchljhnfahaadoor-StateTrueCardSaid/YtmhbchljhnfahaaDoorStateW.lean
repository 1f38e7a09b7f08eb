/-
  THE STATE FAMILY, PART W: the document's examples: lists compared, the formes, the orders.
-/
import Derived.Test.YtmhbchljhnfahaaDoorStateB
namespace Go.Ab.StF
open Go Go.Ab Go.Proofs
set_option maxHeartbeats 1000000
set_option maxRecDepth 100000

def eqUp (xs ys : List Int) : Nat → Bool
  | 0 => (xs.length : Int) == ys.length
  | i + 1 => xs.getD i 0 == ys.getD i 0

theorem getD_el {α : Type} {xs : List α} {d : α} {i : Nat} (h : i < xs.length) : xs.getD i d = xs[i] := by
  rw [List.getD_eq_getElem?_getD, List.getElem?_eq_getElem h]; rfl

theorem eqUp_all {xs ys : List Int} (hl : xs.length = ys.length) : ∀ i, i ≤ xs.length → (∀ j, j ≤ i → eqUp xs ys j = true) → xs.take i = ys.take i
  | 0, _, _ => by simp
  | i + 1, hi, h => by
    have h1 := eqUp_all hl i (by omega) fun j hj => h j (by omega)
    have h2 : xs.getD i 0 = ys.getD i 0 := by simpa [eqUp] using h (i + 1) (Nat.le_refl _)
    have hx : i < xs.length := by omega
    have hy : i < ys.length := by omega
    rw [getD_el hx, getD_el hy] at h2
    rw [List.take_succ_eq_append_getElem hx, List.take_succ_eq_append_getElem hy, h1, h2]

abbrev fr20 (xs ys : List Int) (i : Nat) : St S := { tmps := [vL xs, vL ys, .undef, .undef, .undef, vB (eqUp xs ys i), vI i, .undef, .undef, .undef, .undef, .undef, .undef, .undef, .undef, .undef, .undef, .undef, .undef, .undef, .undef, .undef, .undef, .undef, .undef, .undef, .undef, .undef, .undef, .undef, .undef], seg := [], up := [] }

theorem c20 (gl : Gl) (xs ys : List Int) (hx : xs.length ≤ 9223372036854775807) : PCalls PR gl 20 [vL xs, vL ys] fun r => r = vB (decide (xs = ys)) := by
  refine fnW_sound (par_ok gl) Tryd.func20 ?_
  conv => whnf
  refine ⟨⟨99, [], []⟩, ?_⟩
  refine LoopW_ind _ (fun i : Nat => fr20 xs ys i) (fun i => i ≤ xs.length ∧ ∀ j, j < i → eqUp xs ys j = true) (fun i => xs.length - i) () ?_ 0 ⟨Nat.zero_le _, fun j hj => absurd hj (Nat.not_lt_zero _)⟩
  rintro i ⟨hi, h⟩ Z hZ
  conv => whnf
  have fin : (eqUp xs ys i && decide ((i : Int) < xs.length)) = false → eqUp xs ys i = decide (xs = ys) := fun h1 => by
    by_cases he : eqUp xs ys i = true
    · rw [he, Bool.true_and] at h1
      have h1 := of_decide_eq_false h1
      have hi2 : i = xs.length := by omega
      have h' : ∀ j, j ≤ i → eqUp xs ys j = true := fun j hj => by
        by_cases hji : j = i
        · rw [hji]; exact he
        · exact h j (by omega)
      have hl : xs.length = ys.length := by simpa [eqUp, Int.natCast_inj] using h' 0 (by omega)
      have := eqUp_all hl i hi h'
      rw [hi2, List.take_length, hl, List.take_length] at this
      rw [he, this]; simp
    · have he : eqUp xs ys i = false := by simpa using he
      have : xs ≠ ys := fun hxy => by
        subst hxy
        cases i <;> simp [eqUp] at he
      rw [he]; simp [this]
  refine bcase_iff.2 ⟨fun h0 => ?_, fun h0 => ?_⟩
  · have h0 : eqUp xs ys i = true := h0
    conv => whnf
    refine bcase_iff.2 ⟨fun h1 => ?_, fun h1 => ?_⟩
    · have h1 := of_decide_eq_true h1
      have hlt : i < xs.length := by omega
      have h' : ∀ j, j < i + 1 → eqUp xs ys j = true := fun j hj => by
        by_cases hji : j = i
        · rw [hji]; exact h0
        · exact h j (by omega)
      have hl : xs.length = ys.length := by simpa [eqUp, Int.natCast_inj] using h' 0 (by omega)
      have hw : IntKind.i64.wrap ((i : Int) + 1) = ((i + 1 : Nat) : Int) := wrap_nat (by omega)
      have he : eqUp xs ys (i + 1) = (xs[i] == (ys[i]'(by omega))) := by show (xs.getD i 0 == ys.getD i 0) = _; rw [getD_el hlt, getD_el]
      conv => whnf
      refine ⟨[0, 1, 2, 3, 4, 5, 6, 7, 8, 9], [], [], [], ⟨2147483647, [], []⟩, by decide +kernel, ?_⟩
      conv => whnf
      refine ⟨_, getI_nat hlt, ?_⟩
      conv => whnf
      refine ⟨_, getI_nat (show i < ys.length by omega), ?_⟩
      conv => whnf
      refine ⟨⟨99, [], []⟩, ?_⟩
      have := hZ (i + 1) ⟨hlt, h'⟩ (by omega)
      unfold fr20 at this
      rw [← hw, he] at this
      exact this
    · have h1 : decide ((i : Int) < xs.length) = false := h1
      have := fin (by rw [h0, h1]; rfl)
      conv => whnf
      rw [this]
  · have h0 : eqUp xs ys i = false := h0
    have := fin (by rw [h0]; rfl)
    conv => whnf
    rw [this]

theorem op20 : Opens PR 20 := ⟨_, Tryd.func20, rfl, rfl⟩

abbrev ordrV (p : List Int × List Int) : AV S := .agg [vL p.1, vL p.2]

theorem c23 (gl : Gl) (a b : List Int × List Int) (h1 : a.1.length ≤ 9223372036854775807) (h2 : a.2.length ≤ 9223372036854775807) : PCalls PR gl 23 [ordrV a, ordrV b] fun r => r = vB (decide (a = b)) := by
  have hE : decide (a = b) = (decide (a.1 = b.1) && decide (a.2 = b.2)) := by
    obtain ⟨a1, a2⟩ := a
    obtain ⟨b1, b2⟩ := b
    by_cases h1 : a1 = b1 <;> by_cases h2 : a2 = b2 <;> simp [h1, h2]
  refine fnW_sound (par_ok gl) Tryd.func23 ?_
  conv => whnf
  refine byC (c20 gl a.1 b.1 h1) op20 ?_
  conv => whnf
  refine bcase_iff.2 ⟨fun h3 => ?_, fun h3 => ?_⟩
  · have h3 : decide (a.1 = b.1) = true := h3
    conv => whnf
    refine byC (c20 gl a.2 b.2 h2) op20 ?_
    conv => whnf
    rw [hE, h3]; rfl
  · have h3 : decide (a.1 = b.1) = false := h3
    conv => whnf
    rw [hE, h3]; rfl

theorem op23 : Opens PR 23 := ⟨_, Tryd.func23, rfl, rfl⟩

abbrev fr41 (xs ys : List (Int × Int)) (i : Nat) : St S := { tmps := [rdgsV xs, rdgsV ys, .undef, .undef, .undef, vI i, .undef, .undef, .undef, .undef, .undef, .undef, .undef, .undef, .undef, .undef, .undef, .undef, .undef, .undef, .undef, .undef, .undef, .undef, .undef, .undef], seg := [], up := [] }

theorem c41 (gl : Gl) (xs ys : List (Int × Int)) (hx : xs.length ≤ 9223372036854775807) : PCalls PR gl 41 [rdgsV xs, rdgsV ys] fun r => r = vB (decide (xs = ys)) := by
  refine fnW_sound (par_ok gl) Tryd.func41 ?_
  conv => whnf
  refine bcase_iff.2 ⟨fun h1 => ?_, fun h1 => ?_⟩
  · have h1 : ((xs.length : Int) != ys.length) = true := h1
    have hn : xs ≠ ys := fun h => by rw [h] at h1; simp at h1
    conv => whnf
    rw [decide_eq_false hn]
  have h1 : ((xs.length : Int) != ys.length) = false := h1
  have hl : xs.length = ys.length := by
    have h1 : (xs.length : Int) = ys.length := by simpa using h1
    omega
  conv => whnf
  refine ⟨⟨35, [], []⟩, ?_⟩
  refine LoopW_ind _ (fun i : Nat => fr41 xs ys i) (fun i => i ≤ xs.length ∧ xs.take i = ys.take i) (fun i => xs.length - i) () ?_ 0 ⟨Nat.zero_le _, by simp⟩
  rintro i ⟨hi, h⟩ Z hZ
  conv => whnf
  refine bcase_iff.2 ⟨fun h1 => ?_, fun h1 => ?_⟩
  · have h1 := of_decide_eq_true h1
    have hlt : i < xs.length := by omega
    have hlt2 : i < ys.length := by omega
    have hw : IntKind.i64.wrap ((i : Int) + 1) = ((i + 1 : Nat) : Int) := wrap_nat (by omega)
    conv => whnf
    refine ⟨[0, 1, 2, 3, 4, 5, 6, 7, 8], [], [], [], ⟨67108863, [], []⟩, by decide +kernel, ?_⟩
    conv => whnf
    refine ⟨_, getI_nat hlt, ?_⟩
    conv => whnf
    refine ⟨_, getI_nat hlt2, ?_⟩
    conv => whnf
    refine ⟨_, rfl, ?_⟩
    conv => whnf
    refine bcase_iff.2 ⟨fun h2 => ?_, fun h2 => ?_⟩
    · have h2 : (!(xs[i].1 == ys[i].1 && xs[i].2 == ys[i].2)) = true := h2
      have hn : xs ≠ ys := fun h => by subst h; simp at h2
      conv => whnf
      rw [decide_eq_false hn]
    · have h2 : (!(xs[i].1 == ys[i].1 && xs[i].2 == ys[i].2)) = false := h2
      have h3 : xs[i] = ys[i] := by
        simp at h2
        exact Prod.ext h2.1 h2.2
      conv => whnf
      refine ⟨⟨35, [], []⟩, ?_⟩
      have := hZ (i + 1) ⟨hlt, by rw [List.take_succ_eq_append_getElem hlt, List.take_succ_eq_append_getElem hlt2, h, h3]⟩ (by omega)
      unfold fr41 at this
      rw [← hw] at this
      exact this
  · have h1 := of_decide_eq_false h1
    have hi2 : i = xs.length := by omega
    have : xs = ys := by
      have h := h
      rw [hi2, List.take_length, hl, List.take_length] at h
      exact h
    conv => whnf
    rw [decide_eq_true this]

theorem op41 : Opens PR 41 := ⟨_, Tryd.func41, rfl, rfl⟩

theorem c104 (gl : Gl) (nm : ByteArray) (x y z : Int) : PCalls PR gl 104 [.str nm, vI x, vI y, vI z] fun r => r = .agg [.str nm, vL [x, y, z]] := by
  refine fnW_sound (par_ok gl) Tryd.func104 ?_
  conv => whnf
  refine ⟨_, rfl, ?_⟩
  conv => whnf
  refine ⟨_, rfl, ?_⟩
  conv => whnf
  refine ⟨_, rfl, ?_⟩
  conv => whnf

theorem op104 : Opens PR 104 := ⟨_, Tryd.func104, rfl, rfl⟩

theorem c43 (gl : Gl) : PCalls PR gl 43 [] fun r => r = .sl (S := S) U.order [([1, 1, 1], [0, 1, 2]), ([1, 1, 2], [2, 0, 1]), ([1, 1, 1], [0, 2, 1])] none := by
  refine fnW_sound (par_ok gl) Tryd.func43 ?_
  conv => whnf
  refine ⟨_, rfl, ?_⟩
  conv => whnf
  refine ⟨_, rfl, ?_⟩
  conv => whnf
  refine ⟨_, rfl, ?_⟩
  conv => whnf
  refine ⟨_, rfl, ?_⟩
  conv => whnf
  refine ⟨_, rfl, ?_⟩
  conv => whnf
  refine ⟨_, rfl, ?_⟩
  conv => whnf
  refine ⟨_, rfl, ?_⟩
  conv => whnf
  refine ⟨_, rfl, ?_⟩
  conv => whnf
  refine ⟨_, rfl, ?_⟩
  conv => whnf
  refine ⟨_, rfl, ?_⟩
  conv => whnf
  refine ⟨_, rfl, ?_⟩
  conv => whnf
  refine ⟨_, rfl, ?_⟩
  conv => whnf
  refine ⟨_, rfl, ?_⟩
  conv => whnf
  refine ⟨_, rfl, ?_⟩
  conv => whnf
  refine ⟨_, rfl, ?_⟩
  conv => whnf
  refine ⟨_, rfl, ?_⟩
  conv => whnf
  refine ⟨_, rfl, ?_⟩
  conv => whnf
  refine ⟨_, rfl, ?_⟩
  conv => whnf
  refine ⟨_, rfl, ?_⟩
  conv => whnf
  refine ⟨_, rfl, ?_⟩
  conv => whnf
  refine ⟨_, rfl, ?_⟩
  conv => whnf

theorem op43 : Opens PR 43 := ⟨_, Tryd.func43, rfl, rfl⟩

abbrev nm (c : UInt8) : ByteArray := ⟨#[c]⟩
def xsF : List (ByteArray × Int) := [(nm 120, 1), (nm 121, 0), (nm 122, 0)]
def csF : List (ByteArray × List Int) := [(nm 112, [1, 1, 1]), (nm 113, [2, 1, 1]), (nm 114, [2, 2, 1]), (nm 115, [2, 2, 0])]
def csG : List (ByteArray × List Int) := [(nm 112, [1, 1, 1]), (nm 113, [2, 1, 1]), (nm 114, [2, 2, 1]), (nm 115, [2, 2, 0]), (nm 116, [1, 2, 1])]

theorem c42F (gl : Gl) : PCalls PR gl 42 [vB false] fun r => r = forV xsF csF := by
  refine fnW_sound (par_ok gl) Tryd.func42 ?_
  conv => whnf
  refine ⟨_, rfl, ?_⟩
  conv => whnf
  refine ⟨_, rfl, ?_⟩
  conv => whnf
  refine ⟨_, rfl, ?_⟩
  conv => whnf
  refine byC (c104 gl _ _ _ _) op104 ?_
  conv => whnf
  refine byC (c104 gl _ _ _ _) op104 ?_
  conv => whnf
  refine byC (c104 gl _ _ _ _) op104 ?_
  conv => whnf
  refine byC (c104 gl _ _ _ _) op104 ?_
  conv => whnf
  refine ⟨_, rfl, ?_⟩
  conv => whnf
  refine ⟨_, rfl, ?_⟩
  conv => whnf
  refine ⟨_, rfl, ?_⟩
  conv => whnf
  refine ⟨_, rfl, ?_⟩
  conv => whnf
  rfl

theorem c42G (gl : Gl) : PCalls PR gl 42 [vB true] fun r => r = forV xsF csG := by
  refine fnW_sound (par_ok gl) Tryd.func42 ?_
  conv => whnf
  refine ⟨_, rfl, ?_⟩
  conv => whnf
  refine ⟨_, rfl, ?_⟩
  conv => whnf
  refine ⟨_, rfl, ?_⟩
  conv => whnf
  refine byC (c104 gl _ _ _ _) op104 ?_
  conv => whnf
  refine byC (c104 gl _ _ _ _) op104 ?_
  conv => whnf
  refine byC (c104 gl _ _ _ _) op104 ?_
  conv => whnf
  refine byC (c104 gl _ _ _ _) op104 ?_
  conv => whnf
  refine ⟨_, rfl, ?_⟩
  conv => whnf
  refine ⟨_, rfl, ?_⟩
  conv => whnf
  refine ⟨_, rfl, ?_⟩
  conv => whnf
  refine ⟨_, rfl, ?_⟩
  conv => whnf
  refine ⟨[0, 1, 2, 3, 4, 5, 6, 7, 8, 9], [6], [], [], ⟨549755813887, [], []⟩, by decide +kernel, ?_⟩
  conv => whnf
  refine byC (c104 gl _ _ _ _) op104 ?_
  conv => whnf
  refine ⟨_, rfl, ?_⟩
  conv => whnf
  refine ⟨by show 4 + 1 ≤ 1099511627776; omega, ?_⟩
  conv => whnf
  rfl

theorem op42 : Opens PR 42 := ⟨_, Tryd.func42, rfl, rfl⟩

theorem lensF : Lens xsF csF := ⟨by decide +kernel, by decide +kernel, by decide +kernel⟩
theorem lensG : Lens xsF csG := ⟨by decide +kernel, by decide +kernel, by decide +kernel⟩
theorem e18a : oddR xsF csF [1, 1, 1] [0, 2, 1] = ([2], 0) := by decide +kernel
theorem e21F : firstR xsF csF = (([1, 1, 1], [0, 1, 2]), 2, 0) := by decide +kernel
theorem e21G : firstR xsF csG = (([], []), 0, 9) := by decide +kernel
theorem e27a : readR xsF csF 0 = (1, 0) := by decide +kernel
theorem e29a : befR xsF csF 0 1 = (1, 0) := by decide +kernel
theorem e31a : aftR xsF csF 3 = ((2, 3), 0) := by decide +kernel
theorem e33a : earR xsF csF 1 3 = (1, 0) := by decide +kernel
theorem e24 : lastR xsF csF = ([2, 2, 0], 0) := by decide +kernel
theorem e35G : proofR xsF csG = ([0, 1, 2, 4], 0) := by decide +kernel
theorem e37G : wrongR xsF csG = ([0], 0) := by decide +kernel
theorem e39G : mistR xsF csG = ([(0, 0)], 0) := by decide +kernel
theorem to {gl : Gl} {f : FuncId} {args : List (AV S)} {v w : AV S} (h : PCalls PR gl f args fun r => r = v) (e : v = w) : PCalls PR gl f args fun r => r = w := e ▸ h

theorem op24 : Opens PR 24 := ⟨_, Tryd.func24, rfl, rfl⟩
theorem op27 : Opens PR 27 := ⟨_, Tryd.func27, rfl, rfl⟩
theorem op29 : Opens PR 29 := ⟨_, Tryd.func29, rfl, rfl⟩
theorem op31 : Opens PR 31 := ⟨_, Tryd.func31, rfl, rfl⟩
theorem op33 : Opens PR 33 := ⟨_, Tryd.func33, rfl, rfl⟩
theorem op35 : Opens PR 35 := ⟨_, Tryd.func35, rfl, rfl⟩
theorem op37 : Opens PR 37 := ⟨_, Tryd.func37, rfl, rfl⟩

theorem c26 : PCalls PR glT 26 [] fun r => r = vB true := by
  refine fnW_sound (par_ok glT) Tryd.func26 ?_
  conv => whnf
  refine byC (c42F glT) op42 ?_
  conv => whnf
  refine byC (c42G glT) op42 ?_
  conv => whnf
  refine ⟨[0, 1, 2, 3, 4, 5, 6, 7, 8, 9], [], [], [], ⟨49039857307708443467467104868809893875799651909875269631, [], []⟩, by decide +kernel, ?_⟩
  conv => whnf
  refine byC (c43 glT) op43 ?_
  conv => whnf
  refine ⟨_, rfl, ?_⟩
  conv => whnf
  refine byC (to (c18 glT xsF csF lensF [1, 1, 1] [0, 2, 1] (by decide) (by decide)) (congrArg lstV e18a)) op18 ?_
  conv => whnf
  refine byC (to (c21 glT xsF csF lensF) (congrArg fstV e21F)) op21 ?_
  conv => whnf
  refine byC (to (c27 glT xsF csF lensF 0) (congrArg intV e27a)) op27 ?_
  conv => whnf
  refine byC (to (c29 glT xsF csF lensF 0 1) (congrArg intV e29a)) op29 ?_
  conv => whnf
  refine byC (to (c31 glT xsF csF lensF 3) (congrArg spanV e31a)) op31 ?_
  conv => whnf
  refine byC (to (c33 glT xsF csF lensF 1 3) (congrArg intV e33a)) op33 ?_
  conv => whnf
  refine byC (to (c24 glT xsF csF lensF) (congrArg lstV e24)) op24 ?_
  conv => whnf
  refine byC (to (c21 glT xsF csG lensG) (congrArg fstV e21G)) op21 ?_
  conv => whnf
  refine byC (to (c35 xsF csG lensG) (congrArg lstV e35G)) op35 ?_
  conv => whnf
  refine byC (to (c37 xsF csG lensG) (congrArg lstV e37G)) op37 ?_
  conv => whnf
  refine byC (to (c39 xsF csG lensG) (congrArg (fun p : List (Int × Int) × Int => (.tup [rdgsV p.1, vI p.2] : AV S)) e39G)) op39 ?_
  conv => whnf
  refine ⟨[0, 1, 2, 3, 4, 5, 6, 7, 8, 9, 10, 11, 12, 13, 14, 15, 16, 17, 18, 19, 20, 21, 22, 23, 24, 25, 26, 27, 28, 29, 30, 31, 32, 33, 34, 35, 36, 37, 38, 39, 40, 41, 42, 43, 44, 45, 46, 47, 48, 49, 50, 51, 52, 53, 54, 55, 56, 57, 58, 59, 60, 61, 62, 63, 64, 65, 66, 67, 68, 69, 70, 71, 72, 73, 74, 75, 76, 77, 78, 79, 80, 81, 82, 83, 84, 85, 86, 87, 88, 89, 90, 91, 92, 93, 94, 95, 96], [44, 77, 82, 87, 93], [], [], ⟨49039857307708443467467104868809893875799651909875269631, [], []⟩, by decide +kernel, ?_⟩
  conv => whnf
  refine ⟨_, rfl, ?_⟩
  conv => whnf
  refine byC (c20 glT [2] [2] (by decide)) op20 ?_
  conv => whnf
  refine byC (c43 glT) op43 ?_
  conv => whnf
  refine ⟨_, rfl, ?_⟩
  conv => whnf
  refine byC (c23 glT ([1, 1, 1], [0, 1, 2]) ([1, 1, 1], [0, 1, 2]) (by decide) (by decide)) op23 ?_
  conv => whnf
  refine ⟨_, rfl, ?_⟩
  conv => whnf
  refine ⟨_, rfl, ?_⟩
  conv => whnf
  refine ⟨_, rfl, ?_⟩
  conv => whnf
  refine ⟨_, rfl, ?_⟩
  conv => whnf
  refine byC (c20 glT [2, 2, 0] [2, 2, 0] (by decide)) op20 ?_
  conv => whnf
  refine ⟨_, rfl, ?_⟩
  conv => whnf
  refine ⟨_, rfl, ?_⟩
  conv => whnf
  refine ⟨_, rfl, ?_⟩
  conv => whnf
  refine ⟨_, rfl, ?_⟩
  conv => whnf
  refine byC (c20 glT [0, 1, 2, 4] [0, 1, 2, 4] (by decide)) op20 ?_
  conv => whnf
  refine ⟨_, rfl, ?_⟩
  conv => whnf
  refine byC (c20 glT [0] [0] (by decide)) op20 ?_
  conv => whnf
  refine ⟨_, rfl, ?_⟩
  conv => whnf
  refine byC (c41 glT [(0, 0)] [(0, 0)] (by decide)) op41 ?_
  conv => whnf
  rfl

theorem op26 : Opens PR 26 := ⟨_, Tryd.func26, rfl, rfl⟩

end Go.Ab.StF
