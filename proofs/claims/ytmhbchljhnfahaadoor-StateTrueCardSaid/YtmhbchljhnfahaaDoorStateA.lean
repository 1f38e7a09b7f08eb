/-
  THE STATE FAMILY, PART A: the elements that its slices and arrays have.
  THE STATE FAMILY, PART B: what is known of its types. (Made by program.)
  THE STATE FAMILY, PART BA: when its structs are the same, and the keys of its maps.
  THE STATE FAMILY, PART C: what stands for calls.
  THE STATE FAMILY, PART D: the iterator firsts of package state.
  THE STATE FAMILY, PART E: small functions of package state.
  THE STATE FAMILY, PART F: steps.
  THE STATE FAMILY, PART G: the iterator orders.
  THE STATE FAMILY, PART H: the iterator orders, whole.
  THE STATE FAMILY, PART I: small functions of both sides.
  THE STATE FAMILY, PART J: names.
  THE STATE FAMILY, PART N: names, by the program's own way (a range over a string).
  THE STATE FAMILY, PART L: Check, of the program.
  THE STATE FAMILY, PART O: open: what copies show, as bits.
  THE STATE FAMILY, PART P: orders that are given.
  THE STATE FAMILY, PART Q: what is asked of a forme.
-/
import Derived.Test.YtmhbchljhnfahaaDoorProg
import Derived.Laws.StructEq
import Derived.Tactics
import Derived.Tactics2
import Derived.KernelRfl
import Derived.Laws.Runes
import Derived.Laws.Strings
import Derived.Laws.RangeString
import Derived.Laws.RangeAny
import Derived.Laws.Strings2
import Derived.Laws.Strings3
import Derived.Laws.World
import Derived.Scope
import Derived.LoopTactic
import Derived.Test.YtmhbchljhnfahaaDoorEngC
namespace Go.Ab.StF
open Go Go.Ab

inductive U where
  | int | u8 | str | locus | copy | ints | order | reading | shown
  deriving DecidableEq

abbrev T : U → Type
  | .int => Int
  | .u8 => Int
  | .str => ByteArray
  | .locus => ByteArray × Int
  | .copy => ByteArray × List Int
  | .ints => List Int
  | .order => List Int × List Int
  | .reading => Int × Int
  | .shown => List Int

abbrev S : Sig := ⟨U, T⟩

def size : U → Nat
  | .int | .u8 | .str | .ints => 1
  | .locus | .copy | .order | .reading => 2
  | .shown => 3

def enc : (u : U) → T u → List (AV S)
  | .int, n => [.int .i64 n]
  | .u8, n => [.int .u8 n]
  | .str, s => [.str s]
  | .locus, p => [.str p.1, .int .i64 p.2]
  | .copy, p => [.str p.1, .sl (S := S) U.int p.2 none]
  | .ints, xs => [.sl (S := S) U.int xs none]
  | .order, p => [.sl (S := S) U.int p.1 none, .sl (S := S) U.int p.2 none]
  | .reading, p => [.int .i64 p.1, .int .i64 p.2]
  | .shown, xs => [.arr (S := S) U.int 3 xs]

def isl : AV S → Option (List Int)
  | .nils => some []
  | .sl u xs none => match u with
    | .int => some xs
    | _ => none
  | _ => none

def dec : (u : U) → List (AV S) → Option (T u)
  | .int, [.int .i64 n] => some n
  | .u8, [.int .u8 n] => some n
  | .str, [.str s] => some s
  | .locus, [.str s, .int .i64 n] => some (s, n)
  | .copy, [.str s, v] => match isl v with | some xs => some (s, xs) | none => none
  | .ints, [v] => isl v
  | .order, [v, u] => match isl v with | some xs => (match isl u with | some ys => some (xs, ys) | none => none) | none => none
  | .reading, [.int .i64 a, .int .i64 b] => some (a, b)
  | .shown, [.arr u 3 xs] => match u with
    | .int => some xs
    | _ => none
  | _, _ => none

def data : U → Bool
  | .copy | .ints | .order => false
  | _ => true

instance : Cod S := ⟨inferInstanceAs (DecidableEq U), size, enc, dec, data⟩

theorem isl_back {v : AV S} {xs : List Int} (h : isl v = some xs) : ∀ {w V l vs}, Reps w V l vs [v] → Reps w V Loc.none vs [.sl (S := S) U.int xs none] := by
  intro w V l vs hr
  unfold isl at h
  split at h
  · cases h
    obtain ⟨z, zs, rfl, h1, h2⟩ := hr.head trivial
    rw [h2.nil_inv]
    obtain ⟨base, hb⟩ := h1.nils
    exact Rep.flat1 ⟨rfl, base, 0, hb⟩
  · split at h
    · cases h; exact slice_out hr (fun _ _ h => h) fun d e => by cases e
    · cases h
  · cases h

theorem dec_back : ∀ (u : U) (cs : List (AV S)) (x : T u), dec u cs = some x → ∀ w V l vs, Reps w V l vs cs → Reps w V Loc.none vs (enc u x) := by
  intro u cs x h w V l vs hr
  unfold dec at h
  split at h
  · cases h; exact pure_reps hr 1 rfl
  · cases h; exact pure_reps hr 1 rfl
  · cases h; exact pure_reps hr 1 rfl
  · cases h; exact pure_reps hr 1 rfl
  · split at h
    · rename_i hi
      cases h
      obtain ⟨va, vb, rfl, h1, h2⟩ := hr.uncons
      exact (pure_reps h1 1 rfl).append (isl_back hi h2)
    · cases h
  · exact isl_back h hr
  · split at h
    · rename_i hi
      split at h
      · rename_i hj
        cases h
        obtain ⟨va, vb, rfl, h1, h2⟩ := hr.uncons
        exact (isl_back hi h1).append (isl_back hj h2)
      · cases h
    · cases h
  · cases h; exact pure_reps hr 1 rfl
  · split at h
    · cases h; exact pure_reps hr 1 rfl
    · cases h
  · cases h

def plainB : AV S → Bool
  | .bool _ | .int _ _ | .str _ => true
  | _ => false

theorem plain_any {w : World} {V : Nat → Nat → Prop} {l : Loc} {vs : List Value} {cs : List (AV S)} (h : Reps w V l vs cs) (hc : cs.all plainB = true) : ∀ w' V' l', Reps w' V' l' vs cs := by
  have hcons : ∀ {c : AV S} {cs : List (AV S)}, (c :: cs).all plainB = true → plainB c = true ∧ cs.all plainB = true := fun h => by simpa using h
  induction h with
  | nil => exact fun _ _ _ => .nil _
  | @flat l v c vs cs h _ ih =>
    intro w' V' l'
    obtain ⟨h1, h2⟩ := hcons hc
    refine .flat ?_ (ih h2 _ _ _)
    cases c <;> first | exact h | cases h1
  | _ => have h1 := (hcons hc).1; cases h1

theorem data_any : ∀ (u : U) (x : T u), data u = true → ∀ w V l vs, Reps w V l vs (enc u x) → ∀ w' V' l', Reps w' V' l' vs (enc u x) := by
  intro u x hu w V l vs hr w' V' l'
  cases u
  case int => exact plain_any hr rfl _ _ _
  case u8 => exact plain_any hr rfl _ _ _
  case str => exact plain_any hr rfl _ _ _
  case locus => exact plain_any hr rfl _ _ _
  case reading => exact plain_any hr rfl _ _ _
  case shown =>
    generalize hcs : enc U.shown x = cs at hr ⊢
    cases hr with
    | nil => exact .nil _
    | arr hn r t =>
      cases hcs
      rw [t.nil_inv]
      refine .arr hn (plain_any r ?_ _ _ _) (.nil _)
      simp [List.all_flatMap, Cod.enc, enc, plainB]
    | flat h t => cases hcs; exact h.elim
    | ref h r t => cases hcs
    | sl h r hc t => cases hcs
    | tok ht h r hc t => cases hcs
    | clo r r' t => cases hcs
    | agg r t => cases hcs
    | tup r t => cases hcs
  all_goals cases hu

instance : LawCod S where
  width u x := by cases u <;> rfl
  pos u := by cases u <;> exact Nat.succ_pos _
  cell u x := by cases u <;> rfl
  back := dec_back
  data := data_any
end Go.Ab.StF

namespace Go.Ab.StF
open Go Go.Ab Go.Proofs

theorem info_of {P : Program} {t : TypeId} {i : TypeInfo} (h : P.types[t]? = some i) : P.info? t = some i := by
  have hl := (Array.getElem?_eq_some_iff.1 h).1
  simp [Tables.info?, h]
  omega

theorem tis_nil {P : Program} : TisOk (S := S) P [] := fun t ty h => by simp [lookA] at h
theorem tis_cons {P : Program} {t : Nat} {y : TyI S} {l : List (Nat × TyI S)} (h : TyOk P t y) (hl : TisOk P l) : TisOk P ((t, y) :: l) := fun t' ty h' => by
  simp only [lookA] at h'
  by_cases ht : t = t'
  · subst ht; rw [if_pos rfl] at h'; cases h'; exact h
  · rw [if_neg ht] at h'; exact hl _ _ h'

theorem i1 : Tryd.prog.info? 1 = some Tryd.t1 := info_of Tryd.type1
theorem i2 : Tryd.prog.info? 2 = some Tryd.t2 := info_of Tryd.type2
theorem i3 : Tryd.prog.info? 3 = some Tryd.t3 := info_of Tryd.type3
theorem i4 : Tryd.prog.info? 4 = some Tryd.t4 := info_of Tryd.type4
theorem i5 : Tryd.prog.info? 5 = some Tryd.t5 := info_of Tryd.type5
theorem i6 : Tryd.prog.info? 6 = some Tryd.t6 := info_of Tryd.type6
theorem i7 : Tryd.prog.info? 7 = some Tryd.t7 := info_of Tryd.type7
theorem i9 : Tryd.prog.info? 9 = some Tryd.t9 := info_of Tryd.type9
theorem i12 : Tryd.prog.info? 12 = some Tryd.t12 := info_of Tryd.type12
theorem i13 : Tryd.prog.info? 13 = some Tryd.t13 := info_of Tryd.type13
theorem i17 : Tryd.prog.info? 17 = some Tryd.t17 := info_of Tryd.type17
theorem i18 : Tryd.prog.info? 18 = some Tryd.t18 := info_of Tryd.type18
theorem i19 : Tryd.prog.info? 19 = some Tryd.t19 := info_of Tryd.type19
theorem i21 : Tryd.prog.info? 21 = some Tryd.t21 := info_of Tryd.type21
theorem i22 : Tryd.prog.info? 22 = some Tryd.t22 := info_of Tryd.type22
theorem i23 : Tryd.prog.info? 23 = some Tryd.t23 := info_of Tryd.type23
theorem i24 : Tryd.prog.info? 24 = some Tryd.t24 := info_of Tryd.type24
theorem i25 : Tryd.prog.info? 25 = some Tryd.t25 := info_of Tryd.type25
theorem i26 : Tryd.prog.info? 26 = some Tryd.t26 := info_of Tryd.type26
theorem i27 : Tryd.prog.info? 27 = some Tryd.t27 := info_of Tryd.type27
theorem i28 : Tryd.prog.info? 28 = some Tryd.t28 := info_of Tryd.type28
theorem i29 : Tryd.prog.info? 29 = some Tryd.t29 := info_of Tryd.type29
theorem i31 : Tryd.prog.info? 31 = some Tryd.t31 := info_of Tryd.type31
theorem i33 : Tryd.prog.info? 33 = some Tryd.t33 := info_of Tryd.type33
theorem i34 : Tryd.prog.info? 34 = some Tryd.t34 := info_of Tryd.type34
theorem i36 : Tryd.prog.info? 36 = some Tryd.t36 := info_of Tryd.type36
theorem i37 : Tryd.prog.info? 37 = some Tryd.t37 := info_of Tryd.type37
theorem i38 : Tryd.prog.info? 38 = some Tryd.t38 := info_of Tryd.type38
theorem i39 : Tryd.prog.info? 39 = some Tryd.t39 := info_of Tryd.type39
theorem i40 : Tryd.prog.info? 40 = some Tryd.t40 := info_of Tryd.type40
theorem i41 : Tryd.prog.info? 41 = some Tryd.t41 := info_of Tryd.type41
theorem i43 : Tryd.prog.info? 43 = some Tryd.t43 := info_of Tryd.type43
theorem i44 : Tryd.prog.info? 44 = some Tryd.t44 := info_of Tryd.type44
theorem i45 : Tryd.prog.info? 45 = some Tryd.t45 := info_of Tryd.type45
theorem i46 : Tryd.prog.info? 46 = some Tryd.t46 := info_of Tryd.type46
theorem i47 : Tryd.prog.info? 47 = some Tryd.t47 := info_of Tryd.type47
theorem i49 : Tryd.prog.info? 49 = some Tryd.t49 := info_of Tryd.type49
theorem i50 : Tryd.prog.info? 50 = some Tryd.t50 := info_of Tryd.type50
theorem i52 : Tryd.prog.info? 52 = some Tryd.t52 := info_of Tryd.type52
theorem i53 : Tryd.prog.info? 53 = some Tryd.t53 := info_of Tryd.type53
theorem i54 : Tryd.prog.info? 54 = some Tryd.t54 := info_of Tryd.type54
theorem i55 : Tryd.prog.info? 55 = some Tryd.t55 := info_of Tryd.type55
theorem i56 : Tryd.prog.info? 56 = some Tryd.t56 := info_of Tryd.type56
theorem i57 : Tryd.prog.info? 57 = some Tryd.t57 := info_of Tryd.type57
theorem i58 : Tryd.prog.info? 58 = some Tryd.t58 := info_of Tryd.type58
theorem i59 : Tryd.prog.info? 59 = some Tryd.t59 := info_of Tryd.type59
theorem i60 : Tryd.prog.info? 60 = some Tryd.t60 := info_of Tryd.type60
theorem i61 : Tryd.prog.info? 61 = some Tryd.t61 := info_of Tryd.type61
theorem i62 : Tryd.prog.info? 62 = some Tryd.t62 := info_of Tryd.type62
theorem i64 : Tryd.prog.info? 64 = some Tryd.t64 := info_of Tryd.type64
theorem i65 : Tryd.prog.info? 65 = some Tryd.t65 := info_of Tryd.type65
theorem i66 : Tryd.prog.info? 66 = some Tryd.t66 := info_of Tryd.type66
theorem i67 : Tryd.prog.info? 67 = some Tryd.t67 := info_of Tryd.type67
theorem i68 : Tryd.prog.info? 68 = some Tryd.t68 := info_of Tryd.type68
theorem i69 : Tryd.prog.info? 69 = some Tryd.t69 := info_of Tryd.type69
theorem i70 : Tryd.prog.info? 70 = some Tryd.t70 := info_of Tryd.type70
theorem i71 : Tryd.prog.info? 71 = some Tryd.t71 := info_of Tryd.type71
theorem i72 : Tryd.prog.info? 72 = some Tryd.t72 := info_of Tryd.type72
theorem i73 : Tryd.prog.info? 73 = some Tryd.t73 := info_of Tryd.type73
theorem i74 : Tryd.prog.info? 74 = some Tryd.t74 := info_of Tryd.type74
theorem i75 : Tryd.prog.info? 75 = some Tryd.t75 := info_of Tryd.type75
theorem i76 : Tryd.prog.info? 76 = some Tryd.t76 := info_of Tryd.type76
theorem i77 : Tryd.prog.info? 77 = some Tryd.t77 := info_of Tryd.type77
theorem i78 : Tryd.prog.info? 78 = some Tryd.t78 := info_of Tryd.type78
theorem i79 : Tryd.prog.info? 79 = some Tryd.t79 := info_of Tryd.type79
theorem i80 : Tryd.prog.info? 80 = some Tryd.t80 := info_of Tryd.type80
theorem i81 : Tryd.prog.info? 81 = some Tryd.t81 := info_of Tryd.type81
theorem i82 : Tryd.prog.info? 82 = some Tryd.t82 := info_of Tryd.type82
theorem i83 : Tryd.prog.info? 83 = some Tryd.t83 := info_of Tryd.type83
theorem i84 : Tryd.prog.info? 84 = some Tryd.t84 := info_of Tryd.type84
theorem i85 : Tryd.prog.info? 85 = some Tryd.t85 := info_of Tryd.type85
theorem i86 : Tryd.prog.info? 86 = some Tryd.t86 := info_of Tryd.type86
theorem i87 : Tryd.prog.info? 87 = some Tryd.t87 := info_of Tryd.type87
theorem i88 : Tryd.prog.info? 88 = some Tryd.t88 := info_of Tryd.type88
theorem i89 : Tryd.prog.info? 89 = some Tryd.t89 := info_of Tryd.type89
theorem i90 : Tryd.prog.info? 90 = some Tryd.t90 := info_of Tryd.type90
theorem i91 : Tryd.prog.info? 91 = some Tryd.t91 := info_of Tryd.type91
theorem i92 : Tryd.prog.info? 92 = some Tryd.t92 := info_of Tryd.type92
theorem i93 : Tryd.prog.info? 93 = some Tryd.t93 := info_of Tryd.type93
theorem i94 : Tryd.prog.info? 94 = some Tryd.t94 := info_of Tryd.type94
theorem i95 : Tryd.prog.info? 95 = some Tryd.t95 := info_of Tryd.type95
theorem i96 : Tryd.prog.info? 96 = some Tryd.t96 := info_of Tryd.type96
theorem i97 : Tryd.prog.info? 97 = some Tryd.t97 := info_of Tryd.type97
theorem i98 : Tryd.prog.info? 98 = some Tryd.t98 := info_of Tryd.type98
theorem i99 : Tryd.prog.info? 99 = some Tryd.t99 := info_of Tryd.type99
theorem i100 : Tryd.prog.info? 100 = some Tryd.t100 := info_of Tryd.type100
theorem i101 : Tryd.prog.info? 101 = some Tryd.t101 := info_of Tryd.type101
theorem i103 : Tryd.prog.info? 103 = some Tryd.t103 := info_of Tryd.type103
theorem i104 : Tryd.prog.info? 104 = some Tryd.t104 := info_of Tryd.type104
theorem i105 : Tryd.prog.info? 105 = some Tryd.t105 := info_of Tryd.type105
theorem i106 : Tryd.prog.info? 106 = some Tryd.t106 := info_of Tryd.type106
theorem i108 : Tryd.prog.info? 108 = some Tryd.t108 := info_of Tryd.type108
theorem i109 : Tryd.prog.info? 109 = some Tryd.t109 := info_of Tryd.type109
theorem i110 : Tryd.prog.info? 110 = some Tryd.t110 := info_of Tryd.type110
theorem i111 : Tryd.prog.info? 111 = some Tryd.t111 := info_of Tryd.type111
theorem i112 : Tryd.prog.info? 112 = some Tryd.t112 := info_of Tryd.type112
theorem i113 : Tryd.prog.info? 113 = some Tryd.t113 := info_of Tryd.type113
theorem i114 : Tryd.prog.info? 114 = some Tryd.t114 := info_of Tryd.type114
theorem i115 : Tryd.prog.info? 115 = some Tryd.t115 := info_of Tryd.type115
theorem i117 : Tryd.prog.info? 117 = some Tryd.t117 := info_of Tryd.type117
theorem i118 : Tryd.prog.info? 118 = some Tryd.t118 := info_of Tryd.type118
theorem i119 : Tryd.prog.info? 119 = some Tryd.t119 := info_of Tryd.type119
theorem i120 : Tryd.prog.info? 120 = some Tryd.t120 := info_of Tryd.type120
theorem i121 : Tryd.prog.info? 121 = some Tryd.t121 := info_of Tryd.type121
theorem i122 : Tryd.prog.info? 122 = some Tryd.t122 := info_of Tryd.type122
theorem i123 : Tryd.prog.info? 123 = some Tryd.t123 := info_of Tryd.type123
theorem i125 : Tryd.prog.info? 125 = some Tryd.t125 := info_of Tryd.type125
theorem i126 : Tryd.prog.info? 126 = some Tryd.t126 := info_of Tryd.type126
theorem i127 : Tryd.prog.info? 127 = some Tryd.t127 := info_of Tryd.type127
theorem i128 : Tryd.prog.info? 128 = some Tryd.t128 := info_of Tryd.type128
theorem i129 : Tryd.prog.info? 129 = some Tryd.t129 := info_of Tryd.type129
theorem i130 : Tryd.prog.info? 130 = some Tryd.t130 := info_of Tryd.type130
theorem i131 : Tryd.prog.info? 131 = some Tryd.t131 := info_of Tryd.type131
theorem i132 : Tryd.prog.info? 132 = some Tryd.t132 := info_of Tryd.type132
theorem i133 : Tryd.prog.info? 133 = some Tryd.t133 := info_of Tryd.type133
theorem i134 : Tryd.prog.info? 134 = some Tryd.t134 := info_of Tryd.type134
theorem i135 : Tryd.prog.info? 135 = some Tryd.t135 := info_of Tryd.type135
theorem i136 : Tryd.prog.info? 136 = some Tryd.t136 := info_of Tryd.type136
theorem i137 : Tryd.prog.info? 137 = some Tryd.t137 := info_of Tryd.type137
theorem i138 : Tryd.prog.info? 138 = some Tryd.t138 := info_of Tryd.type138
theorem i139 : Tryd.prog.info? 139 = some Tryd.t139 := info_of Tryd.type139
theorem i140 : Tryd.prog.info? 140 = some Tryd.t140 := info_of Tryd.type140
theorem i141 : Tryd.prog.info? 141 = some Tryd.t141 := info_of Tryd.type141
theorem i142 : Tryd.prog.info? 142 = some Tryd.t142 := info_of Tryd.type142
theorem i143 : Tryd.prog.info? 143 = some Tryd.t143 := info_of Tryd.type143
theorem i144 : Tryd.prog.info? 144 = some Tryd.t144 := info_of Tryd.type144
theorem i145 : Tryd.prog.info? 145 = some Tryd.t145 := info_of Tryd.type145
theorem i146 : Tryd.prog.info? 146 = some Tryd.t146 := info_of Tryd.type146
theorem i147 : Tryd.prog.info? 147 = some Tryd.t147 := info_of Tryd.type147
theorem i148 : Tryd.prog.info? 148 = some Tryd.t148 := info_of Tryd.type148
theorem i149 : Tryd.prog.info? 149 = some Tryd.t149 := info_of Tryd.type149
theorem i150 : Tryd.prog.info? 150 = some Tryd.t150 := info_of Tryd.type150
theorem i151 : Tryd.prog.info? 151 = some Tryd.t151 := info_of Tryd.type151
theorem i152 : Tryd.prog.info? 152 = some Tryd.t152 := info_of Tryd.type152
theorem i153 : Tryd.prog.info? 153 = some Tryd.t153 := info_of Tryd.type153
theorem i154 : Tryd.prog.info? 154 = some Tryd.t154 := info_of Tryd.type154
theorem i155 : Tryd.prog.info? 155 = some Tryd.t155 := info_of Tryd.type155
theorem i156 : Tryd.prog.info? 156 = some Tryd.t156 := info_of Tryd.type156
theorem i157 : Tryd.prog.info? 157 = some Tryd.t157 := info_of Tryd.type157
theorem i158 : Tryd.prog.info? 158 = some Tryd.t158 := info_of Tryd.type158
theorem i159 : Tryd.prog.info? 159 = some Tryd.t159 := info_of Tryd.type159
theorem i160 : Tryd.prog.info? 160 = some Tryd.t160 := info_of Tryd.type160
theorem i161 : Tryd.prog.info? 161 = some Tryd.t161 := info_of Tryd.type161
theorem i162 : Tryd.prog.info? 162 = some Tryd.t162 := info_of Tryd.type162
theorem i163 : Tryd.prog.info? 163 = some Tryd.t163 := info_of Tryd.type163
theorem i164 : Tryd.prog.info? 164 = some Tryd.t164 := info_of Tryd.type164
theorem i167 : Tryd.prog.info? 167 = some Tryd.t167 := info_of Tryd.type167
theorem i168 : Tryd.prog.info? 168 = some Tryd.t168 := info_of Tryd.type168
theorem i173 : Tryd.prog.info? 173 = some Tryd.t173 := info_of Tryd.type173
theorem i174 : Tryd.prog.info? 174 = some Tryd.t174 := info_of Tryd.type174
theorem i175 : Tryd.prog.info? 175 = some Tryd.t175 := info_of Tryd.type175
theorem i176 : Tryd.prog.info? 176 = some Tryd.t176 := info_of Tryd.type176
theorem i177 : Tryd.prog.info? 177 = some Tryd.t177 := info_of Tryd.type177
theorem i178 : Tryd.prog.info? 178 = some Tryd.t178 := info_of Tryd.type178
theorem i179 : Tryd.prog.info? 179 = some Tryd.t179 := info_of Tryd.type179

def y1 : TyI S := ⟨1, [.nilf], .func⟩
theorem k1 : TyOk Tryd.prog 1 y1 where
  info := ⟨_, _, i1, rfl, rfl, fun _ _ => ⟨.flat rfl (.nil _), .flat rfl (.nil _)⟩⟩
  kind := ⟨_, _, _, Tryd.underlying1⟩
def y2 : TyI S := ⟨1, [.int .i64 0], .int .i64⟩
theorem k2 : TyOk Tryd.prog 2 y2 where
  info := ⟨_, _, i2, rfl, rfl, fun _ _ => ⟨.flat rfl (.nil _), .flat rfl (.nil _)⟩⟩
  kind := Tryd.underlying2
def y3 : TyI S := ⟨1, [.int .i64 0], .int .i64⟩
theorem k3 : TyOk Tryd.prog 3 y3 where
  info := ⟨_, _, i3, rfl, rfl, fun _ _ => ⟨.flat rfl (.nil _), .flat rfl (.nil _)⟩⟩
  kind := Tryd.underlying3
def y4 : TyI S := ⟨1, [.bool false], .bool⟩
theorem k4 : TyOk Tryd.prog 4 y4 where
  info := ⟨_, _, i4, rfl, rfl, fun _ _ => ⟨.flat rfl (.nil _), .flat rfl (.nil _)⟩⟩
  kind := Tryd.underlying4
def y5 : TyI S := ⟨1, [.int .u8 0], .int .u8⟩
theorem k5 : TyOk Tryd.prog 5 y5 where
  info := ⟨_, _, i5, rfl, rfl, fun _ _ => ⟨.flat rfl (.nil _), .flat rfl (.nil _)⟩⟩
  kind := Tryd.underlying5
def y7 : TyI S := ⟨4, [.int .i64 0, .int .i64 0, .bool false, .int .u8 0], .struct [(0, 2, 1), (1, 3, 1), (2, 4, 1), (3, 6, 1)]⟩
theorem k7 : TyOk Tryd.prog 7 y7 where
  info := ⟨_, _, i7, rfl, rfl, fun _ _ => ⟨.flat rfl (.flat rfl (.flat rfl (.flat rfl (.nil _)))), .flat rfl (.flat rfl (.flat rfl (.flat rfl (.nil _))))⟩⟩
  kind := ⟨_, [(0, 1), (1, 1), (2, 1), (3, 1)], Tryd.underlying7, by simp only [List.mapM_cons, List.mapM_nil, i2, i3, i4, i6]; rfl, fun i off ft sz h => match i, h with
    | 0, h => by cases h; exact ⟨rfl, by decide, _, rfl, rfl, rfl, _, i2, rfl⟩
    | 1, h => by cases h; exact ⟨rfl, by decide, _, rfl, rfl, rfl, _, i3, rfl⟩
    | 2, h => by cases h; exact ⟨rfl, by decide, _, rfl, rfl, rfl, _, i4, rfl⟩
    | 3, h => by cases h; exact ⟨rfl, by decide, _, rfl, rfl, rfl, _, i6, rfl⟩
    | n + 4, h => by cases h⟩
def y9 : TyI S := ⟨1, [.str ByteArray.empty], .str⟩
theorem k9 : TyOk Tryd.prog 9 y9 where
  info := ⟨_, _, i9, rfl, rfl, fun _ _ => ⟨.flat rfl (.nil _), .flat rfl (.nil _)⟩⟩
  kind := Tryd.underlying9
def y12 : TyI S := ⟨1, [.int .u64 0], .int .u64⟩
theorem k12 : TyOk Tryd.prog 12 y12 where
  info := ⟨_, _, i12, rfl, rfl, fun _ _ => ⟨.flat rfl (.nil _), .flat rfl (.nil _)⟩⟩
  kind := Tryd.underlying12
def y13 : TyI S := ⟨2, [.str ByteArray.empty, .int .u64 0], .struct [(0, 9, 1), (1, 12, 1)]⟩
theorem k13 : TyOk Tryd.prog 13 y13 where
  info := ⟨_, _, i13, rfl, rfl, fun _ _ => ⟨.flat rfl (.flat rfl (.nil _)), .flat rfl (.flat rfl (.nil _))⟩⟩
  kind := ⟨_, [(0, 1), (1, 1)], Tryd.underlying13, by simp only [List.mapM_cons, List.mapM_nil, i12, i9]; rfl, fun i off ft sz h => match i, h with
    | 0, h => by cases h; exact ⟨rfl, by decide, _, rfl, rfl, rfl, _, i9, rfl⟩
    | 1, h => by cases h; exact ⟨rfl, by decide, _, rfl, rfl, rfl, _, i12, rfl⟩
    | n + 2, h => by cases h⟩
def y18 : TyI S := ⟨1, [.nilp], .struct [(0, 17, 1)]⟩
theorem k18 : TyOk Tryd.prog 18 y18 where
  info := ⟨_, _, i18, rfl, rfl, fun _ _ => ⟨.flat rfl (.nil _), .flat rfl (.nil _)⟩⟩
  kind := ⟨_, [(0, 1)], Tryd.underlying18, by simp only [List.mapM_cons, List.mapM_nil, i17]; rfl, fun i off ft sz h => match i, h with
    | 0, h => by cases h; exact ⟨rfl, by decide, _, rfl, rfl, rfl, _, i17, rfl⟩
    | n + 1, h => by cases h⟩
def y19 : TyI S := ⟨1, [.nilp], .struct [(0, 17, 1)]⟩
theorem k19 : TyOk Tryd.prog 19 y19 where
  info := ⟨_, _, i19, rfl, rfl, fun _ _ => ⟨.flat rfl (.nil _), .flat rfl (.nil _)⟩⟩
  kind := ⟨_, [(0, 1)], Tryd.underlying19, by simp only [List.mapM_cons, List.mapM_nil, i17]; rfl, fun i off ft sz h => match i, h with
    | 0, h => by cases h; exact ⟨rfl, by decide, _, rfl, rfl, rfl, _, i17, rfl⟩
    | n + 1, h => by cases h⟩
def y21 : TyI S := ⟨1, [.int .i32 0], .int .i32⟩
theorem k21 : TyOk Tryd.prog 21 y21 where
  info := ⟨_, _, i21, rfl, rfl, fun _ _ => ⟨.flat rfl (.nil _), .flat rfl (.nil _)⟩⟩
  kind := Tryd.underlying21
def y22 : TyI S := ⟨1, [.sl (S := S) U.locus [] none], .slice U.locus 24 [.str ByteArray.empty, .int .i64 0]⟩
theorem k22 : TyOk Tryd.prog 22 y22 where
  info := ⟨_, _, i22, rfl, rfl, fun _ _ => ⟨.flat ⟨rfl, none, 0, rfl⟩ (.nil _), .flat ⟨none, rfl⟩ (.nil _)⟩⟩
  kind := ⟨_, _, _, Tryd.underlying22, i89, rfl, rfl, by decide, by decide, rfl, fun _ _ => ⟨.flat rfl (.flat rfl (.nil _)), .flat rfl (.flat rfl (.nil _))⟩, rfl⟩
def y23 : TyI S := ⟨1, [.sl (S := S) U.copy [] none], .slice U.copy 40 [.str ByteArray.empty, .sl (S := S) U.int [] none]⟩
theorem k23 : TyOk Tryd.prog 23 y23 where
  info := ⟨_, _, i23, rfl, rfl, fun _ _ => ⟨.flat ⟨rfl, none, 0, rfl⟩ (.nil _), .flat ⟨none, rfl⟩ (.nil _)⟩⟩
  kind := ⟨_, _, _, Tryd.underlying23, i71, rfl, rfl, by decide, by decide, rfl, fun _ _ => ⟨.flat rfl (.flat ⟨rfl, none, 0, rfl⟩ (.nil _)), .flat rfl (.flat ⟨none, rfl⟩ (.nil _))⟩, rfl⟩
def y24 : TyI S := ⟨2, [.sl (S := S) U.locus [] none, .sl (S := S) U.copy [] none], .struct [(0, 22, 1), (1, 23, 1)]⟩
theorem k24 : TyOk Tryd.prog 24 y24 where
  info := ⟨_, _, i24, rfl, rfl, fun _ _ => ⟨.flat ⟨rfl, none, 0, rfl⟩ (.flat ⟨rfl, none, 0, rfl⟩ (.nil _)), .flat ⟨none, rfl⟩ (.flat ⟨none, rfl⟩ (.nil _))⟩⟩
  kind := ⟨_, [(0, 1), (1, 1)], Tryd.underlying24, by simp only [List.mapM_cons, List.mapM_nil, i22, i23]; rfl, fun i off ft sz h => match i, h with
    | 0, h => by cases h; exact ⟨rfl, by decide, _, rfl, rfl, rfl, _, i22, rfl⟩
    | 1, h => by cases h; exact ⟨rfl, by decide, _, rfl, rfl, rfl, _, i23, rfl⟩
    | n + 2, h => by cases h⟩
def y25 : TyI S := ⟨2, [.sl (S := S) U.locus [] none, .sl (S := S) U.copy [] none], .struct [(0, 22, 1), (1, 23, 1)]⟩
theorem k25 : TyOk Tryd.prog 25 y25 where
  info := ⟨_, _, i25, rfl, rfl, fun _ _ => ⟨.flat ⟨rfl, none, 0, rfl⟩ (.flat ⟨rfl, none, 0, rfl⟩ (.nil _)), .flat ⟨none, rfl⟩ (.flat ⟨none, rfl⟩ (.nil _))⟩⟩
  kind := ⟨_, [(0, 1), (1, 1)], Tryd.underlying25, by simp only [List.mapM_cons, List.mapM_nil, i22, i23]; rfl, fun i off ft sz h => match i, h with
    | 0, h => by cases h; exact ⟨rfl, by decide, _, rfl, rfl, rfl, _, i22, rfl⟩
    | 1, h => by cases h; exact ⟨rfl, by decide, _, rfl, rfl, rfl, _, i23, rfl⟩
    | n + 2, h => by cases h⟩
def y26 : TyI S := ⟨1, [.sl (S := S) U.int [] none], .slice U.int 8 [.int .i64 0]⟩
theorem k26 : TyOk Tryd.prog 26 y26 where
  info := ⟨_, _, i26, rfl, rfl, fun _ _ => ⟨.flat ⟨rfl, none, 0, rfl⟩ (.nil _), .flat ⟨none, rfl⟩ (.nil _)⟩⟩
  kind := ⟨_, _, _, Tryd.underlying26, i3, rfl, rfl, by decide, by decide, rfl, fun _ _ => ⟨.flat rfl (.nil _), .flat rfl (.nil _)⟩, rfl⟩
def y27 : TyI S := ⟨2, [.sl (S := S) U.int [] none, .sl (S := S) U.int [] none], .struct [(0, 26, 1), (1, 26, 1)]⟩
theorem k27 : TyOk Tryd.prog 27 y27 where
  info := ⟨_, _, i27, rfl, rfl, fun _ _ => ⟨.flat ⟨rfl, none, 0, rfl⟩ (.flat ⟨rfl, none, 0, rfl⟩ (.nil _)), .flat ⟨none, rfl⟩ (.flat ⟨none, rfl⟩ (.nil _))⟩⟩
  kind := ⟨_, [(0, 1), (1, 1)], Tryd.underlying27, by simp only [List.mapM_cons, List.mapM_nil, i26]; rfl, fun i off ft sz h => match i, h with
    | 0, h => by cases h; exact ⟨rfl, by decide, _, rfl, rfl, rfl, _, i26, rfl⟩
    | 1, h => by cases h; exact ⟨rfl, by decide, _, rfl, rfl, rfl, _, i26, rfl⟩
    | n + 2, h => by cases h⟩
def y28 : TyI S := ⟨2, [.sl (S := S) U.int [] none, .sl (S := S) U.int [] none], .struct [(0, 26, 1), (1, 26, 1)]⟩
theorem k28 : TyOk Tryd.prog 28 y28 where
  info := ⟨_, _, i28, rfl, rfl, fun _ _ => ⟨.flat ⟨rfl, none, 0, rfl⟩ (.flat ⟨rfl, none, 0, rfl⟩ (.nil _)), .flat ⟨none, rfl⟩ (.flat ⟨none, rfl⟩ (.nil _))⟩⟩
  kind := ⟨_, [(0, 1), (1, 1)], Tryd.underlying28, by simp only [List.mapM_cons, List.mapM_nil, i26]; rfl, fun i off ft sz h => match i, h with
    | 0, h => by cases h; exact ⟨rfl, by decide, _, rfl, rfl, rfl, _, i26, rfl⟩
    | 1, h => by cases h; exact ⟨rfl, by decide, _, rfl, rfl, rfl, _, i26, rfl⟩
    | n + 2, h => by cases h⟩
def y29 : TyI S := ⟨1, [.int .i64 0], .int .i64⟩
theorem k29 : TyOk Tryd.prog 29 y29 where
  info := ⟨_, _, i29, rfl, rfl, fun _ _ => ⟨.flat rfl (.nil _), .flat rfl (.nil _)⟩⟩
  kind := Tryd.underlying29
def y31 : TyI S := ⟨1, [.nilf], .func⟩
theorem k31 : TyOk Tryd.prog 31 y31 where
  info := ⟨_, _, i31, rfl, rfl, fun _ _ => ⟨.flat rfl (.nil _), .flat rfl (.nil _)⟩⟩
  kind := ⟨_, _, _, Tryd.underlying31⟩
def y33 : TyI S := ⟨1, [.nilf], .func⟩
theorem k33 : TyOk Tryd.prog 33 y33 where
  info := ⟨_, _, i33, rfl, rfl, fun _ _ => ⟨.flat rfl (.nil _), .flat rfl (.nil _)⟩⟩
  kind := ⟨_, _, _, Tryd.underlying33⟩
def y34 : TyI S := ⟨1, [.nilf], .func⟩
theorem k34 : TyOk Tryd.prog 34 y34 where
  info := ⟨_, _, i34, rfl, rfl, fun _ _ => ⟨.flat rfl (.nil _), .flat rfl (.nil _)⟩⟩
  kind := ⟨_, _, _, Tryd.underlying34⟩
def y36 : TyI S := ⟨1, [.nilf], .func⟩
theorem k36 : TyOk Tryd.prog 36 y36 where
  info := ⟨_, _, i36, rfl, rfl, fun _ _ => ⟨.flat rfl (.nil _), .flat rfl (.nil _)⟩⟩
  kind := ⟨_, _, _, Tryd.underlying36⟩
def y37 : TyI S := ⟨1, [.nilf], .func⟩
theorem k37 : TyOk Tryd.prog 37 y37 where
  info := ⟨_, _, i37, rfl, rfl, fun _ _ => ⟨.flat rfl (.nil _), .flat rfl (.nil _)⟩⟩
  kind := ⟨_, _, _, Tryd.underlying37⟩
def y38 : TyI S := ⟨1, [.nilf], .func⟩
theorem k38 : TyOk Tryd.prog 38 y38 where
  info := ⟨_, _, i38, rfl, rfl, fun _ _ => ⟨.flat rfl (.nil _), .flat rfl (.nil _)⟩⟩
  kind := ⟨_, _, _, Tryd.underlying38⟩
def y39 : TyI S := ⟨1, [.nilf], .func⟩
theorem k39 : TyOk Tryd.prog 39 y39 where
  info := ⟨_, _, i39, rfl, rfl, fun _ _ => ⟨.flat rfl (.nil _), .flat rfl (.nil _)⟩⟩
  kind := ⟨_, _, _, Tryd.underlying39⟩
def y40 : TyI S := ⟨1, [.nilf], .func⟩
theorem k40 : TyOk Tryd.prog 40 y40 where
  info := ⟨_, _, i40, rfl, rfl, fun _ _ => ⟨.flat rfl (.nil _), .flat rfl (.nil _)⟩⟩
  kind := ⟨_, _, _, Tryd.underlying40⟩
def y41 : TyI S := ⟨2, [.arr (S := S) U.int 2 [0, 0]], .array U.int 2⟩
theorem k41 : TyOk Tryd.prog 41 y41 where
  info := ⟨_, _, i41, rfl, rfl, fun _ _ => ⟨Reps.arr (ws := [.int .i64 0, .int .i64 0]) rfl (.flat rfl (.flat rfl (.nil _))) (.nil _), Reps.arr (ws := [.int .i64 0, .int .i64 0]) rfl (.flat rfl (.flat rfl (.nil _))) (.nil _)⟩⟩
  kind := ⟨_, _, Tryd.underlying41, i3, rfl, by decide⟩
def y43 : TyI S := ⟨1, [.nilf], .func⟩
theorem k43 : TyOk Tryd.prog 43 y43 where
  info := ⟨_, _, i43, rfl, rfl, fun _ _ => ⟨.flat rfl (.nil _), .flat rfl (.nil _)⟩⟩
  kind := ⟨_, _, _, Tryd.underlying43⟩
def y44 : TyI S := ⟨1, [.nilf], .func⟩
theorem k44 : TyOk Tryd.prog 44 y44 where
  info := ⟨_, _, i44, rfl, rfl, fun _ _ => ⟨.flat rfl (.nil _), .flat rfl (.nil _)⟩⟩
  kind := ⟨_, _, _, Tryd.underlying44⟩
def y45 : TyI S := ⟨1, [.nilf], .func⟩
theorem k45 : TyOk Tryd.prog 45 y45 where
  info := ⟨_, _, i45, rfl, rfl, fun _ _ => ⟨.flat rfl (.nil _), .flat rfl (.nil _)⟩⟩
  kind := ⟨_, _, _, Tryd.underlying45⟩
def y46 : TyI S := ⟨2, [.int .i64 0, .int .i64 0], .struct [(0, 3, 1), (1, 3, 1)]⟩
theorem k46 : TyOk Tryd.prog 46 y46 where
  info := ⟨_, _, i46, rfl, rfl, fun _ _ => ⟨.flat rfl (.flat rfl (.nil _)), .flat rfl (.flat rfl (.nil _))⟩⟩
  kind := ⟨_, [(0, 1), (1, 1)], Tryd.underlying46, by simp only [List.mapM_cons, List.mapM_nil, i3]; rfl, fun i off ft sz h => match i, h with
    | 0, h => by cases h; exact ⟨rfl, by decide, _, rfl, rfl, rfl, _, i3, rfl⟩
    | 1, h => by cases h; exact ⟨rfl, by decide, _, rfl, rfl, rfl, _, i3, rfl⟩
    | n + 2, h => by cases h⟩
def y47 : TyI S := ⟨2, [.int .i64 0, .int .i64 0], .struct [(0, 3, 1), (1, 3, 1)]⟩
theorem k47 : TyOk Tryd.prog 47 y47 where
  info := ⟨_, _, i47, rfl, rfl, fun _ _ => ⟨.flat rfl (.flat rfl (.nil _)), .flat rfl (.flat rfl (.nil _))⟩⟩
  kind := ⟨_, [(0, 1), (1, 1)], Tryd.underlying47, by simp only [List.mapM_cons, List.mapM_nil, i3]; rfl, fun i off ft sz h => match i, h with
    | 0, h => by cases h; exact ⟨rfl, by decide, _, rfl, rfl, rfl, _, i3, rfl⟩
    | 1, h => by cases h; exact ⟨rfl, by decide, _, rfl, rfl, rfl, _, i3, rfl⟩
    | n + 2, h => by cases h⟩
def y49 : TyI S := ⟨1, [.nilf], .func⟩
theorem k49 : TyOk Tryd.prog 49 y49 where
  info := ⟨_, _, i49, rfl, rfl, fun _ _ => ⟨.flat rfl (.nil _), .flat rfl (.nil _)⟩⟩
  kind := ⟨_, _, _, Tryd.underlying49⟩
def y50 : TyI S := ⟨1, [.sl (S := S) U.reading [] none], .slice U.reading 16 [.int .i64 0, .int .i64 0]⟩
theorem k50 : TyOk Tryd.prog 50 y50 where
  info := ⟨_, _, i50, rfl, rfl, fun _ _ => ⟨.flat ⟨rfl, none, 0, rfl⟩ (.nil _), .flat ⟨none, rfl⟩ (.nil _)⟩⟩
  kind := ⟨_, _, _, Tryd.underlying50, i80, rfl, rfl, by decide, by decide, rfl, fun _ _ => ⟨.flat rfl (.flat rfl (.nil _)), .flat rfl (.flat rfl (.nil _))⟩, rfl⟩
def y52 : TyI S := ⟨1, [.nilf], .func⟩
theorem k52 : TyOk Tryd.prog 52 y52 where
  info := ⟨_, _, i52, rfl, rfl, fun _ _ => ⟨.flat rfl (.nil _), .flat rfl (.nil _)⟩⟩
  kind := ⟨_, _, _, Tryd.underlying52⟩
def y53 : TyI S := ⟨1, [.nilf], .func⟩
theorem k53 : TyOk Tryd.prog 53 y53 where
  info := ⟨_, _, i53, rfl, rfl, fun _ _ => ⟨.flat rfl (.nil _), .flat rfl (.nil _)⟩⟩
  kind := ⟨_, _, _, Tryd.underlying53⟩
def y54 : TyI S := ⟨1, [.nilf], .func⟩
theorem k54 : TyOk Tryd.prog 54 y54 where
  info := ⟨_, _, i54, rfl, rfl, fun _ _ => ⟨.flat rfl (.nil _), .flat rfl (.nil _)⟩⟩
  kind := ⟨_, _, _, Tryd.underlying54⟩
def y55 : TyI S := ⟨1, [.nilf], .func⟩
theorem k55 : TyOk Tryd.prog 55 y55 where
  info := ⟨_, _, i55, rfl, rfl, fun _ _ => ⟨.flat rfl (.nil _), .flat rfl (.nil _)⟩⟩
  kind := ⟨_, _, _, Tryd.underlying55⟩
def y56 : TyI S := ⟨1, [.sl (S := S) U.order [] none], .slice U.order 48 [.sl (S := S) U.int [] none, .sl (S := S) U.int [] none]⟩
theorem k56 : TyOk Tryd.prog 56 y56 where
  info := ⟨_, _, i56, rfl, rfl, fun _ _ => ⟨.flat ⟨rfl, none, 0, rfl⟩ (.nil _), .flat ⟨none, rfl⟩ (.nil _)⟩⟩
  kind := ⟨_, _, _, Tryd.underlying56, i28, rfl, rfl, by decide, by decide, rfl, fun _ _ => ⟨.flat ⟨rfl, none, 0, rfl⟩ (.flat ⟨rfl, none, 0, rfl⟩ (.nil _)), .flat ⟨none, rfl⟩ (.flat ⟨none, rfl⟩ (.nil _))⟩, rfl⟩
def y57 : TyI S := ⟨1, [.nilf], .func⟩
theorem k57 : TyOk Tryd.prog 57 y57 where
  info := ⟨_, _, i57, rfl, rfl, fun _ _ => ⟨.flat rfl (.nil _), .flat rfl (.nil _)⟩⟩
  kind := ⟨_, _, _, Tryd.underlying57⟩
def y58 : TyI S := ⟨1, [.sl (S := S) U.u8 [] none], .slice U.u8 1 [.int .u8 0]⟩
theorem k58 : TyOk Tryd.prog 58 y58 where
  info := ⟨_, _, i58, rfl, rfl, fun _ _ => ⟨.flat ⟨rfl, none, 0, rfl⟩ (.nil _), .flat ⟨none, rfl⟩ (.nil _)⟩⟩
  kind := ⟨_, _, _, Tryd.underlying58, i5, rfl, rfl, by decide, by decide, rfl, fun _ _ => ⟨.flat rfl (.nil _), .flat rfl (.nil _)⟩, rfl⟩
def y59 : TyI S := ⟨3, [.sl (S := S) U.u8 [] none, .sl (S := S) U.u8 [] none, .sl (S := S) U.u8 [] none], .struct [(0, 58, 1), (1, 58, 1), (2, 58, 1)]⟩
theorem k59 : TyOk Tryd.prog 59 y59 where
  info := ⟨_, _, i59, rfl, rfl, fun _ _ => ⟨.flat ⟨rfl, none, 0, rfl⟩ (.flat ⟨rfl, none, 0, rfl⟩ (.flat ⟨rfl, none, 0, rfl⟩ (.nil _))), .flat ⟨none, rfl⟩ (.flat ⟨none, rfl⟩ (.flat ⟨none, rfl⟩ (.nil _)))⟩⟩
  kind := ⟨_, [(0, 1), (1, 1), (2, 1)], Tryd.underlying59, by simp only [List.mapM_cons, List.mapM_nil, i58]; rfl, fun i off ft sz h => match i, h with
    | 0, h => by cases h; exact ⟨rfl, by decide, _, rfl, rfl, rfl, _, i58, rfl⟩
    | 1, h => by cases h; exact ⟨rfl, by decide, _, rfl, rfl, rfl, _, i58, rfl⟩
    | 2, h => by cases h; exact ⟨rfl, by decide, _, rfl, rfl, rfl, _, i58, rfl⟩
    | n + 3, h => by cases h⟩
def y60 : TyI S := ⟨3, [.sl (S := S) U.u8 [] none, .sl (S := S) U.u8 [] none, .sl (S := S) U.u8 [] none], .struct [(0, 58, 1), (1, 58, 1), (2, 58, 1)]⟩
theorem k60 : TyOk Tryd.prog 60 y60 where
  info := ⟨_, _, i60, rfl, rfl, fun _ _ => ⟨.flat ⟨rfl, none, 0, rfl⟩ (.flat ⟨rfl, none, 0, rfl⟩ (.flat ⟨rfl, none, 0, rfl⟩ (.nil _))), .flat ⟨none, rfl⟩ (.flat ⟨none, rfl⟩ (.flat ⟨none, rfl⟩ (.nil _)))⟩⟩
  kind := ⟨_, [(0, 1), (1, 1), (2, 1)], Tryd.underlying60, by simp only [List.mapM_cons, List.mapM_nil, i58]; rfl, fun i off ft sz h => match i, h with
    | 0, h => by cases h; exact ⟨rfl, by decide, _, rfl, rfl, rfl, _, i58, rfl⟩
    | 1, h => by cases h; exact ⟨rfl, by decide, _, rfl, rfl, rfl, _, i58, rfl⟩
    | 2, h => by cases h; exact ⟨rfl, by decide, _, rfl, rfl, rfl, _, i58, rfl⟩
    | n + 3, h => by cases h⟩
def y61 : TyI S := ⟨4, [.arr (S := S) U.u8 4 [0, 0, 0, 0]], .array U.u8 4⟩
theorem k61 : TyOk Tryd.prog 61 y61 where
  info := ⟨_, _, i61, rfl, rfl, fun _ _ => ⟨Reps.arr (ws := [.int .u8 0, .int .u8 0, .int .u8 0, .int .u8 0]) rfl (.flat rfl (.flat rfl (.flat rfl (.flat rfl (.nil _))))) (.nil _), Reps.arr (ws := [.int .u8 0, .int .u8 0, .int .u8 0, .int .u8 0]) rfl (.flat rfl (.flat rfl (.flat rfl (.flat rfl (.nil _))))) (.nil _)⟩⟩
  kind := ⟨_, _, Tryd.underlying61, i5, rfl, by decide⟩
def y62 : TyI S := ⟨1, [.nilf], .func⟩
theorem k62 : TyOk Tryd.prog 62 y62 where
  info := ⟨_, _, i62, rfl, rfl, fun _ _ => ⟨.flat rfl (.nil _), .flat rfl (.nil _)⟩⟩
  kind := ⟨_, _, _, Tryd.underlying62⟩
def y64 : TyI S := ⟨1, [.nilf], .func⟩
theorem k64 : TyOk Tryd.prog 64 y64 where
  info := ⟨_, _, i64, rfl, rfl, fun _ _ => ⟨.flat rfl (.nil _), .flat rfl (.nil _)⟩⟩
  kind := ⟨_, _, _, Tryd.underlying64⟩
def y65 : TyI S := ⟨1, [.nilf], .func⟩
theorem k65 : TyOk Tryd.prog 65 y65 where
  info := ⟨_, _, i65, rfl, rfl, fun _ _ => ⟨.flat rfl (.nil _), .flat rfl (.nil _)⟩⟩
  kind := ⟨_, _, _, Tryd.underlying65⟩
def y66 : TyI S := ⟨1, [.nilf], .func⟩
theorem k66 : TyOk Tryd.prog 66 y66 where
  info := ⟨_, _, i66, rfl, rfl, fun _ _ => ⟨.flat rfl (.nil _), .flat rfl (.nil _)⟩⟩
  kind := ⟨_, _, _, Tryd.underlying66⟩
def y67 : TyI S := ⟨1, [.nilf], .func⟩
theorem k67 : TyOk Tryd.prog 67 y67 where
  info := ⟨_, _, i67, rfl, rfl, fun _ _ => ⟨.flat rfl (.nil _), .flat rfl (.nil _)⟩⟩
  kind := ⟨_, _, _, Tryd.underlying67⟩
def y68 : TyI S := ⟨1, [.nilf], .func⟩
theorem k68 : TyOk Tryd.prog 68 y68 where
  info := ⟨_, _, i68, rfl, rfl, fun _ _ => ⟨.flat rfl (.nil _), .flat rfl (.nil _)⟩⟩
  kind := ⟨_, _, _, Tryd.underlying68⟩
def y69 : TyI S := ⟨1, [.nilf], .func⟩
theorem k69 : TyOk Tryd.prog 69 y69 where
  info := ⟨_, _, i69, rfl, rfl, fun _ _ => ⟨.flat rfl (.nil _), .flat rfl (.nil _)⟩⟩
  kind := ⟨_, _, _, Tryd.underlying69⟩
def y70 : TyI S := ⟨2, [.str ByteArray.empty, .sl (S := S) U.int [] none], .struct [(0, 9, 1), (1, 26, 1)]⟩
theorem k70 : TyOk Tryd.prog 70 y70 where
  info := ⟨_, _, i70, rfl, rfl, fun _ _ => ⟨.flat rfl (.flat ⟨rfl, none, 0, rfl⟩ (.nil _)), .flat rfl (.flat ⟨none, rfl⟩ (.nil _))⟩⟩
  kind := ⟨_, [(0, 1), (1, 1)], Tryd.underlying70, by simp only [List.mapM_cons, List.mapM_nil, i26, i9]; rfl, fun i off ft sz h => match i, h with
    | 0, h => by cases h; exact ⟨rfl, by decide, _, rfl, rfl, rfl, _, i9, rfl⟩
    | 1, h => by cases h; exact ⟨rfl, by decide, _, rfl, rfl, rfl, _, i26, rfl⟩
    | n + 2, h => by cases h⟩
def y71 : TyI S := ⟨2, [.str ByteArray.empty, .sl (S := S) U.int [] none], .struct [(0, 9, 1), (1, 26, 1)]⟩
theorem k71 : TyOk Tryd.prog 71 y71 where
  info := ⟨_, _, i71, rfl, rfl, fun _ _ => ⟨.flat rfl (.flat ⟨rfl, none, 0, rfl⟩ (.nil _)), .flat rfl (.flat ⟨none, rfl⟩ (.nil _))⟩⟩
  kind := ⟨_, [(0, 1), (1, 1)], Tryd.underlying71, by simp only [List.mapM_cons, List.mapM_nil, i26, i9]; rfl, fun i off ft sz h => match i, h with
    | 0, h => by cases h; exact ⟨rfl, by decide, _, rfl, rfl, rfl, _, i9, rfl⟩
    | 1, h => by cases h; exact ⟨rfl, by decide, _, rfl, rfl, rfl, _, i26, rfl⟩
    | n + 2, h => by cases h⟩
def y72 : TyI S := ⟨1, [.nilf], .func⟩
theorem k72 : TyOk Tryd.prog 72 y72 where
  info := ⟨_, _, i72, rfl, rfl, fun _ _ => ⟨.flat rfl (.nil _), .flat rfl (.nil _)⟩⟩
  kind := ⟨_, _, _, Tryd.underlying72⟩
def y73 : TyI S := ⟨1, [.nilf], .func⟩
theorem k73 : TyOk Tryd.prog 73 y73 where
  info := ⟨_, _, i73, rfl, rfl, fun _ _ => ⟨.flat rfl (.nil _), .flat rfl (.nil _)⟩⟩
  kind := ⟨_, _, _, Tryd.underlying73⟩
def y74 : TyI S := ⟨1, [.nilf], .func⟩
theorem k74 : TyOk Tryd.prog 74 y74 where
  info := ⟨_, _, i74, rfl, rfl, fun _ _ => ⟨.flat rfl (.nil _), .flat rfl (.nil _)⟩⟩
  kind := ⟨_, _, _, Tryd.underlying74⟩
def y75 : TyI S := ⟨1, [.nilf], .func⟩
theorem k75 : TyOk Tryd.prog 75 y75 where
  info := ⟨_, _, i75, rfl, rfl, fun _ _ => ⟨.flat rfl (.nil _), .flat rfl (.nil _)⟩⟩
  kind := ⟨_, _, _, Tryd.underlying75⟩
def y76 : TyI S := ⟨1, [.nilf], .func⟩
theorem k76 : TyOk Tryd.prog 76 y76 where
  info := ⟨_, _, i76, rfl, rfl, fun _ _ => ⟨.flat rfl (.nil _), .flat rfl (.nil _)⟩⟩
  kind := ⟨_, _, _, Tryd.underlying76⟩
def y77 : TyI S := ⟨1, [.nilf], .func⟩
theorem k77 : TyOk Tryd.prog 77 y77 where
  info := ⟨_, _, i77, rfl, rfl, fun _ _ => ⟨.flat rfl (.nil _), .flat rfl (.nil _)⟩⟩
  kind := ⟨_, _, _, Tryd.underlying77⟩
def y78 : TyI S := ⟨1, [.nilf], .func⟩
theorem k78 : TyOk Tryd.prog 78 y78 where
  info := ⟨_, _, i78, rfl, rfl, fun _ _ => ⟨.flat rfl (.nil _), .flat rfl (.nil _)⟩⟩
  kind := ⟨_, _, _, Tryd.underlying78⟩
def y79 : TyI S := ⟨2, [.int .i64 0, .int .i64 0], .struct [(0, 3, 1), (1, 3, 1)]⟩
theorem k79 : TyOk Tryd.prog 79 y79 where
  info := ⟨_, _, i79, rfl, rfl, fun _ _ => ⟨.flat rfl (.flat rfl (.nil _)), .flat rfl (.flat rfl (.nil _))⟩⟩
  kind := ⟨_, [(0, 1), (1, 1)], Tryd.underlying79, by simp only [List.mapM_cons, List.mapM_nil, i3]; rfl, fun i off ft sz h => match i, h with
    | 0, h => by cases h; exact ⟨rfl, by decide, _, rfl, rfl, rfl, _, i3, rfl⟩
    | 1, h => by cases h; exact ⟨rfl, by decide, _, rfl, rfl, rfl, _, i3, rfl⟩
    | n + 2, h => by cases h⟩
def y80 : TyI S := ⟨2, [.int .i64 0, .int .i64 0], .struct [(0, 3, 1), (1, 3, 1)]⟩
theorem k80 : TyOk Tryd.prog 80 y80 where
  info := ⟨_, _, i80, rfl, rfl, fun _ _ => ⟨.flat rfl (.flat rfl (.nil _)), .flat rfl (.flat rfl (.nil _))⟩⟩
  kind := ⟨_, [(0, 1), (1, 1)], Tryd.underlying80, by simp only [List.mapM_cons, List.mapM_nil, i3]; rfl, fun i off ft sz h => match i, h with
    | 0, h => by cases h; exact ⟨rfl, by decide, _, rfl, rfl, rfl, _, i3, rfl⟩
    | 1, h => by cases h; exact ⟨rfl, by decide, _, rfl, rfl, rfl, _, i3, rfl⟩
    | n + 2, h => by cases h⟩
def y81 : TyI S := ⟨1, [.nilf], .func⟩
theorem k81 : TyOk Tryd.prog 81 y81 where
  info := ⟨_, _, i81, rfl, rfl, fun _ _ => ⟨.flat rfl (.nil _), .flat rfl (.nil _)⟩⟩
  kind := ⟨_, _, _, Tryd.underlying81⟩
def y82 : TyI S := ⟨1, [.nilf], .func⟩
theorem k82 : TyOk Tryd.prog 82 y82 where
  info := ⟨_, _, i82, rfl, rfl, fun _ _ => ⟨.flat rfl (.nil _), .flat rfl (.nil _)⟩⟩
  kind := ⟨_, _, _, Tryd.underlying82⟩
def y83 : TyI S := ⟨1, [.nilf], .func⟩
theorem k83 : TyOk Tryd.prog 83 y83 where
  info := ⟨_, _, i83, rfl, rfl, fun _ _ => ⟨.flat rfl (.nil _), .flat rfl (.nil _)⟩⟩
  kind := ⟨_, _, _, Tryd.underlying83⟩
def y84 : TyI S := ⟨1, [.nilf], .func⟩
theorem k84 : TyOk Tryd.prog 84 y84 where
  info := ⟨_, _, i84, rfl, rfl, fun _ _ => ⟨.flat rfl (.nil _), .flat rfl (.nil _)⟩⟩
  kind := ⟨_, _, _, Tryd.underlying84⟩
def y85 : TyI S := ⟨3, [.arr (S := S) U.u8 3 [0, 0, 0]], .array U.u8 3⟩
theorem k85 : TyOk Tryd.prog 85 y85 where
  info := ⟨_, _, i85, rfl, rfl, fun _ _ => ⟨Reps.arr (ws := [.int .u8 0, .int .u8 0, .int .u8 0]) rfl (.flat rfl (.flat rfl (.flat rfl (.nil _)))) (.nil _), Reps.arr (ws := [.int .u8 0, .int .u8 0, .int .u8 0]) rfl (.flat rfl (.flat rfl (.flat rfl (.nil _)))) (.nil _)⟩⟩
  kind := ⟨_, _, Tryd.underlying85, i5, rfl, by decide⟩
def y86 : TyI S := ⟨1, [.nilf], .func⟩
theorem k86 : TyOk Tryd.prog 86 y86 where
  info := ⟨_, _, i86, rfl, rfl, fun _ _ => ⟨.flat rfl (.nil _), .flat rfl (.nil _)⟩⟩
  kind := ⟨_, _, _, Tryd.underlying86⟩
def y87 : TyI S := ⟨1, [.nilf], .func⟩
theorem k87 : TyOk Tryd.prog 87 y87 where
  info := ⟨_, _, i87, rfl, rfl, fun _ _ => ⟨.flat rfl (.nil _), .flat rfl (.nil _)⟩⟩
  kind := ⟨_, _, _, Tryd.underlying87⟩
def y88 : TyI S := ⟨2, [.str ByteArray.empty, .int .i64 0], .struct [(0, 9, 1), (1, 3, 1)]⟩
theorem k88 : TyOk Tryd.prog 88 y88 where
  info := ⟨_, _, i88, rfl, rfl, fun _ _ => ⟨.flat rfl (.flat rfl (.nil _)), .flat rfl (.flat rfl (.nil _))⟩⟩
  kind := ⟨_, [(0, 1), (1, 1)], Tryd.underlying88, by simp only [List.mapM_cons, List.mapM_nil, i3, i9]; rfl, fun i off ft sz h => match i, h with
    | 0, h => by cases h; exact ⟨rfl, by decide, _, rfl, rfl, rfl, _, i9, rfl⟩
    | 1, h => by cases h; exact ⟨rfl, by decide, _, rfl, rfl, rfl, _, i3, rfl⟩
    | n + 2, h => by cases h⟩
def y89 : TyI S := ⟨2, [.str ByteArray.empty, .int .i64 0], .struct [(0, 9, 1), (1, 3, 1)]⟩
theorem k89 : TyOk Tryd.prog 89 y89 where
  info := ⟨_, _, i89, rfl, rfl, fun _ _ => ⟨.flat rfl (.flat rfl (.nil _)), .flat rfl (.flat rfl (.nil _))⟩⟩
  kind := ⟨_, [(0, 1), (1, 1)], Tryd.underlying89, by simp only [List.mapM_cons, List.mapM_nil, i3, i9]; rfl, fun i off ft sz h => match i, h with
    | 0, h => by cases h; exact ⟨rfl, by decide, _, rfl, rfl, rfl, _, i9, rfl⟩
    | 1, h => by cases h; exact ⟨rfl, by decide, _, rfl, rfl, rfl, _, i3, rfl⟩
    | n + 2, h => by cases h⟩
def y90 : TyI S := ⟨1, [.nilf], .func⟩
theorem k90 : TyOk Tryd.prog 90 y90 where
  info := ⟨_, _, i90, rfl, rfl, fun _ _ => ⟨.flat rfl (.nil _), .flat rfl (.nil _)⟩⟩
  kind := ⟨_, _, _, Tryd.underlying90⟩
def y91 : TyI S := ⟨1, [.nilf], .func⟩
theorem k91 : TyOk Tryd.prog 91 y91 where
  info := ⟨_, _, i91, rfl, rfl, fun _ _ => ⟨.flat rfl (.nil _), .flat rfl (.nil _)⟩⟩
  kind := ⟨_, _, _, Tryd.underlying91⟩
def y92 : TyI S := ⟨1, [.nilf], .func⟩
theorem k92 : TyOk Tryd.prog 92 y92 where
  info := ⟨_, _, i92, rfl, rfl, fun _ _ => ⟨.flat rfl (.nil _), .flat rfl (.nil _)⟩⟩
  kind := ⟨_, _, _, Tryd.underlying92⟩
def y93 : TyI S := ⟨1, [.nilf], .func⟩
theorem k93 : TyOk Tryd.prog 93 y93 where
  info := ⟨_, _, i93, rfl, rfl, fun _ _ => ⟨.flat rfl (.nil _), .flat rfl (.nil _)⟩⟩
  kind := ⟨_, _, _, Tryd.underlying93⟩
def y94 : TyI S := ⟨1, [.nilf], .func⟩
theorem k94 : TyOk Tryd.prog 94 y94 where
  info := ⟨_, _, i94, rfl, rfl, fun _ _ => ⟨.flat rfl (.nil _), .flat rfl (.nil _)⟩⟩
  kind := ⟨_, _, _, Tryd.underlying94⟩
def y95 : TyI S := ⟨1, [.nilf], .func⟩
theorem k95 : TyOk Tryd.prog 95 y95 where
  info := ⟨_, _, i95, rfl, rfl, fun _ _ => ⟨.flat rfl (.nil _), .flat rfl (.nil _)⟩⟩
  kind := ⟨_, _, _, Tryd.underlying95⟩
def y96 : TyI S := ⟨1, [.nilf], .func⟩
theorem k96 : TyOk Tryd.prog 96 y96 where
  info := ⟨_, _, i96, rfl, rfl, fun _ _ => ⟨.flat rfl (.nil _), .flat rfl (.nil _)⟩⟩
  kind := ⟨_, _, _, Tryd.underlying96⟩
def y97 : TyI S := ⟨1, [.nilf], .func⟩
theorem k97 : TyOk Tryd.prog 97 y97 where
  info := ⟨_, _, i97, rfl, rfl, fun _ _ => ⟨.flat rfl (.nil _), .flat rfl (.nil _)⟩⟩
  kind := ⟨_, _, _, Tryd.underlying97⟩
def y98 : TyI S := ⟨1, [.nilf], .func⟩
theorem k98 : TyOk Tryd.prog 98 y98 where
  info := ⟨_, _, i98, rfl, rfl, fun _ _ => ⟨.flat rfl (.nil _), .flat rfl (.nil _)⟩⟩
  kind := ⟨_, _, _, Tryd.underlying98⟩
def y99 : TyI S := ⟨1, [.sl (S := S) U.str [] none], .slice U.str 16 [.str ByteArray.empty]⟩
theorem k99 : TyOk Tryd.prog 99 y99 where
  info := ⟨_, _, i99, rfl, rfl, fun _ _ => ⟨.flat ⟨rfl, none, 0, rfl⟩ (.nil _), .flat ⟨none, rfl⟩ (.nil _)⟩⟩
  kind := ⟨_, _, _, Tryd.underlying99, i9, rfl, rfl, by decide, by decide, rfl, fun _ _ => ⟨.flat rfl (.nil _), .flat rfl (.nil _)⟩, rfl⟩
def y100 : TyI S := ⟨1, [.nilf], .func⟩
theorem k100 : TyOk Tryd.prog 100 y100 where
  info := ⟨_, _, i100, rfl, rfl, fun _ _ => ⟨.flat rfl (.nil _), .flat rfl (.nil _)⟩⟩
  kind := ⟨_, _, _, Tryd.underlying100⟩
def y101 : TyI S := ⟨1, [.nilp], .ptr⟩
theorem k101 : TyOk Tryd.prog 101 y101 where
  info := ⟨_, _, i101, rfl, rfl, fun _ _ => ⟨.flat rfl (.nil _), .flat rfl (.nil _)⟩⟩
  kind := ⟨_, Tryd.underlying101⟩
def y103 : TyI S := ⟨1, [.nilf], .func⟩
theorem k103 : TyOk Tryd.prog 103 y103 where
  info := ⟨_, _, i103, rfl, rfl, fun _ _ => ⟨.flat rfl (.nil _), .flat rfl (.nil _)⟩⟩
  kind := ⟨_, _, _, Tryd.underlying103⟩
def y104 : TyI S := ⟨5, [.arr (S := S) U.int 5 [0, 0, 0, 0, 0]], .array U.int 5⟩
theorem k104 : TyOk Tryd.prog 104 y104 where
  info := ⟨_, _, i104, rfl, rfl, fun _ _ => ⟨Reps.arr (ws := [.int .i64 0, .int .i64 0, .int .i64 0, .int .i64 0, .int .i64 0]) rfl (.flat rfl (.flat rfl (.flat rfl (.flat rfl (.flat rfl (.nil _)))))) (.nil _), Reps.arr (ws := [.int .i64 0, .int .i64 0, .int .i64 0, .int .i64 0, .int .i64 0]) rfl (.flat rfl (.flat rfl (.flat rfl (.flat rfl (.flat rfl (.nil _)))))) (.nil _)⟩⟩
  kind := ⟨_, _, Tryd.underlying104, i3, rfl, by decide⟩
def y105 : TyI S := ⟨6, [.int .i64 0, .arr (S := S) U.int 5 [0, 0, 0, 0, 0]], .struct [(0, 3, 1), (1, 104, 5)]⟩
theorem k105 : TyOk Tryd.prog 105 y105 where
  info := ⟨_, _, i105, rfl, rfl, fun _ _ => ⟨.flat rfl (Reps.arr (ws := [.int .i64 0, .int .i64 0, .int .i64 0, .int .i64 0, .int .i64 0]) rfl (.flat rfl (.flat rfl (.flat rfl (.flat rfl (.flat rfl (.nil _)))))) (.nil _)), .flat rfl (Reps.arr (ws := [.int .i64 0, .int .i64 0, .int .i64 0, .int .i64 0, .int .i64 0]) rfl (.flat rfl (.flat rfl (.flat rfl (.flat rfl (.flat rfl (.nil _)))))) (.nil _))⟩⟩
  kind := ⟨_, [(0, 1), (1, 5)], Tryd.underlying105, by simp only [List.mapM_cons, List.mapM_nil, i104, i3]; rfl, fun i off ft sz h => match i, h with
    | 0, h => by cases h; exact ⟨rfl, by decide, _, rfl, rfl, rfl, _, i3, rfl⟩
    | 1, h => by cases h; exact ⟨rfl, by decide, _, rfl, rfl, rfl, _, i104, rfl⟩
    | n + 2, h => by cases h⟩
def y106 : TyI S := ⟨6, [.int .i64 0, .arr (S := S) U.int 5 [0, 0, 0, 0, 0]], .struct [(0, 3, 1), (1, 104, 5)]⟩
theorem k106 : TyOk Tryd.prog 106 y106 where
  info := ⟨_, _, i106, rfl, rfl, fun _ _ => ⟨.flat rfl (Reps.arr (ws := [.int .i64 0, .int .i64 0, .int .i64 0, .int .i64 0, .int .i64 0]) rfl (.flat rfl (.flat rfl (.flat rfl (.flat rfl (.flat rfl (.nil _)))))) (.nil _)), .flat rfl (Reps.arr (ws := [.int .i64 0, .int .i64 0, .int .i64 0, .int .i64 0, .int .i64 0]) rfl (.flat rfl (.flat rfl (.flat rfl (.flat rfl (.flat rfl (.nil _)))))) (.nil _))⟩⟩
  kind := ⟨_, [(0, 1), (1, 5)], Tryd.underlying106, by simp only [List.mapM_cons, List.mapM_nil, i104, i3]; rfl, fun i off ft sz h => match i, h with
    | 0, h => by cases h; exact ⟨rfl, by decide, _, rfl, rfl, rfl, _, i3, rfl⟩
    | 1, h => by cases h; exact ⟨rfl, by decide, _, rfl, rfl, rfl, _, i104, rfl⟩
    | n + 2, h => by cases h⟩
def y108 : TyI S := ⟨1, [.nilf], .func⟩
theorem k108 : TyOk Tryd.prog 108 y108 where
  info := ⟨_, _, i108, rfl, rfl, fun _ _ => ⟨.flat rfl (.nil _), .flat rfl (.nil _)⟩⟩
  kind := ⟨_, _, _, Tryd.underlying108⟩
def y109 : TyI S := ⟨1, [.nilf], .func⟩
theorem k109 : TyOk Tryd.prog 109 y109 where
  info := ⟨_, _, i109, rfl, rfl, fun _ _ => ⟨.flat rfl (.nil _), .flat rfl (.nil _)⟩⟩
  kind := ⟨_, _, _, Tryd.underlying109⟩
def y110 : TyI S := ⟨1, [.nilf], .func⟩
theorem k110 : TyOk Tryd.prog 110 y110 where
  info := ⟨_, _, i110, rfl, rfl, fun _ _ => ⟨.flat rfl (.nil _), .flat rfl (.nil _)⟩⟩
  kind := ⟨_, _, _, Tryd.underlying110⟩
def y111 : TyI S := ⟨1, [.nilf], .func⟩
theorem k111 : TyOk Tryd.prog 111 y111 where
  info := ⟨_, _, i111, rfl, rfl, fun _ _ => ⟨.flat rfl (.nil _), .flat rfl (.nil _)⟩⟩
  kind := ⟨_, _, _, Tryd.underlying111⟩
def y112 : TyI S := ⟨1, [.nilf], .func⟩
theorem k112 : TyOk Tryd.prog 112 y112 where
  info := ⟨_, _, i112, rfl, rfl, fun _ _ => ⟨.flat rfl (.nil _), .flat rfl (.nil _)⟩⟩
  kind := ⟨_, _, _, Tryd.underlying112⟩
def y113 : TyI S := ⟨1, [.nilf], .func⟩
theorem k113 : TyOk Tryd.prog 113 y113 where
  info := ⟨_, _, i113, rfl, rfl, fun _ _ => ⟨.flat rfl (.nil _), .flat rfl (.nil _)⟩⟩
  kind := ⟨_, _, _, Tryd.underlying113⟩
def y114 : TyI S := ⟨1, [.nilf], .func⟩
theorem k114 : TyOk Tryd.prog 114 y114 where
  info := ⟨_, _, i114, rfl, rfl, fun _ _ => ⟨.flat rfl (.nil _), .flat rfl (.nil _)⟩⟩
  kind := ⟨_, _, _, Tryd.underlying114⟩
def y115 : TyI S := ⟨1, [.nilf], .func⟩
theorem k115 : TyOk Tryd.prog 115 y115 where
  info := ⟨_, _, i115, rfl, rfl, fun _ _ => ⟨.flat rfl (.nil _), .flat rfl (.nil _)⟩⟩
  kind := ⟨_, _, _, Tryd.underlying115⟩
def y117 : TyI S := ⟨1, [.nilf], .func⟩
theorem k117 : TyOk Tryd.prog 117 y117 where
  info := ⟨_, _, i117, rfl, rfl, fun _ _ => ⟨.flat rfl (.nil _), .flat rfl (.nil _)⟩⟩
  kind := ⟨_, _, _, Tryd.underlying117⟩
def y118 : TyI S := ⟨1, [.nilf], .func⟩
theorem k118 : TyOk Tryd.prog 118 y118 where
  info := ⟨_, _, i118, rfl, rfl, fun _ _ => ⟨.flat rfl (.nil _), .flat rfl (.nil _)⟩⟩
  kind := ⟨_, _, _, Tryd.underlying118⟩
def y119 : TyI S := ⟨1, [.nilf], .func⟩
theorem k119 : TyOk Tryd.prog 119 y119 where
  info := ⟨_, _, i119, rfl, rfl, fun _ _ => ⟨.flat rfl (.nil _), .flat rfl (.nil _)⟩⟩
  kind := ⟨_, _, _, Tryd.underlying119⟩
def y120 : TyI S := ⟨1, [.nilf], .func⟩
theorem k120 : TyOk Tryd.prog 120 y120 where
  info := ⟨_, _, i120, rfl, rfl, fun _ _ => ⟨.flat rfl (.nil _), .flat rfl (.nil _)⟩⟩
  kind := ⟨_, _, _, Tryd.underlying120⟩
def y121 : TyI S := ⟨1, [.nilf], .func⟩
theorem k121 : TyOk Tryd.prog 121 y121 where
  info := ⟨_, _, i121, rfl, rfl, fun _ _ => ⟨.flat rfl (.nil _), .flat rfl (.nil _)⟩⟩
  kind := ⟨_, _, _, Tryd.underlying121⟩
def y122 : TyI S := ⟨1, [.nilf], .func⟩
theorem k122 : TyOk Tryd.prog 122 y122 where
  info := ⟨_, _, i122, rfl, rfl, fun _ _ => ⟨.flat rfl (.nil _), .flat rfl (.nil _)⟩⟩
  kind := ⟨_, _, _, Tryd.underlying122⟩
def y123 : TyI S := ⟨1, [.nilf], .func⟩
theorem k123 : TyOk Tryd.prog 123 y123 where
  info := ⟨_, _, i123, rfl, rfl, fun _ _ => ⟨.flat rfl (.nil _), .flat rfl (.nil _)⟩⟩
  kind := ⟨_, _, _, Tryd.underlying123⟩
def y125 : TyI S := ⟨1, [.nilf], .func⟩
theorem k125 : TyOk Tryd.prog 125 y125 where
  info := ⟨_, _, i125, rfl, rfl, fun _ _ => ⟨.flat rfl (.nil _), .flat rfl (.nil _)⟩⟩
  kind := ⟨_, _, _, Tryd.underlying125⟩
def y126 : TyI S := ⟨1, [.nilf], .func⟩
theorem k126 : TyOk Tryd.prog 126 y126 where
  info := ⟨_, _, i126, rfl, rfl, fun _ _ => ⟨.flat rfl (.nil _), .flat rfl (.nil _)⟩⟩
  kind := ⟨_, _, _, Tryd.underlying126⟩
def y127 : TyI S := ⟨1, [.sl (S := S) U.ints [] none], .slice U.ints 24 [.sl (S := S) U.int [] none]⟩
theorem k127 : TyOk Tryd.prog 127 y127 where
  info := ⟨_, _, i127, rfl, rfl, fun _ _ => ⟨.flat ⟨rfl, none, 0, rfl⟩ (.nil _), .flat ⟨none, rfl⟩ (.nil _)⟩⟩
  kind := ⟨_, _, _, Tryd.underlying127, i26, rfl, rfl, by decide, by decide, rfl, fun _ _ => ⟨.flat ⟨rfl, none, 0, rfl⟩ (.nil _), .flat ⟨none, rfl⟩ (.nil _)⟩, rfl⟩
def y128 : TyI S := ⟨1, [.nilf], .func⟩
theorem k128 : TyOk Tryd.prog 128 y128 where
  info := ⟨_, _, i128, rfl, rfl, fun _ _ => ⟨.flat rfl (.nil _), .flat rfl (.nil _)⟩⟩
  kind := ⟨_, _, _, Tryd.underlying128⟩
def y129 : TyI S := ⟨1, [.nilf], .func⟩
theorem k129 : TyOk Tryd.prog 129 y129 where
  info := ⟨_, _, i129, rfl, rfl, fun _ _ => ⟨.flat rfl (.nil _), .flat rfl (.nil _)⟩⟩
  kind := ⟨_, _, _, Tryd.underlying129⟩
def y130 : TyI S := ⟨1, [.undef], .map⟩
theorem k130 : TyOk Tryd.prog 130 y130 where
  info := ⟨_, _, i130, rfl, rfl, fun _ _ => ⟨.flat trivial (.nil _), .flat trivial (.nil _)⟩⟩
  kind := ⟨_, _, Tryd.underlying130⟩
def y131 : TyI S := ⟨3, [.arr (S := S) U.int 3 [0, 0, 0]], .array U.int 3⟩
theorem k131 : TyOk Tryd.prog 131 y131 where
  info := ⟨_, _, i131, rfl, rfl, fun _ _ => ⟨Reps.arr (ws := [.int .i64 0, .int .i64 0, .int .i64 0]) rfl (.flat rfl (.flat rfl (.flat rfl (.nil _)))) (.nil _), Reps.arr (ws := [.int .i64 0, .int .i64 0, .int .i64 0]) rfl (.flat rfl (.flat rfl (.flat rfl (.nil _)))) (.nil _)⟩⟩
  kind := ⟨_, _, Tryd.underlying131, i3, rfl, by decide⟩
def y132 : TyI S := ⟨1, [.nilf], .func⟩
theorem k132 : TyOk Tryd.prog 132 y132 where
  info := ⟨_, _, i132, rfl, rfl, fun _ _ => ⟨.flat rfl (.nil _), .flat rfl (.nil _)⟩⟩
  kind := ⟨_, _, _, Tryd.underlying132⟩
def y133 : TyI S := ⟨1, [.nilf], .func⟩
theorem k133 : TyOk Tryd.prog 133 y133 where
  info := ⟨_, _, i133, rfl, rfl, fun _ _ => ⟨.flat rfl (.nil _), .flat rfl (.nil _)⟩⟩
  kind := ⟨_, _, _, Tryd.underlying133⟩
def y134 : TyI S := ⟨1, [.nilf], .func⟩
theorem k134 : TyOk Tryd.prog 134 y134 where
  info := ⟨_, _, i134, rfl, rfl, fun _ _ => ⟨.flat rfl (.nil _), .flat rfl (.nil _)⟩⟩
  kind := ⟨_, _, _, Tryd.underlying134⟩
def y135 : TyI S := ⟨1, [.nilf], .func⟩
theorem k135 : TyOk Tryd.prog 135 y135 where
  info := ⟨_, _, i135, rfl, rfl, fun _ _ => ⟨.flat rfl (.nil _), .flat rfl (.nil _)⟩⟩
  kind := ⟨_, _, _, Tryd.underlying135⟩
def y136 : TyI S := ⟨1, [.nilf], .func⟩
theorem k136 : TyOk Tryd.prog 136 y136 where
  info := ⟨_, _, i136, rfl, rfl, fun _ _ => ⟨.flat rfl (.nil _), .flat rfl (.nil _)⟩⟩
  kind := ⟨_, _, _, Tryd.underlying136⟩
def y137 : TyI S := ⟨1, [.nilf], .func⟩
theorem k137 : TyOk Tryd.prog 137 y137 where
  info := ⟨_, _, i137, rfl, rfl, fun _ _ => ⟨.flat rfl (.nil _), .flat rfl (.nil _)⟩⟩
  kind := ⟨_, _, _, Tryd.underlying137⟩
def y138 : TyI S := ⟨1, [.nilf], .func⟩
theorem k138 : TyOk Tryd.prog 138 y138 where
  info := ⟨_, _, i138, rfl, rfl, fun _ _ => ⟨.flat rfl (.nil _), .flat rfl (.nil _)⟩⟩
  kind := ⟨_, _, _, Tryd.underlying138⟩
def y139 : TyI S := ⟨1, [.nilf], .func⟩
theorem k139 : TyOk Tryd.prog 139 y139 where
  info := ⟨_, _, i139, rfl, rfl, fun _ _ => ⟨.flat rfl (.nil _), .flat rfl (.nil _)⟩⟩
  kind := ⟨_, _, _, Tryd.underlying139⟩
def y140 : TyI S := ⟨1, [.nilf], .func⟩
theorem k140 : TyOk Tryd.prog 140 y140 where
  info := ⟨_, _, i140, rfl, rfl, fun _ _ => ⟨.flat rfl (.nil _), .flat rfl (.nil _)⟩⟩
  kind := ⟨_, _, _, Tryd.underlying140⟩
def y141 : TyI S := ⟨1, [.nilf], .func⟩
theorem k141 : TyOk Tryd.prog 141 y141 where
  info := ⟨_, _, i141, rfl, rfl, fun _ _ => ⟨.flat rfl (.nil _), .flat rfl (.nil _)⟩⟩
  kind := ⟨_, _, _, Tryd.underlying141⟩
def y142 : TyI S := ⟨1, [.nilf], .func⟩
theorem k142 : TyOk Tryd.prog 142 y142 where
  info := ⟨_, _, i142, rfl, rfl, fun _ _ => ⟨.flat rfl (.nil _), .flat rfl (.nil _)⟩⟩
  kind := ⟨_, _, _, Tryd.underlying142⟩
def y143 : TyI S := ⟨1, [.nilf], .func⟩
theorem k143 : TyOk Tryd.prog 143 y143 where
  info := ⟨_, _, i143, rfl, rfl, fun _ _ => ⟨.flat rfl (.nil _), .flat rfl (.nil _)⟩⟩
  kind := ⟨_, _, _, Tryd.underlying143⟩
def y144 : TyI S := ⟨1, [.nilf], .func⟩
theorem k144 : TyOk Tryd.prog 144 y144 where
  info := ⟨_, _, i144, rfl, rfl, fun _ _ => ⟨.flat rfl (.nil _), .flat rfl (.nil _)⟩⟩
  kind := ⟨_, _, _, Tryd.underlying144⟩
def y145 : TyI S := ⟨3, [.arr (S := S) U.int 3 [0, 0, 0]], .array U.int 3⟩
theorem k145 : TyOk Tryd.prog 145 y145 where
  info := ⟨_, _, i145, rfl, rfl, fun _ _ => ⟨Reps.arr (ws := [.int .i64 0, .int .i64 0, .int .i64 0]) rfl (.flat rfl (.flat rfl (.flat rfl (.nil _)))) (.nil _), Reps.arr (ws := [.int .i64 0, .int .i64 0, .int .i64 0]) rfl (.flat rfl (.flat rfl (.flat rfl (.nil _)))) (.nil _)⟩⟩
  kind := ⟨_, _, Tryd.underlying145, i3, rfl, by decide⟩
def y146 : TyI S := ⟨24, [.arr (S := S) U.shown 8 [[0, 0, 0], [0, 0, 0], [0, 0, 0], [0, 0, 0], [0, 0, 0], [0, 0, 0], [0, 0, 0], [0, 0, 0]]], .array U.shown 8⟩
theorem k146 : TyOk Tryd.prog 146 y146 where
  info := ⟨_, _, i146, rfl, rfl, fun _ _ => ⟨Reps.arr (ws := [.int .i64 0, .int .i64 0, .int .i64 0, .int .i64 0, .int .i64 0, .int .i64 0, .int .i64 0, .int .i64 0, .int .i64 0, .int .i64 0, .int .i64 0, .int .i64 0, .int .i64 0, .int .i64 0, .int .i64 0, .int .i64 0, .int .i64 0, .int .i64 0, .int .i64 0, .int .i64 0, .int .i64 0, .int .i64 0, .int .i64 0, .int .i64 0]) rfl (Reps.arr (ws := [.int .i64 0, .int .i64 0, .int .i64 0]) rfl (.flat rfl (.flat rfl (.flat rfl (.nil _)))) (Reps.arr (ws := [.int .i64 0, .int .i64 0, .int .i64 0]) rfl (.flat rfl (.flat rfl (.flat rfl (.nil _)))) (Reps.arr (ws := [.int .i64 0, .int .i64 0, .int .i64 0]) rfl (.flat rfl (.flat rfl (.flat rfl (.nil _)))) (Reps.arr (ws := [.int .i64 0, .int .i64 0, .int .i64 0]) rfl (.flat rfl (.flat rfl (.flat rfl (.nil _)))) (Reps.arr (ws := [.int .i64 0, .int .i64 0, .int .i64 0]) rfl (.flat rfl (.flat rfl (.flat rfl (.nil _)))) (Reps.arr (ws := [.int .i64 0, .int .i64 0, .int .i64 0]) rfl (.flat rfl (.flat rfl (.flat rfl (.nil _)))) (Reps.arr (ws := [.int .i64 0, .int .i64 0, .int .i64 0]) rfl (.flat rfl (.flat rfl (.flat rfl (.nil _)))) (Reps.arr (ws := [.int .i64 0, .int .i64 0, .int .i64 0]) rfl (.flat rfl (.flat rfl (.flat rfl (.nil _)))) (.nil _))))))))) (.nil _), Reps.arr (ws := [.int .i64 0, .int .i64 0, .int .i64 0, .int .i64 0, .int .i64 0, .int .i64 0, .int .i64 0, .int .i64 0, .int .i64 0, .int .i64 0, .int .i64 0, .int .i64 0, .int .i64 0, .int .i64 0, .int .i64 0, .int .i64 0, .int .i64 0, .int .i64 0, .int .i64 0, .int .i64 0, .int .i64 0, .int .i64 0, .int .i64 0, .int .i64 0]) rfl (Reps.arr (ws := [.int .i64 0, .int .i64 0, .int .i64 0]) rfl (.flat rfl (.flat rfl (.flat rfl (.nil _)))) (Reps.arr (ws := [.int .i64 0, .int .i64 0, .int .i64 0]) rfl (.flat rfl (.flat rfl (.flat rfl (.nil _)))) (Reps.arr (ws := [.int .i64 0, .int .i64 0, .int .i64 0]) rfl (.flat rfl (.flat rfl (.flat rfl (.nil _)))) (Reps.arr (ws := [.int .i64 0, .int .i64 0, .int .i64 0]) rfl (.flat rfl (.flat rfl (.flat rfl (.nil _)))) (Reps.arr (ws := [.int .i64 0, .int .i64 0, .int .i64 0]) rfl (.flat rfl (.flat rfl (.flat rfl (.nil _)))) (Reps.arr (ws := [.int .i64 0, .int .i64 0, .int .i64 0]) rfl (.flat rfl (.flat rfl (.flat rfl (.nil _)))) (Reps.arr (ws := [.int .i64 0, .int .i64 0, .int .i64 0]) rfl (.flat rfl (.flat rfl (.flat rfl (.nil _)))) (Reps.arr (ws := [.int .i64 0, .int .i64 0, .int .i64 0]) rfl (.flat rfl (.flat rfl (.flat rfl (.nil _)))) (.nil _))))))))) (.nil _)⟩⟩
  kind := ⟨_, _, Tryd.underlying146, i145, rfl, by decide⟩
def y147 : TyI S := ⟨26, [.sl (S := S) U.locus [] none, .sl (S := S) U.copy [] none, .arr (S := S) U.shown 8 [[0, 0, 0], [0, 0, 0], [0, 0, 0], [0, 0, 0], [0, 0, 0], [0, 0, 0], [0, 0, 0], [0, 0, 0]]], .struct [(0, 25, 2), (2, 146, 24)]⟩
theorem k147 : TyOk Tryd.prog 147 y147 where
  info := ⟨_, _, i147, rfl, rfl, fun _ _ => ⟨.flat ⟨rfl, none, 0, rfl⟩ (.flat ⟨rfl, none, 0, rfl⟩ (Reps.arr (ws := [.int .i64 0, .int .i64 0, .int .i64 0, .int .i64 0, .int .i64 0, .int .i64 0, .int .i64 0, .int .i64 0, .int .i64 0, .int .i64 0, .int .i64 0, .int .i64 0, .int .i64 0, .int .i64 0, .int .i64 0, .int .i64 0, .int .i64 0, .int .i64 0, .int .i64 0, .int .i64 0, .int .i64 0, .int .i64 0, .int .i64 0, .int .i64 0]) rfl (Reps.arr (ws := [.int .i64 0, .int .i64 0, .int .i64 0]) rfl (.flat rfl (.flat rfl (.flat rfl (.nil _)))) (Reps.arr (ws := [.int .i64 0, .int .i64 0, .int .i64 0]) rfl (.flat rfl (.flat rfl (.flat rfl (.nil _)))) (Reps.arr (ws := [.int .i64 0, .int .i64 0, .int .i64 0]) rfl (.flat rfl (.flat rfl (.flat rfl (.nil _)))) (Reps.arr (ws := [.int .i64 0, .int .i64 0, .int .i64 0]) rfl (.flat rfl (.flat rfl (.flat rfl (.nil _)))) (Reps.arr (ws := [.int .i64 0, .int .i64 0, .int .i64 0]) rfl (.flat rfl (.flat rfl (.flat rfl (.nil _)))) (Reps.arr (ws := [.int .i64 0, .int .i64 0, .int .i64 0]) rfl (.flat rfl (.flat rfl (.flat rfl (.nil _)))) (Reps.arr (ws := [.int .i64 0, .int .i64 0, .int .i64 0]) rfl (.flat rfl (.flat rfl (.flat rfl (.nil _)))) (Reps.arr (ws := [.int .i64 0, .int .i64 0, .int .i64 0]) rfl (.flat rfl (.flat rfl (.flat rfl (.nil _)))) (.nil _))))))))) (.nil _))), .flat ⟨none, rfl⟩ (.flat ⟨none, rfl⟩ (Reps.arr (ws := [.int .i64 0, .int .i64 0, .int .i64 0, .int .i64 0, .int .i64 0, .int .i64 0, .int .i64 0, .int .i64 0, .int .i64 0, .int .i64 0, .int .i64 0, .int .i64 0, .int .i64 0, .int .i64 0, .int .i64 0, .int .i64 0, .int .i64 0, .int .i64 0, .int .i64 0, .int .i64 0, .int .i64 0, .int .i64 0, .int .i64 0, .int .i64 0]) rfl (Reps.arr (ws := [.int .i64 0, .int .i64 0, .int .i64 0]) rfl (.flat rfl (.flat rfl (.flat rfl (.nil _)))) (Reps.arr (ws := [.int .i64 0, .int .i64 0, .int .i64 0]) rfl (.flat rfl (.flat rfl (.flat rfl (.nil _)))) (Reps.arr (ws := [.int .i64 0, .int .i64 0, .int .i64 0]) rfl (.flat rfl (.flat rfl (.flat rfl (.nil _)))) (Reps.arr (ws := [.int .i64 0, .int .i64 0, .int .i64 0]) rfl (.flat rfl (.flat rfl (.flat rfl (.nil _)))) (Reps.arr (ws := [.int .i64 0, .int .i64 0, .int .i64 0]) rfl (.flat rfl (.flat rfl (.flat rfl (.nil _)))) (Reps.arr (ws := [.int .i64 0, .int .i64 0, .int .i64 0]) rfl (.flat rfl (.flat rfl (.flat rfl (.nil _)))) (Reps.arr (ws := [.int .i64 0, .int .i64 0, .int .i64 0]) rfl (.flat rfl (.flat rfl (.flat rfl (.nil _)))) (Reps.arr (ws := [.int .i64 0, .int .i64 0, .int .i64 0]) rfl (.flat rfl (.flat rfl (.flat rfl (.nil _)))) (.nil _))))))))) (.nil _)))⟩⟩
  kind := ⟨_, [(0, 2), (2, 24)], Tryd.underlying147, by simp only [List.mapM_cons, List.mapM_nil, i146, i25]; rfl, fun i off ft sz h => match i, h with
    | 0, h => by cases h; exact ⟨rfl, by decide, _, rfl, rfl, rfl, _, i25, rfl⟩
    | 1, h => by cases h; exact ⟨rfl, by decide, _, rfl, rfl, rfl, _, i146, rfl⟩
    | n + 2, h => by cases h⟩
def y148 : TyI S := ⟨26, [.sl (S := S) U.locus [] none, .sl (S := S) U.copy [] none, .arr (S := S) U.shown 8 [[0, 0, 0], [0, 0, 0], [0, 0, 0], [0, 0, 0], [0, 0, 0], [0, 0, 0], [0, 0, 0], [0, 0, 0]]], .struct [(0, 25, 2), (2, 146, 24)]⟩
theorem k148 : TyOk Tryd.prog 148 y148 where
  info := ⟨_, _, i148, rfl, rfl, fun _ _ => ⟨.flat ⟨rfl, none, 0, rfl⟩ (.flat ⟨rfl, none, 0, rfl⟩ (Reps.arr (ws := [.int .i64 0, .int .i64 0, .int .i64 0, .int .i64 0, .int .i64 0, .int .i64 0, .int .i64 0, .int .i64 0, .int .i64 0, .int .i64 0, .int .i64 0, .int .i64 0, .int .i64 0, .int .i64 0, .int .i64 0, .int .i64 0, .int .i64 0, .int .i64 0, .int .i64 0, .int .i64 0, .int .i64 0, .int .i64 0, .int .i64 0, .int .i64 0]) rfl (Reps.arr (ws := [.int .i64 0, .int .i64 0, .int .i64 0]) rfl (.flat rfl (.flat rfl (.flat rfl (.nil _)))) (Reps.arr (ws := [.int .i64 0, .int .i64 0, .int .i64 0]) rfl (.flat rfl (.flat rfl (.flat rfl (.nil _)))) (Reps.arr (ws := [.int .i64 0, .int .i64 0, .int .i64 0]) rfl (.flat rfl (.flat rfl (.flat rfl (.nil _)))) (Reps.arr (ws := [.int .i64 0, .int .i64 0, .int .i64 0]) rfl (.flat rfl (.flat rfl (.flat rfl (.nil _)))) (Reps.arr (ws := [.int .i64 0, .int .i64 0, .int .i64 0]) rfl (.flat rfl (.flat rfl (.flat rfl (.nil _)))) (Reps.arr (ws := [.int .i64 0, .int .i64 0, .int .i64 0]) rfl (.flat rfl (.flat rfl (.flat rfl (.nil _)))) (Reps.arr (ws := [.int .i64 0, .int .i64 0, .int .i64 0]) rfl (.flat rfl (.flat rfl (.flat rfl (.nil _)))) (Reps.arr (ws := [.int .i64 0, .int .i64 0, .int .i64 0]) rfl (.flat rfl (.flat rfl (.flat rfl (.nil _)))) (.nil _))))))))) (.nil _))), .flat ⟨none, rfl⟩ (.flat ⟨none, rfl⟩ (Reps.arr (ws := [.int .i64 0, .int .i64 0, .int .i64 0, .int .i64 0, .int .i64 0, .int .i64 0, .int .i64 0, .int .i64 0, .int .i64 0, .int .i64 0, .int .i64 0, .int .i64 0, .int .i64 0, .int .i64 0, .int .i64 0, .int .i64 0, .int .i64 0, .int .i64 0, .int .i64 0, .int .i64 0, .int .i64 0, .int .i64 0, .int .i64 0, .int .i64 0]) rfl (Reps.arr (ws := [.int .i64 0, .int .i64 0, .int .i64 0]) rfl (.flat rfl (.flat rfl (.flat rfl (.nil _)))) (Reps.arr (ws := [.int .i64 0, .int .i64 0, .int .i64 0]) rfl (.flat rfl (.flat rfl (.flat rfl (.nil _)))) (Reps.arr (ws := [.int .i64 0, .int .i64 0, .int .i64 0]) rfl (.flat rfl (.flat rfl (.flat rfl (.nil _)))) (Reps.arr (ws := [.int .i64 0, .int .i64 0, .int .i64 0]) rfl (.flat rfl (.flat rfl (.flat rfl (.nil _)))) (Reps.arr (ws := [.int .i64 0, .int .i64 0, .int .i64 0]) rfl (.flat rfl (.flat rfl (.flat rfl (.nil _)))) (Reps.arr (ws := [.int .i64 0, .int .i64 0, .int .i64 0]) rfl (.flat rfl (.flat rfl (.flat rfl (.nil _)))) (Reps.arr (ws := [.int .i64 0, .int .i64 0, .int .i64 0]) rfl (.flat rfl (.flat rfl (.flat rfl (.nil _)))) (Reps.arr (ws := [.int .i64 0, .int .i64 0, .int .i64 0]) rfl (.flat rfl (.flat rfl (.flat rfl (.nil _)))) (.nil _))))))))) (.nil _)))⟩⟩
  kind := ⟨_, [(0, 2), (2, 24)], Tryd.underlying148, by simp only [List.mapM_cons, List.mapM_nil, i146, i25]; rfl, fun i off ft sz h => match i, h with
    | 0, h => by cases h; exact ⟨rfl, by decide, _, rfl, rfl, rfl, _, i25, rfl⟩
    | 1, h => by cases h; exact ⟨rfl, by decide, _, rfl, rfl, rfl, _, i146, rfl⟩
    | n + 2, h => by cases h⟩
def y149 : TyI S := ⟨1, [.nilf], .func⟩
theorem k149 : TyOk Tryd.prog 149 y149 where
  info := ⟨_, _, i149, rfl, rfl, fun _ _ => ⟨.flat rfl (.nil _), .flat rfl (.nil _)⟩⟩
  kind := ⟨_, _, _, Tryd.underlying149⟩
def y150 : TyI S := ⟨1, [.nilf], .func⟩
theorem k150 : TyOk Tryd.prog 150 y150 where
  info := ⟨_, _, i150, rfl, rfl, fun _ _ => ⟨.flat rfl (.nil _), .flat rfl (.nil _)⟩⟩
  kind := ⟨_, _, _, Tryd.underlying150⟩
def y151 : TyI S := ⟨1, [.nilf], .func⟩
theorem k151 : TyOk Tryd.prog 151 y151 where
  info := ⟨_, _, i151, rfl, rfl, fun _ _ => ⟨.flat rfl (.nil _), .flat rfl (.nil _)⟩⟩
  kind := ⟨_, _, _, Tryd.underlying151⟩
def y152 : TyI S := ⟨1, [.nilf], .func⟩
theorem k152 : TyOk Tryd.prog 152 y152 where
  info := ⟨_, _, i152, rfl, rfl, fun _ _ => ⟨.flat rfl (.nil _), .flat rfl (.nil _)⟩⟩
  kind := ⟨_, _, _, Tryd.underlying152⟩
def y153 : TyI S := ⟨1, [.nilf], .func⟩
theorem k153 : TyOk Tryd.prog 153 y153 where
  info := ⟨_, _, i153, rfl, rfl, fun _ _ => ⟨.flat rfl (.nil _), .flat rfl (.nil _)⟩⟩
  kind := ⟨_, _, _, Tryd.underlying153⟩
def y154 : TyI S := ⟨1, [.nilf], .func⟩
theorem k154 : TyOk Tryd.prog 154 y154 where
  info := ⟨_, _, i154, rfl, rfl, fun _ _ => ⟨.flat rfl (.nil _), .flat rfl (.nil _)⟩⟩
  kind := ⟨_, _, _, Tryd.underlying154⟩
def y155 : TyI S := ⟨1, [.nilf], .func⟩
theorem k155 : TyOk Tryd.prog 155 y155 where
  info := ⟨_, _, i155, rfl, rfl, fun _ _ => ⟨.flat rfl (.nil _), .flat rfl (.nil _)⟩⟩
  kind := ⟨_, _, _, Tryd.underlying155⟩
def y156 : TyI S := ⟨1, [.nilf], .func⟩
theorem k156 : TyOk Tryd.prog 156 y156 where
  info := ⟨_, _, i156, rfl, rfl, fun _ _ => ⟨.flat rfl (.nil _), .flat rfl (.nil _)⟩⟩
  kind := ⟨_, _, _, Tryd.underlying156⟩
def y157 : TyI S := ⟨1, [.nilf], .func⟩
theorem k157 : TyOk Tryd.prog 157 y157 where
  info := ⟨_, _, i157, rfl, rfl, fun _ _ => ⟨.flat rfl (.nil _), .flat rfl (.nil _)⟩⟩
  kind := ⟨_, _, _, Tryd.underlying157⟩
def y158 : TyI S := ⟨1, [.int .u64 0], .int .u64⟩
theorem k158 : TyOk Tryd.prog 158 y158 where
  info := ⟨_, _, i158, rfl, rfl, fun _ _ => ⟨.flat rfl (.nil _), .flat rfl (.nil _)⟩⟩
  kind := Tryd.underlying158
def y159 : TyI S := ⟨1, [.nilf], .func⟩
theorem k159 : TyOk Tryd.prog 159 y159 where
  info := ⟨_, _, i159, rfl, rfl, fun _ _ => ⟨.flat rfl (.nil _), .flat rfl (.nil _)⟩⟩
  kind := ⟨_, _, _, Tryd.underlying159⟩
def y160 : TyI S := ⟨1, [.nilf], .func⟩
theorem k160 : TyOk Tryd.prog 160 y160 where
  info := ⟨_, _, i160, rfl, rfl, fun _ _ => ⟨.flat rfl (.nil _), .flat rfl (.nil _)⟩⟩
  kind := ⟨_, _, _, Tryd.underlying160⟩
def y161 : TyI S := ⟨1, [.nilf], .func⟩
theorem k161 : TyOk Tryd.prog 161 y161 where
  info := ⟨_, _, i161, rfl, rfl, fun _ _ => ⟨.flat rfl (.nil _), .flat rfl (.nil _)⟩⟩
  kind := ⟨_, _, _, Tryd.underlying161⟩
def y162 : TyI S := ⟨1, [.int .u32 0], .int .u32⟩
theorem k162 : TyOk Tryd.prog 162 y162 where
  info := ⟨_, _, i162, rfl, rfl, fun _ _ => ⟨.flat rfl (.nil _), .flat rfl (.nil _)⟩⟩
  kind := Tryd.underlying162
def y163 : TyI S := ⟨1, [.nilf], .func⟩
theorem k163 : TyOk Tryd.prog 163 y163 where
  info := ⟨_, _, i163, rfl, rfl, fun _ _ => ⟨.flat rfl (.nil _), .flat rfl (.nil _)⟩⟩
  kind := ⟨_, _, _, Tryd.underlying163⟩
def y164 : TyI S := ⟨1, [.int .u64 0], .int .u64⟩
theorem k164 : TyOk Tryd.prog 164 y164 where
  info := ⟨_, _, i164, rfl, rfl, fun _ _ => ⟨.flat rfl (.nil _), .flat rfl (.nil _)⟩⟩
  kind := Tryd.underlying164
def y167 : TyI S := ⟨1, [.nilf], .func⟩
theorem k167 : TyOk Tryd.prog 167 y167 where
  info := ⟨_, _, i167, rfl, rfl, fun _ _ => ⟨.flat rfl (.nil _), .flat rfl (.nil _)⟩⟩
  kind := ⟨_, _, _, Tryd.underlying167⟩
def y168 : TyI S := ⟨4, [.nilp, .nilp, .nilp, .str ByteArray.empty], .struct [(0, 17, 1), (1, 17, 1), (2, 17, 1), (3, 9, 1)]⟩
theorem k168 : TyOk Tryd.prog 168 y168 where
  info := ⟨_, _, i168, rfl, rfl, fun _ _ => ⟨.flat rfl (.flat rfl (.flat rfl (.flat rfl (.nil _)))), .flat rfl (.flat rfl (.flat rfl (.flat rfl (.nil _))))⟩⟩
  kind := ⟨_, [(0, 1), (1, 1), (2, 1), (3, 1)], Tryd.underlying168, by simp only [List.mapM_cons, List.mapM_nil, i17, i9]; rfl, fun i off ft sz h => match i, h with
    | 0, h => by cases h; exact ⟨rfl, by decide, _, rfl, rfl, rfl, _, i17, rfl⟩
    | 1, h => by cases h; exact ⟨rfl, by decide, _, rfl, rfl, rfl, _, i17, rfl⟩
    | 2, h => by cases h; exact ⟨rfl, by decide, _, rfl, rfl, rfl, _, i17, rfl⟩
    | 3, h => by cases h; exact ⟨rfl, by decide, _, rfl, rfl, rfl, _, i9, rfl⟩
    | n + 4, h => by cases h⟩
def y175 : TyI S := ⟨1, [.nilf], .func⟩
theorem k175 : TyOk Tryd.prog 175 y175 where
  info := ⟨_, _, i175, rfl, rfl, fun _ _ => ⟨.flat rfl (.nil _), .flat rfl (.nil _)⟩⟩
  kind := ⟨_, _, _, Tryd.underlying175⟩
def y176 : TyI S := ⟨1, [.nilp], .ptr⟩
theorem k176 : TyOk Tryd.prog 176 y176 where
  info := ⟨_, _, i176, rfl, rfl, fun _ _ => ⟨.flat rfl (.nil _), .flat rfl (.nil _)⟩⟩
  kind := ⟨_, Tryd.underlying176⟩
def y179 : TyI S := ⟨11, [.int .u64 0, .int .u64 0, .int .u32 0, .int .u8 0, .int .u8 0, .int .u8 0, .int .u8 0, .nilf, .nilp, .int .i32 0, .int .i32 0], .struct [(0, 12, 1), (1, 12, 1), (2, 162, 1), (3, 173, 1), (4, 5, 1), (5, 5, 1), (6, 174, 1), (7, 175, 1), (8, 176, 1), (9, 177, 1), (10, 178, 1)]⟩
theorem k179 : TyOk Tryd.prog 179 y179 where
  info := ⟨_, _, i179, rfl, rfl, fun _ _ => ⟨.flat rfl (.flat rfl (.flat rfl (.flat rfl (.flat rfl (.flat rfl (.flat rfl (.flat rfl (.flat rfl (.flat rfl (.flat rfl (.nil _))))))))))), .flat rfl (.flat rfl (.flat rfl (.flat rfl (.flat rfl (.flat rfl (.flat rfl (.flat rfl (.flat rfl (.flat rfl (.flat rfl (.nil _)))))))))))⟩⟩
  kind := ⟨_, [(0, 1), (1, 1), (2, 1), (3, 1), (4, 1), (5, 1), (6, 1), (7, 1), (8, 1), (9, 1), (10, 1)], Tryd.underlying179, by simp only [List.mapM_cons, List.mapM_nil, i12, i162, i173, i174, i175, i176, i177, i178, i5]; rfl, fun i off ft sz h => match i, h with
    | 0, h => by cases h; exact ⟨rfl, by decide, _, rfl, rfl, rfl, _, i12, rfl⟩
    | 1, h => by cases h; exact ⟨rfl, by decide, _, rfl, rfl, rfl, _, i12, rfl⟩
    | 2, h => by cases h; exact ⟨rfl, by decide, _, rfl, rfl, rfl, _, i162, rfl⟩
    | 3, h => by cases h; exact ⟨rfl, by decide, _, rfl, rfl, rfl, _, i173, rfl⟩
    | 4, h => by cases h; exact ⟨rfl, by decide, _, rfl, rfl, rfl, _, i5, rfl⟩
    | 5, h => by cases h; exact ⟨rfl, by decide, _, rfl, rfl, rfl, _, i5, rfl⟩
    | 6, h => by cases h; exact ⟨rfl, by decide, _, rfl, rfl, rfl, _, i174, rfl⟩
    | 7, h => by cases h; exact ⟨rfl, by decide, _, rfl, rfl, rfl, _, i175, rfl⟩
    | 8, h => by cases h; exact ⟨rfl, by decide, _, rfl, rfl, rfl, _, i176, rfl⟩
    | 9, h => by cases h; exact ⟨rfl, by decide, _, rfl, rfl, rfl, _, i177, rfl⟩
    | 10, h => by cases h; exact ⟨rfl, by decide, _, rfl, rfl, rfl, _, i178, rfl⟩
    | n + 11, h => by cases h⟩

def ti : List (Nat × TyI S) := [(1, y1), (2, y2), (3, y3), (4, y4), (5, y5), (7, y7), (9, y9), (12, y12), (13, y13), (18, y18), (19, y19), (21, y21), (22, y22), (23, y23), (24, y24), (25, y25), (26, y26), (27, y27), (28, y28), (29, y29), (31, y31), (33, y33), (34, y34), (36, y36), (37, y37), (38, y38), (39, y39), (40, y40), (41, y41), (43, y43), (44, y44), (45, y45), (46, y46), (47, y47), (49, y49), (50, y50), (52, y52), (53, y53), (54, y54), (55, y55), (56, y56), (57, y57), (58, y58), (59, y59), (60, y60), (61, y61), (62, y62), (64, y64), (65, y65), (66, y66), (67, y67), (68, y68), (69, y69), (70, y70), (71, y71), (72, y72), (73, y73), (74, y74), (75, y75), (76, y76), (77, y77), (78, y78), (79, y79), (80, y80), (81, y81), (82, y82), (83, y83), (84, y84), (85, y85), (86, y86), (87, y87), (88, y88), (89, y89), (90, y90), (91, y91), (92, y92), (93, y93), (94, y94), (95, y95), (96, y96), (97, y97), (98, y98), (99, y99), (100, y100), (101, y101), (103, y103), (104, y104), (105, y105), (106, y106), (108, y108), (109, y109), (110, y110), (111, y111), (112, y112), (113, y113), (114, y114), (115, y115), (117, y117), (118, y118), (119, y119), (120, y120), (121, y121), (122, y122), (123, y123), (125, y125), (126, y126), (127, y127), (128, y128), (129, y129), (130, y130), (131, y131), (132, y132), (133, y133), (134, y134), (135, y135), (136, y136), (137, y137), (138, y138), (139, y139), (140, y140), (141, y141), (142, y142), (143, y143), (144, y144), (145, y145), (146, y146), (147, y147), (148, y148), (149, y149), (150, y150), (151, y151), (152, y152), (153, y153), (154, y154), (155, y155), (156, y156), (157, y157), (158, y158), (159, y159), (160, y160), (161, y161), (162, y162), (163, y163), (164, y164), (167, y167), (168, y168), (175, y175), (176, y176), (179, y179)]

theorem ti_ok : TisOk Tryd.prog ti := tis_cons k1 <| tis_cons k2 <| tis_cons k3 <| tis_cons k4 <| tis_cons k5 <| tis_cons k7 <| tis_cons k9 <| tis_cons k12 <| tis_cons k13 <| tis_cons k18 <| tis_cons k19 <| tis_cons k21 <| tis_cons k22 <| tis_cons k23 <| tis_cons k24 <| tis_cons k25 <| tis_cons k26 <| tis_cons k27 <| tis_cons k28 <| tis_cons k29 <| tis_cons k31 <| tis_cons k33 <| tis_cons k34 <| tis_cons k36 <| tis_cons k37 <| tis_cons k38 <| tis_cons k39 <| tis_cons k40 <| tis_cons k41 <| tis_cons k43 <| tis_cons k44 <| tis_cons k45 <| tis_cons k46 <| tis_cons k47 <| tis_cons k49 <| tis_cons k50 <| tis_cons k52 <| tis_cons k53 <| tis_cons k54 <| tis_cons k55 <| tis_cons k56 <| tis_cons k57 <| tis_cons k58 <| tis_cons k59 <| tis_cons k60 <| tis_cons k61 <| tis_cons k62 <| tis_cons k64 <| tis_cons k65 <| tis_cons k66 <| tis_cons k67 <| tis_cons k68 <| tis_cons k69 <| tis_cons k70 <| tis_cons k71 <| tis_cons k72 <| tis_cons k73 <| tis_cons k74 <| tis_cons k75 <| tis_cons k76 <| tis_cons k77 <| tis_cons k78 <| tis_cons k79 <| tis_cons k80 <| tis_cons k81 <| tis_cons k82 <| tis_cons k83 <| tis_cons k84 <| tis_cons k85 <| tis_cons k86 <| tis_cons k87 <| tis_cons k88 <| tis_cons k89 <| tis_cons k90 <| tis_cons k91 <| tis_cons k92 <| tis_cons k93 <| tis_cons k94 <| tis_cons k95 <| tis_cons k96 <| tis_cons k97 <| tis_cons k98 <| tis_cons k99 <| tis_cons k100 <| tis_cons k101 <| tis_cons k103 <| tis_cons k104 <| tis_cons k105 <| tis_cons k106 <| tis_cons k108 <| tis_cons k109 <| tis_cons k110 <| tis_cons k111 <| tis_cons k112 <| tis_cons k113 <| tis_cons k114 <| tis_cons k115 <| tis_cons k117 <| tis_cons k118 <| tis_cons k119 <| tis_cons k120 <| tis_cons k121 <| tis_cons k122 <| tis_cons k123 <| tis_cons k125 <| tis_cons k126 <| tis_cons k127 <| tis_cons k128 <| tis_cons k129 <| tis_cons k130 <| tis_cons k131 <| tis_cons k132 <| tis_cons k133 <| tis_cons k134 <| tis_cons k135 <| tis_cons k136 <| tis_cons k137 <| tis_cons k138 <| tis_cons k139 <| tis_cons k140 <| tis_cons k141 <| tis_cons k142 <| tis_cons k143 <| tis_cons k144 <| tis_cons k145 <| tis_cons k146 <| tis_cons k147 <| tis_cons k148 <| tis_cons k149 <| tis_cons k150 <| tis_cons k151 <| tis_cons k152 <| tis_cons k153 <| tis_cons k154 <| tis_cons k155 <| tis_cons k156 <| tis_cons k157 <| tis_cons k158 <| tis_cons k159 <| tis_cons k160 <| tis_cons k161 <| tis_cons k162 <| tis_cons k163 <| tis_cons k164 <| tis_cons k167 <| tis_cons k168 <| tis_cons k175 <| tis_cons k176 <| tis_cons k179 <| tis_nil
end Go.Ab.StF

namespace Go.Ab.StF
open Go Go.Ab Go.Proofs
set_option maxRecDepth 100000

theorem eq47 (a b c d : Int) (w : World) : (Op.equalIn 10000 47 (.agg #[.int .i64 a, .int .i64 b]) (.agg #[.int .i64 c, .int .i64 d])).run Tryd.prog w = .ok (a == c && b == d) w := by
  have u3 := Tryd.underlying3
  have a3 := Tryd.isAgg3
  have z3 := Tryd.sizeOf3
  have hS : Tryd.prog.underlying 47 = some (.struct (Tryd.prog.fieldsOf 47)) := by kernel_rfl
  have hp : Tryd.prog.stoodInHeld 47 = false := by kernel_rfl
  rw [show (10000 : Nat) = 9999 + 1 from rfl, run_equalIn_agg w 9999 47 _ _ hS hp]
  simp only [Program.fieldsOf, Tryd.underlying47]
  go_simp
  by_cases h1 : a = c <;> by_cases h2 : b = d <;> simp [h1, h2]

theorem eq80 (a b c d : Int) (w : World) : (Op.equalIn 10000 80 (.agg #[.int .i64 a, .int .i64 b]) (.agg #[.int .i64 c, .int .i64 d])).run Tryd.prog w = .ok (a == c && b == d) w := by
  have u3 := Tryd.underlying3
  have a3 := Tryd.isAgg3
  have z3 := Tryd.sizeOf3
  have hS : Tryd.prog.underlying 80 = some (.struct (Tryd.prog.fieldsOf 80)) := by kernel_rfl
  have hp : Tryd.prog.stoodInHeld 80 = false := by kernel_rfl
  rw [show (10000 : Nat) = 9999 + 1 from rfl, run_equalIn_agg w 9999 80 _ _ hS hp]
  simp only [Program.fieldsOf, Tryd.underlying80]
  go_simp
  by_cases h1 : a = c <;> by_cases h2 : b = d <;> simp [h1, h2]

theorem eq131 (a b c a' b' c' : Int) (w : World) : (Op.equalIn 10000 131 (.agg #[.int .i64 a, .int .i64 b, .int .i64 c]) (.agg #[.int .i64 a', .int .i64 b', .int .i64 c'])).run Tryd.prog w = .ok (a == a' && (b == b' && c == c')) w := by
  have u3 := Tryd.underlying3
  have a3 := Tryd.isAgg3
  have z3 := Tryd.sizeOf3
  rw [show (10000 : Nat) = 9999 + 1 from rfl, Op.equalIn]
  simp only [Sem.run_bind, run_underlying Tryd.underlying131, Result.andThen_ok]
  simp only [Std.Legacy.Range.forIn_eq_forIn_range', Std.Legacy.Range.size, Nat.sub_zero, Nat.add_sub_cancel, Nat.div_one, List.range'_succ, List.range'_zero, List.forIn_cons, List.forIn_nil]
  go_simp
  by_cases h1 : a = a' <;> by_cases h2 : b = b' <;> by_cases h3 : c = c' <;> simp [h1, h2, h3]

def pairE : List (AV S) → List (AV S) → Option Bool
  | [.int .i64 a, .int .i64 b], [.int .i64 c, .int .i64 d] => some (a == c && b == d)
  | _, _ => none

def eqtS (t : TypeId) (xs ys : List (AV S)) : Option Bool := match Nat.beq t 47 || Nat.beq t 80 with
  | true => pairE xs ys
  | false => none

theorem agg2 {w : World} {V : Nat → Nat → Prop} {l : Loc} {v : Value} {j k : IntKind} {a b : Int} (h : Rep w V l v (.agg [.int j a, .int k b] : AV S)) : v = .agg #[.int j a, .int k b] := by
  obtain ⟨c, rfl, h'⟩ := Rep.agg h
  obtain ⟨v1, vs, h1, h2, h3⟩ := h'.head trivial
  obtain ⟨v2, vs', rfl, h4, h5⟩ := h3.head trivial
  obtain rfl := h5.nil_inv
  congr 1
  apply Array.ext'
  rw [h1, h2.int, h4.int]

theorem eqtS_ok : EqtOk (S := S) Tryd.prog eqtS := by
  intro t xs ys b h w V l v u y z hv hu
  unfold eqtS at h
  cases ht : Nat.beq t 47 || Nat.beq t 80 with
  | false => rw [ht] at h; cases h
  | true =>
    rw [ht] at h
    simp only at h
    unfold pairE at h
    split at h
    · rename_i a b c d
      cases h
      rw [agg2 hv, agg2 hu]
      rw [Bool.or_eq_true] at ht
      rcases ht with ht | ht
      · have := Nat.eq_of_beq_eq_true ht
        subst this
        have hg : ∀ op x y xs ys, (eqGuard op 47 x y (.agg xs) (.agg ys)).run Tryd.prog w = .ok () w := fun op x y xs ys => run_eqGuard_agg w op 47 x y xs ys (by kernel_rfl)
        constructor
        · rw [Sem.run_bind, hg]; simp only [Result.andThen_ok]; rw [run_eql_struct, eq47]; rfl
        · rw [Sem.run_bind, hg]; simp only [Result.andThen_ok]; rw [run_neq_struct, eq47]; rfl
      · have := Nat.eq_of_beq_eq_true ht
        subst this
        have hg : ∀ op x y xs ys, (eqGuard op 80 x y (.agg xs) (.agg ys)).run Tryd.prog w = .ok () w := fun op x y xs ys => run_eqGuard_agg w op 80 x y xs ys (by kernel_rfl)
        constructor
        · rw [Sem.run_bind, hg]; simp only [Result.andThen_ok]; rw [run_eql_struct, eq80]; rfl
        · rw [Sem.run_bind, hg]; simp only [Result.andThen_ok]; rw [run_neq_struct, eq80]; rfl
    · cases h

def key3 : AV S → Option (List Int)
  | .agg [.arr u 3 xs] => match u with
    | .int => some xs
    | _ => none
  | _ => none

def keq3 (c c' : AV S) : Option Bool := match key3 c with
  | some xs => match key3 c' with
    | some ys => some (xs == ys)
    | none => none
  | none => none

def miS : List (Nat × MapI S) := [(130, ⟨keq3, 26⟩)]

theorem key3_rep {w : World} {V : Nat → Nat → Prop} {l : Loc} {v : Value} {c : AV S} {xs : List Int} (hk : key3 c = some xs) (h : Rep w V l v c) : ∃ a b d, xs = [a, b, d] ∧ v = .agg #[.int .i64 a, .int .i64 b, .int .i64 d] := by
  unfold key3 at hk
  split at hk
  · rename_i u xs'
    cases u <;> try (cases hk; done)
    cases hk
    obtain ⟨c, rfl, h'⟩ := Rep.agg h
    obtain ⟨va, vb, h1, h2, h3⟩ := h'.uncons
    obtain rfl := h3.nil_inv
    rw [List.append_nil] at h1
    generalize hcs : va = vs at h2
    generalize hcs2 : ([AV.arr (S := S) U.int 3 xs] : List (AV S)) = cs at h2
    cases h2 with
    | flat h t => cases hcs2; exact h.elim
    | arr hn r t =>
      cases hcs2
      obtain rfl := t.nil_inv
      match xs, hn, r with
      | [a, b, d], _, r =>
        refine ⟨a, b, d, rfl, ?_⟩
        obtain ⟨v1, vs1, e1, g1, r⟩ := r.head trivial
        obtain ⟨v2, vs2, rfl, g2, r⟩ := r.head trivial
        obtain ⟨v3, vs3, rfl, g3, r⟩ := r.head trivial
        obtain rfl := r.nil_inv
        congr 1
        apply Array.ext'
        rw [h1, hcs, List.append_nil, e1, g1.int, g2.int, g3.int]
    | _ => cases hcs2
  · cases hk

theorem miS_ok : ∀ t m, lookA miS t = some m → MapOk (S := S) Tryd.prog t m := by
  intro t m h
  simp only [miS, lookA] at h
  by_cases ht : 130 = t
  · subst ht
    rw [if_pos rfl] at h
    cases h
    refine ⟨131, _, Tryd.underlying130, Tryd.underlying131, ⟨_, _, i26, rfl, rfl⟩, fun k k' b hb w V V' l l' v v' hv hv' => ?_⟩
    simp only [keq3] at hb
    cases h1 : key3 k with
    | none => rw [h1] at hb; cases hb
    | some xs =>
      rw [h1] at hb
      simp only at hb
      cases h2 : key3 k' with
      | none => rw [h2] at hb; cases hb
      | some ys =>
        rw [h2] at hb; cases hb
        obtain ⟨a, b, c, rfl, rfl⟩ := key3_rep h1 hv
        obtain ⟨a', b', c', rfl, rfl⟩ := key3_rep h2 hv'
        refine ⟨fun e => ?_, ?_, .inr rfl⟩
        · have u3 := Tryd.underlying3
          have a3 := Tryd.isAgg3
          have z3 := Tryd.sizeOf3
          have hc : ∀ (x : Int) (w : World), (Instr.checkKey e 9999 3 (.int .i64 x)).run Tryd.prog w = .ok () w := fun x w => by
            rw [show (9999 : Nat) = 9998 + 1 from rfl, Instr.checkKey, Sem.run_bind, run_underlying u3]; rfl
          rw [show (10000 : Nat) = 9999 + 1 from rfl, Instr.checkKey]
          simp only [Sem.run_bind, run_underlying Tryd.underlying131, Result.andThen_ok]
          simp only [Std.Legacy.Range.forIn_eq_forIn_range', Std.Legacy.Range.size, Nat.sub_zero, Nat.add_sub_cancel, Nat.div_one, List.range'_succ, List.range'_zero, List.forIn_cons, List.forIn_nil]
          go_simp
        · have : (([a, b, c] : List Int) == [a', b', c']) = (a == a' && (b == b' && c == c')) := by
            by_cases h1 : a = a' <;> by_cases h2 : b = b' <;> by_cases h3 : c = c' <;> simp [h1, h2, h3]
          rw [this]
          exact eq131 a b c a' b' c' w
  · rw [if_neg ht] at h; cases h
end Go.Ab.StF

namespace Go.Ab.StF
open Go Go.Ab Go.Proofs

noncomputable abbrev PR : Program := Tryd.prog

/-- The two local closures that share boxes. -/
def locB (f : FuncId) : Bool := match Nat.beq f 117 with
  | true => true
  | false => Nat.beq f 128

noncomputable abbrev pb (gl : Gl) (Y : Type) (B : List (AV S) → Y → (AV S → Y → Prop) → Prop) : Par S Y := stdPar PR gl ti eqtS miS locB B
noncomputable abbrev par (gl : Gl) : Par S Unit := pb gl Unit noB

theorem pb_ok (gl : Gl) (Y : Type) (B : List (AV S) → Y → (AV S → Y → Prop) → Prop) (En : Env Y) (hB : CbOk PR gl En B) : ParOk PR gl (pb gl Y B) En := stdPar_ok eqtS_ok miS_ok ti_ok rfl hB
theorem par_ok (gl : Gl) (En : Env Unit) : ParOk PR gl (par gl) En := pb_ok gl Unit noB En noB_ok

theorem LoopW_ind {σ : Type} {S : Sig} [Cod S] {X : Type} (B : (St S → X → Prop) → St S → X → Prop) (f : σ → St S) (inv : σ → Prop) (μ : σ → Nat) (x : X)
    (step : ∀ s, inv s → ∀ Z : St S → X → Prop, (∀ t, inv t → μ t < μ s → Z (f t) x) → B Z (f s) x) (s : σ) (h : inv s) : LoopW B (f s) x := by
  intro Z hZ
  generalize hn : μ s = n
  induction n using Nat.strongRecOn generalizing s with
  | _ n ih => exact hZ _ _ (step s h Z fun t ht hlt => ih _ (hn ▸ hlt) t ht rfl)

theorem wrap_int {n : Int} (h0 : -9223372036854775808 ≤ n) (h1 : n ≤ 9223372036854775807) : IntKind.i64.wrap n = n := by
  have h : IntKind.i64.wrap n = if n % 18446744073709551616 ≥ 9223372036854775808 then n % 18446744073709551616 - 18446744073709551616 else n % 18446744073709551616 := by
    simp [IntKind.wrap, IntKind.bits, IntKind.signed]
  rw [h]
  split <;> omega

theorem wrap_nat {n : Nat} (h : (n : Int) ≤ 9223372036854775806) : IntKind.i64.wrap ((n : Int) + 1) = ((n + 1 : Nat) : Int) := by
  rw [wrap_int (by omega) (by omega)]; rfl

theorem getI_nat {α : Type} {xs : List α} {i : Nat} (h : i < xs.length) : getI xs (i : Int) = some xs[i] := by
  show xs[i]? = _
  exact List.getElem?_eq_getElem h

/-! ### Whole numbers as bits -/

theorem wrap_lt {n : Nat} (h : n < 2 ^ 63) : IntKind.i64.wrap (n : Int) = n := wrap_int (by omega) (by have : (2:Nat) ^ 63 = 9223372036854775808 := rfl; omega)

theorem ofInt_nat (n : Nat) : BitVec.ofInt 64 (n : Int) = BitVec.ofNat 64 n := by simp

theorem or_nat {a b : Nat} (ha : a < 2 ^ 63) (hb : b < 2 ^ 63) : bitsI .or .i64 a b = ((a ||| b : Nat) : Int) := by
  have h : a ||| b < 2 ^ 63 := Nat.or_lt_two_pow ha hb
  change IntKind.i64.wrap ((BitVec.ofInt 64 (a : Int) ||| BitVec.ofInt 64 (b : Int)).toNat : Int) = _
  rw [ofInt_nat, ofInt_nat, BitVec.toNat_or, BitVec.toNat_ofNat, BitVec.toNat_ofNat, Nat.mod_eq_of_lt (show a < 2 ^ 64 by omega), Nat.mod_eq_of_lt (show b < 2 ^ 64 by omega), wrap_lt h]

theorem and_nat {a b : Nat} (ha : a < 2 ^ 63) (hb : b < 2 ^ 63) : bitsI .and .i64 a b = ((a &&& b : Nat) : Int) := by
  have h : a &&& b < 2 ^ 63 := Nat.and_lt_two_pow _ hb
  change IntKind.i64.wrap ((BitVec.ofInt 64 (a : Int) &&& BitVec.ofInt 64 (b : Int)).toNat : Int) = _
  rw [ofInt_nat, ofInt_nat, BitVec.toNat_and, BitVec.toNat_ofNat, BitVec.toNat_ofNat, Nat.mod_eq_of_lt (show a < 2 ^ 64 by omega), Nat.mod_eq_of_lt (show b < 2 ^ 64 by omega), wrap_lt h]

theorem shl_one {i : Nat} (h : i < 63) : shlI .i64 1 (i : Int) = ((2 ^ i : Nat) : Int) := by
  have h1 : (2 : Nat) ^ i < 2 ^ 63 := Nat.pow_lt_pow_right (by omega) h
  unfold shlI
  rw [show min (i : Int).toNat IntKind.i64.bits = i from by simp [show IntKind.i64.bits = 64 from rfl]; omega, Int.one_mul]
  have : ((2 : Int) ^ i) = ((2 ^ i : Nat) : Int) := by simp
  rw [this, wrap_lt h1]

theorem shr_nat {a i : Nat} (h : i < 64) : shrI .i64 (a : Int) (i : Int) = ((a / 2 ^ i : Nat) : Int) := by
  unfold shrI
  rw [show min (i : Int).toNat IntKind.i64.bits = i from by simp [show IntKind.i64.bits = 64 from rfl]; omega]
  have : ((2 : Int) ^ i) = ((2 ^ i : Nat) : Int) := by simp
  rw [this, Int.fdiv_eq_ediv_of_nonneg _ (Int.natCast_nonneg _)]
  rfl

/-- Is a bit set? -/
theorem bit_eq {a i : Nat} (ha : a < 2 ^ 63) (h : i < 64) : bitsI .and .i64 (shrI .i64 (a : Int) (i : Int)) 1 = if a.testBit i then 1 else 0 := by
  have h1 : a / 2 ^ i < 2 ^ 63 := Nat.lt_of_le_of_lt (Nat.div_le_self _ _) ha
  rw [shr_nat h, show (1 : Int) = ((1 : Nat) : Int) from rfl, and_nat h1 (by decide)]
  rw [Nat.testBit_eq_decide_div_mod_eq, Nat.and_one_is_mod]
  by_cases h2 : a / 2 ^ i % 2 = 1
  · simp [h2]
  · have : a / 2 ^ i % 2 = 0 := by omega
    simp [this]

theorem andNot_nat {a b : Nat} (ha : a < 2 ^ 63) (hb : b < 2 ^ 63) : bitsI .andNot .i64 a b = ((a ^^^ (a &&& b) : Nat) : Int) := by
  have h : a ^^^ (a &&& b) < 2 ^ 63 := Nat.xor_lt_two_pow ha (Nat.and_lt_two_pow _ hb)
  have e : (BitVec.ofNat 64 a &&& ~~~ BitVec.ofNat 64 b).toNat = a ^^^ (a &&& b) := by
    have : (BitVec.ofNat 64 a &&& ~~~ BitVec.ofNat 64 b) = BitVec.ofNat 64 a ^^^ (BitVec.ofNat 64 a &&& BitVec.ofNat 64 b) := by
      apply BitVec.eq_of_getLsbD_eq
      intro i hi
      simp only [BitVec.getLsbD_and, BitVec.getLsbD_not, BitVec.getLsbD_xor, hi, decide_true, Bool.true_and]
      cases (BitVec.ofNat 64 a).getLsbD i <;> cases (BitVec.ofNat 64 b).getLsbD i <;> rfl
    rw [this, BitVec.toNat_xor, BitVec.toNat_and, BitVec.toNat_ofNat, BitVec.toNat_ofNat, Nat.mod_eq_of_lt (show a < 2 ^ 64 by omega), Nat.mod_eq_of_lt (show b < 2 ^ 64 by omega)]
  change IntKind.i64.wrap ((BitVec.ofInt 64 (a : Int) &&& ~~~ BitVec.ofInt 64 (b : Int)).toNat : Int) = _
  rw [ofInt_nat, ofInt_nat, e, wrap_lt h]
end Go.Ab.StF

namespace Go.Ab.StF
open Go Go.Ab Go.Proofs

abbrev vI (n : Int) : AV S := .int .i64 n

/-- Things are handed on; did all go through? -/
def eachR {Y : Type} (B : List (AV S) → Y → (AV S → Y → Prop) → Prop) : List (List (AV S)) → Y → (Bool → Y → Prop) → Prop
  | [], y, K => K true y
  | v :: vs, y, K => B v y fun r y' => match r with
    | .bool b => match b with
      | true => eachR B vs y' K
      | false => K false y'
    | _ => False

def BMono {Y : Type} (B : List (AV S) → Y → (AV S → Y → Prop) → Prop) : Prop := ∀ args y K K', (∀ r y, K r y → K' r y) → B args y K → B args y K'

theorem eachR_mono {Y : Type} {B : List (AV S) → Y → (AV S → Y → Prop) → Prop} (hB : BMono B) : ∀ (vss : List (List (AV S))) (y : Y) (K K' : Bool → Y → Prop), (∀ b y, K b y → K' b y) → eachR B vss y K → eachR B vss y K'
  | [], y, K, K', h, hh => h _ _ hh
  | v :: vss, y, K, K', h, hh => hB _ _ _ _ (fun r y' hr => by
    cases r with
    | bool b => cases b with
      | true => exact eachR_mono hB vss y' K K' h hr
      | false => exact h _ _ hr
    | _ => exact hr.elim) hh

theorem eachR_append {Y : Type} {B : List (AV S) → Y → (AV S → Y → Prop) → Prop} (hB : BMono B) : ∀ (a b : List (List (AV S))) (y : Y) (K : Bool → Y → Prop), eachR B (a ++ b) y K → eachR B a y fun r y' => match r with
    | true => eachR B b y' K
    | false => K false y'
  | [], b, y, K, h => h
  | v :: a, b, y, K, h => hB _ _ _ _ (fun r y' hr => by
    cases r with
    | bool r => cases r with
      | true => exact eachR_append hB a b y' K hr
      | false => exact hr
    | _ => exact hr.elim) h

theorem eachR_of_B {Y : Type} {B : List (AV S) → Y → (AV S → Y → Prop) → Prop} (hB : BMono B) : ∀ (vss : List (List (AV S))) (y : Y) (Q : Y → Prop), eachB B vss y Q → eachR B vss y fun _ y' => Q y'
  | [], y, Q, h => h
  | v :: vss, y, Q, h => hB _ _ _ _ (fun r y' hr => by
    cases r with
    | bool b => cases b with
      | true => exact eachR_of_B hB vss y' Q hr
      | false => exact hr
    | _ => exact hr.elim) h

abbrev Loci := List (ByteArray × Int)
abbrev Copies := List (ByteArray × List Int)

/-- A forme that is looked at, as its cells. -/
abbrev fcs (loci : Loci) (copies : Copies) (sh : List (List Int)) : List (AV S) :=
  [.sl (S := S) U.locus loci none, .sl (S := S) U.copy copies none, .arr (S := S) U.shown 8 sh]

theorem w116 (gl : Gl) (cs : List (AV S)) : fnW (par gl) Tryd.f116 [.ref cs] () fun r _ => r = .clo (.func 127) [] [.ref [.ref cs]] := by
  refine rfl

/-- The sets of loci whose first reading can be StB, in order. -/
def ffirst : List Int → Nat → Nat → List Nat
  | [], _, f => [f]
  | k :: ks, i, f => (if k = 2 then [] else ffirst ks (i + 1) f) ++ (if k = 1 then [] else ffirst ks (i + 1) (f ||| 2 ^ i))

abbrev cfill (cs : List (AV S)) : AV S := .clo (.func 128) [] [.ref [.ref cs], .up 2 [], .up 3 []]
abbrev ups128 (cs : List (AV S)) : List (Nat × AO S) := [(2, .cells [.cb]), (3, .cells [cfill cs])]

theorem uc2 {gl : Gl} {Y : Type} {En : Env Y} {g : FuncId} {a b c d : Int} {r : List (AV S)} {ups : List (Nat × AO S)} {y : Y} {Q : AV S → List (Nat × AO S) → Y → Prop} (e1 : a = b) (e2 : c = d)
    (h : UCalls PR gl En g (vI b :: vI d :: r) ups y Q) : UCalls PR gl En g (vI a :: vI c :: r) ups y Q := by rw [e1, e2]; exact h

theorem op128 : Opens PR 128 := ⟨_, Tryd.func128, rfl, rfl⟩

set_option maxHeartbeats 1000000 in
set_option maxRecDepth 100000 in
theorem u128 (gl : Gl) (Y : Type) (B : List (AV S) → Y → (AV S → Y → Prop) → Prop) (hm : BMono B) (loci : Loci) (copies : Copies) (sh : List (List Int)) (hl : loci.length ≤ 5) : ∀ (m i f : Nat), i + m = loci.length → f < 2 ^ i → ∀ (y : Y) (Q : AV S → List (Nat × AO S) → Y → Prop),
    eachR B ((ffirst ((loci.drop i).map Prod.snd) i f).map fun (n : Nat) => [vI n]) y (fun b y' => Q (.bool b) (ups128 (fcs loci copies sh)) y') → ∀ En : Env Y, CbOk PR gl En B →
    UCalls PR gl En 128 [vI i, vI f, .ref [.ref (fcs loci copies sh)], .up 2 [], .up 3 []] (ups128 (fcs loci copies sh)) y Q := by
  intro m
  induction m with
  | zero =>
    intro i f him hf y Q h En hB
    refine fnU_sound (pb_ok gl Y B En hB) Tryd.func128 ?_
    conv => whnf
    refine bcase_iff.2 ⟨fun _ => ?_, fun h' => ?_⟩
    · conv => whnf
      have hd : loci.drop i = [] := List.drop_eq_nil_of_le (by omega)
      rw [hd] at h
      have h : B [vI f] y fun r y' => match r with
        | .bool b => match b with
          | true => Q (.bool true) (ups128 (fcs loci copies sh)) y'
          | false => Q (.bool false) (ups128 (fcs loci copies sh)) y'
        | _ => False := h
      refine hm _ _ _ _ (fun r y' hr => ?_) h
      cases r with
      | bool b =>
        conv => whnf
        cases b with
        | true => exact hr
        | false => exact hr
      | _ => exact hr.elim
    · have : i = loci.length := by omega
      subst this
      simp at h'
  | succ m ih =>
    intro i f him hf y Q h En hB
    refine fnU_sound (pb_ok gl Y B En hB) Tryd.func128 ?_
    conv => whnf
    refine bcase_iff.2 ⟨fun h' => ?_, fun _ => ?_⟩
    · have : (i : Int) = loci.length := by simpa using h'
      omega
    · have hlt : i < loci.length := by omega
      conv => whnf
      refine ⟨loci[i], getI_nat hlt, ?_⟩
      conv => whnf
      refine ⟨[0, 1, 2, 3, 4, 5, 6, 7, 8, 9, 10, 11, 12, 13, 14, 15, 16, 17, 18, 19, 20, 21, 22, 23], [7, 20], [], [], ⟨4503599627370495, [], []⟩, by decide +kernel, ?_⟩
      conv => whnf
      have hw : IntKind.i64.wrap ((i : Int) + 1) = ((i + 1 : Nat) : Int) := wrap_nat (by omega)
      have hp : 2 ^ i < 2 ^ 63 := Nat.pow_lt_pow_right (by omega) (by omega)
      have hfo : bitsI .or .i64 (f : Int) (shlI .i64 1 (i : Int)) = ((f ||| 2 ^ i : Nat) : Int) := by
        rw [shl_one (by omega)]; exact or_nat (by omega) hp
      have hf1 : f < 2 ^ (i + 1) := by rw [Nat.pow_succ]; omega
      have hf2 : f ||| 2 ^ i < 2 ^ (i + 1) := Nat.or_lt_two_pow hf1 (Nat.pow_lt_pow_right (by omega) (by omega))
      have hd : (loci.drop i).map Prod.snd = loci[i].snd :: (loci.drop (i + 1)).map Prod.snd := by
        rw [List.drop_eq_getElem_cons hlt]; rfl
      rw [hd, ffirst] at h
      refine bcase_iff.2 ⟨fun h1 => ?_, fun h1 => ?_⟩
      · have h1 : loci[i].snd = 2 := by simpa using h1
        conv => whnf
        refine bcase_iff.2 ⟨fun h2 => ?_, fun _ => ?_⟩
        · rw [h1] at h2; simp at h2
        · conv => whnf
          refine ⟨by omega, ?_⟩
          conv => whnf
          refine ⟨fun En' hB' => uc2 hw hfo (ih (i + 1) (f ||| 2 ^ i) (by omega) hf2 y _ ?_ En' hB'), op128⟩
          rw [h1] at h
          refine eachR_mono hm _ _ _ _ (fun b y' hb => ?_) h
          cases b <;> (conv => whnf) <;> exact hb
      · have h1 : loci[i].snd ≠ 2 := by simpa using h1
        conv => whnf
        rw [if_neg h1, List.map_append] at h
        refine ⟨fun En' hB' => uc2 hw rfl (ih (i + 1) f (by omega) hf1 y _ ?_ En' hB'), op128⟩
        refine eachR_mono hm _ _ _ _ (fun b y' hb => ?_) (eachR_append hm _ _ _ _ h)
        cases b with
        | false => conv => whnf
                   exact hb
        | true =>
          conv => whnf
          refine bcase_iff.2 ⟨fun h2 => ?_, fun h2 => ?_⟩
          · have h2 : loci[i].snd = 1 := by simpa using h2
            rw [if_pos h2] at hb
            conv => whnf
            exact hb
          · have h2 : loci[i].snd ≠ 1 := by simpa using h2
            rw [if_neg h2] at hb
            conv => whnf
            refine ⟨by omega, ?_⟩
            conv => whnf
            refine ⟨fun En' hB' => uc2 hw hfo (ih (i + 1) (f ||| 2 ^ i) (by omega) hf2 y' _ ?_ En' hB'), op128⟩
            refine eachR_mono hm _ _ _ _ (fun b y' hb => ?_) hb
            cases b <;> (conv => whnf) <;> exact hb

theorem op127 : Opens PR 127 := ⟨_, Tryd.func127, rfl, rfl⟩

set_option maxHeartbeats 1000000 in
set_option maxRecDepth 100000 in
theorem it127 (gl : Gl) (loci : Loci) (copies : Copies) (sh : List (List Int)) (hl : loci.length ≤ 5) : ICalls PR gl 127 [.ref [.ref (fcs loci copies sh)]] ((ffirst (loci.map Prod.snd) 0 0).map fun (n : Nat) => [vI n]) := by
  refine iter_sound Tryd.func127 (pb gl) (pb_ok gl) fun Y B hm y Q h => ?_
  conv => whnf
  refine ⟨fun En' hB' => u128 gl Y B hm loci copies sh hl loci.length 0 0 (by omega) (by decide) y _ ?_ En' hB', op128⟩
  refine eachR_mono hm _ _ _ _ (fun b y' hb => ?_) (eachR_of_B hm _ _ _ h)
  cases b <;> (conv => whnf) <;> exact hb
end Go.Ab.StF

namespace Go.Ab.StF
open Go Go.Ab Go.Proofs

/-- The loci at which a copy shows a reading, as bits. -/
def maskAt : List Int → Int → Nat → Nat
  | [], _, _ => 0
  | x :: xs, v, k => (if x = v then 2 ^ k else 0) + maskAt xs v (k + 1)

def mask (xs : List Int) (v : Int) : Nat := maskAt xs v 0

/-- Of some loci, those that some others are not among. -/
def less (a b : Nat) : Nat := a ^^^ (a &&& b)

/-- The loci that a copy shows as corrected, and as not corrected, with some first readings. -/
def fixedM (a b f : Nat) : Nat := (a &&& f) ||| less b f
def looseM (a b f : Nat) : Nat := less a f ||| (b &&& f)

theorem less_lt {a b : Nat} (ha : a < 2 ^ 63) : less a b < 2 ^ 63 := Nat.xor_lt_two_pow ha (Nat.lt_of_le_of_lt Nat.and_le_left ha)
theorem fixedM_lt {a b f : Nat} (ha : a < 2 ^ 63) (hb : b < 2 ^ 63) : fixedM a b f < 2 ^ 63 := Nat.or_lt_two_pow (Nat.lt_of_le_of_lt Nat.and_le_left ha) (less_lt hb)
theorem looseM_lt {a b f : Nat} (ha : a < 2 ^ 63) (hb : b < 2 ^ 63) : looseM a b f < 2 ^ 63 := Nat.or_lt_two_pow (less_lt ha) (Nat.lt_of_le_of_lt Nat.and_le_left hb)

theorem getI_some' {α : Type} {xs : List α} {i : Nat} {a : α} (h : xs[i]? = some a) : getI xs (i : Int) = some a := h

set_option maxHeartbeats 1000000 in
set_option maxRecDepth 100000 in
theorem c98 (gl : Gl) (loci : Loci) (copies : Copies) (sh : List (List Int)) (i f a b : Nat) (u : Int) (h : sh[i]? = some [u, (a : Int), (b : Int)]) (hf : f < 2 ^ 63) (ha : a < 2 ^ 63) (hb : b < 2 ^ 63) :
    PCalls PR gl 98 [.ref (fcs loci copies sh), vI i, vI f] fun r => r = vI (fixedM a b f) := by
  refine fnW_sound (par_ok gl) Tryd.func98 ?_
  conv => whnf
  refine ⟨[0, 1, 2, 3, 4, 5, 6, 7, 8, 9, 10, 11, 12, 13, 14, 15, 16, 17, 18, 19], [], [], [], ⟨67108863, [], []⟩, by decide +kernel, ?_⟩
  conv => whnf
  refine ⟨_, getI_some' h, ?_⟩
  conv => whnf
  refine ⟨_, rfl, ?_⟩
  conv => whnf
  refine ⟨_, getI_some' h, ?_⟩
  conv => whnf
  refine ⟨_, rfl, ?_⟩
  conv => whnf
  show vI (bitsI .or .i64 (bitsI .and .i64 (a : Int) (f : Int)) (bitsI .andNot .i64 (b : Int) (f : Int))) = _
  rw [and_nat ha hf, andNot_nat hb hf]
  exact congrArg vI (or_nat (a := a &&& f) (b := less b f) (Nat.and_lt_two_pow _ hf) (less_lt hb))

set_option maxHeartbeats 1000000 in
set_option maxRecDepth 100000 in
theorem c99 (gl : Gl) (loci : Loci) (copies : Copies) (sh : List (List Int)) (i f a b : Nat) (u : Int) (h : sh[i]? = some [u, (a : Int), (b : Int)]) (hf : f < 2 ^ 63) (ha : a < 2 ^ 63) (hb : b < 2 ^ 63) :
    PCalls PR gl 99 [.ref (fcs loci copies sh), vI i, vI f] fun r => r = vI (looseM a b f) := by
  refine fnW_sound (par_ok gl) Tryd.func99 ?_
  conv => whnf
  refine ⟨[0, 1, 2, 3, 4, 5, 6, 7, 8, 9, 10, 11, 12, 13, 14, 15, 16, 17, 18, 19], [], [], [], ⟨67108863, [], []⟩, by decide +kernel, ?_⟩
  conv => whnf
  refine ⟨_, getI_some' h, ?_⟩
  conv => whnf
  refine ⟨_, rfl, ?_⟩
  conv => whnf
  refine ⟨_, getI_some' h, ?_⟩
  conv => whnf
  refine ⟨_, rfl, ?_⟩
  conv => whnf
  show vI (bitsI .or .i64 (bitsI .andNot .i64 (a : Int) (f : Int)) (bitsI .and .i64 (b : Int) (f : Int))) = _
  rw [and_nat hb hf, andNot_nat ha hf]
  exact congrArg vI (or_nat (a := less a f) (b := b &&& f) (less_lt ha) (Nat.and_lt_two_pow _ hf))

set_option maxHeartbeats 1000000 in
set_option maxRecDepth 100000 in
theorem c77 (gl : Gl) (loci : Loci) (copies : Copies) (sh : List (List Int)) (hc : copies.length < 63) : PCalls PR gl 77 [.ref (fcs loci copies sh)] fun r => r = vI (2 ^ copies.length - 1 : Nat) := by
  refine fnW_sound (par_ok gl) Tryd.func77 ?_
  conv => whnf
  refine ⟨by omega, ?_⟩
  conv => whnf
  show vI (IntKind.i64.wrap (shlI .i64 1 (copies.length : Int) - 1)) = _
  have h1 : 2 ^ copies.length < 2 ^ 63 := Nat.pow_lt_pow_right (by omega) hc
  have h2 : 0 < 2 ^ copies.length := Nat.two_pow_pos _
  rw [shl_one hc, show ((2 ^ copies.length : Nat) : Int) - 1 = ((2 ^ copies.length - 1 : Nat) : Int) by omega, wrap_lt (by omega)]

/-! ### Orders -/

theorem op98 : Opens PR 98 := ⟨_, Tryd.func98, rfl, rfl⟩
theorem op99 : Opens PR 99 := ⟨_, Tryd.func99, rfl, rfl⟩
theorem op116 : Opens PR 116 := ⟨_, Tryd.func116, rfl, rfl⟩
theorem c116 (gl : Gl) (cs : List (AV S)) : PCalls PR gl 116 [.ref cs] fun r => r = .clo (.func 127) [] [.ref [.ref cs]] := fnW_sound (par_ok gl) Tryd.func116 (w116 gl cs)

/-- A call by contract, as the evaluator asks for it. -/
theorem byC {gl : Gl} {f : FuncId} {args : List (AV S)} {v : AV S} {Q : AV S → Prop} (h : PCalls PR gl f args fun r => r = v) (ho : Opens PR f) (hQ : Q v) : PCalls PR gl f args Q ∧ Opens PR f ∧ ∃ r, Q r :=
  ⟨h.mono fun r e => by rw [e]; exact hQ, ho, v, hQ⟩
end Go.Ab.StF

namespace Go.Ab.StF
open Go Go.Ab Go.Proofs

def getA : List (Nat × AV S) → Nat → AV S
  | [], _ => .undef
  | (k, v) :: l, n => match Nat.beq k n with
    | true => v
    | false => getA l n

/-- So many slots, of which some hold something. -/
def mkA (l : List (Nat × AV S)) : Nat → Nat → List (AV S)
  | 0, _ => []
  | n + 1, i => getA l i :: mkA l n (i + 1)

abbrev mk (n : Nat) (l : List (Nat × AV S)) : List (AV S) := mkA l n 0

abbrev natsV (l : List Nat) : List Int := l.map fun (n : Nat) => (n : Int)

theorem getI_nats {l : List Nat} {j : Nat} (h : j < l.length) : getI (natsV l) (j : Int) = some ((l[j] : Nat) : Int) := by
  show (natsV l)[j]? = _
  simp [h]

/-- The least and the greatest number of corrections. -/
def stepsGo (fx ls : Nat) : List Nat → Nat → Nat → Nat → Nat × Nat
  | [], _, lo, hi => (lo, hi)
  | k :: ks, n, lo, hi => if fx.testBit k then stepsGo fx ls ks (n + 1) (n + 1) hi else if ls.testBit k then stepsGo fx ls ks (n + 1) lo (min hi n) else stepsGo fx ls ks (n + 1) lo hi

theorem bitB {a i : Nat} (ha : a < 2 ^ 63) (h : i < 64) : (bitsI .and .i64 (shrI .i64 (a : Int) (i : Int)) 1 == 1) = a.testBit i := by
  rw [bit_eq ha h]
  cases a.testBit i <;> rfl

def fr73 (loci : Loci) (copies : Copies) (sh : List (List Int)) (i f : Nat) (os : List Nat) (xs : List Int) (m : Int) (j : Nat) (lo hi : Nat) : St S :=
  { tmps := mk 61 [(0, .ref (fcs loci copies sh)), (1, vI i), (5, .own 5 []), (6, .own 6 []), (7, .own 7 []), (24, .sl (S := S) U.int xs none), (25, vI m), (26, vI j)]
    seg := [(5, .frz [vI f, .arr (S := S) U.int 5 (natsV os)]), (6, .cells [vI 0, vI 0]), (7, .cells [vI lo, vI hi])]
    up := [] }

set_option maxHeartbeats 1000000 in
set_option maxRecDepth 100000 in
theorem c73 (gl : Gl) (loci : Loci) (copies : Copies) (sh : List (List Int)) (i f a b : Nat) (u : Int) (os : List Nat) (h : sh[i]? = some [u, (a : Int), (b : Int)]) (hf : f < 2 ^ 63) (ha : a < 2 ^ 63) (hb : b < 2 ^ 63)
    (hl : loci.length ≤ 5) (ho : os.length = 5) (hos : ∀ k ∈ os, k < 64) :
    PCalls PR gl 73 [.ref (fcs loci copies sh), vI i, .agg [vI f, .arr (S := S) U.int 5 (natsV os)]] fun r =>
      r = .agg [vI (stepsGo (fixedM a b f) (looseM a b f) (os.take loci.length) 0 0 loci.length).1, vI (stepsGo (fixedM a b f) (looseM a b f) (os.take loci.length) 0 0 loci.length).2] := by
  refine fnW_sound (par_ok gl) Tryd.func73 ?_
  conv => whnf
  refine ⟨by omega, ?_⟩
  conv => whnf
  refine ⟨Nat.zero_le _, by omega, ?_⟩
  conv => whnf
  refine ⟨⟨117440739, [], []⟩, ?_⟩
  refine LoopW_ind _ (fun s : List Int × Int × Nat × Nat × Nat => fr73 loci copies sh i f os s.1 s.2.1 s.2.2.1 s.2.2.2.1 s.2.2.2.2)
    (fun s => s.1 = natsV (os.take loci.length) ∧ s.2.1 = loci.length ∧ s.2.2.1 ≤ loci.length ∧
      stepsGo (fixedM a b f) (looseM a b f) ((os.take loci.length).drop s.2.2.1) s.2.2.1 s.2.2.2.1 s.2.2.2.2 = stepsGo (fixedM a b f) (looseM a b f) (os.take loci.length) 0 0 loci.length)
    (fun s => loci.length - s.2.2.1) () ?_ (_, _, 0, 0, loci.length) ⟨?_, ?_, Nat.zero_le _, rfl⟩
  · rintro ⟨xs, m, j, lo, hi⟩ ⟨rfl, rfl, hj, hgo⟩ Z hZ
    simp only at hj hgo
    have htl : (os.take loci.length).length = loci.length := by simp; omega
    conv => whnf
    refine bcase_iff.2 ⟨fun h1 => ?_, fun h1 => ?_⟩
    · have hlt : j < loci.length := by have := of_decide_eq_true h1; simp only at this; omega
      have hlt' : j < (os.take loci.length).length := by omega
      have hk : (os.take loci.length)[j] < 64 := hos _ (List.mem_of_mem_take (List.getElem_mem hlt'))
      rw [List.drop_eq_getElem_cons hlt', stepsGo] at hgo
      generalize hkk : (os.take loci.length)[j] = k at hk hgo
      conv => whnf
      refine ⟨(k : Int), (getI_nats hlt').trans (by rw [hkk]), ?_⟩
      conv => whnf
      refine byC (c98 gl loci copies sh i f a b u h hf ha hb) op98 ?_
      conv => whnf
      refine ⟨by omega, ?_⟩
      conv => whnf
      refine bcase_iff.2 ⟨fun h2 => ?_, fun h2 => ?_⟩
      · have h2 : (fixedM a b f).testBit k = true := by rw [← bitB (fixedM_lt ha hb) hk]; exact h2
        rw [if_pos h2] at hgo
        conv => whnf
        refine ⟨⟨117440739, [], []⟩, ?_⟩
        have := hZ (natsV (os.take loci.length), (loci.length : Int), j + 1, j + 1, hi) ⟨rfl, rfl, hlt, hgo⟩ (by simp only; omega)
        have hw : IntKind.i64.wrap ((j : Int) + 1) = ((j + 1 : Nat) : Int) := wrap_nat (by omega)
        unfold fr73 at this
        simp only at this
        rw [← hw] at this
        exact this
      · have h2 : (fixedM a b f).testBit k = false := by rw [← bitB (fixedM_lt ha hb) hk]; exact h2
        rw [h2] at hgo
        conv => whnf
        refine byC (c99 gl loci copies sh i f a b u h hf ha hb) op99 ?_
        conv => whnf
        refine ⟨by omega, ?_⟩
        conv => whnf
        refine bcase_iff.2 ⟨fun h3 => ?_, fun h3 => ?_⟩
        · have h3 : (looseM a b f).testBit k = true := by rw [← bitB (looseM_lt ha hb) hk]; exact h3
          simp only [Bool.false_eq_true, if_false, h3, if_true] at hgo
          conv => whnf
          refine ⟨⟨117440739, [], []⟩, ?_⟩
          have := hZ (natsV (os.take loci.length), (loci.length : Int), j + 1, lo, min hi j) ⟨rfl, rfl, hlt, hgo⟩ (by simp only; omega)
          have hw : IntKind.i64.wrap ((j : Int) + 1) = ((j + 1 : Nat) : Int) := wrap_nat (by omega)
          have hm : (if (j : Int) < (hi : Int) then (j : Int) else hi) = ((min hi j : Nat) : Int) := by split <;> omega
          unfold fr73 at this
          simp only at this
          rw [← hw, ← hm] at this
          exact this
        · have h3 : (looseM a b f).testBit k = false := by rw [← bitB (looseM_lt ha hb) hk]; exact h3
          simp only [Bool.false_eq_true, if_false, h3] at hgo
          conv => whnf
          refine ⟨⟨117440739, [], []⟩, ?_⟩
          have := hZ (natsV (os.take loci.length), (loci.length : Int), j + 1, lo, hi) ⟨rfl, rfl, hlt, hgo⟩ (by simp only; omega)
          have hw : IntKind.i64.wrap ((j : Int) + 1) = ((j + 1 : Nat) : Int) := wrap_nat (by omega)
          unfold fr73 at this
          simp only at this
          rw [← hw] at this
          exact this
    · have hge : j = loci.length := by have := of_decide_eq_false h1; simp only at this; omega
      rw [List.drop_eq_nil_of_le (by omega), stepsGo] at hgo
      conv => whnf
      rw [← hgo]
  · show List.drop 0 (List.take (loci.length : Int).toNat (natsV os)) = _
    simp
  · show ((List.drop 0 (List.take (loci.length : Int).toNat (natsV os))).length : Int) = _
    simp; omega
end Go.Ab.StF

namespace Go.Ab.StF
open Go Go.Ab Go.Proofs

theorem LoopW_indX {σ : Type} {S : Sig} [Cod S] {X : Type} (B : (St S → X → Prop) → St S → X → Prop) (f : σ → St S) (g : σ → X) (inv : σ → Prop) (μ : σ → Nat)
    (step : ∀ s, inv s → ∀ Z : St S → X → Prop, (∀ t, inv t → μ t < μ s → Z (f t) (g t)) → B Z (f s) (g s)) (s : σ) (h : inv s) : LoopW B (f s) (g s) := by
  intro Z hZ
  generalize hn : μ s = n
  induction n using Nat.strongRecOn generalizing s with
  | _ n ih => exact hZ _ _ (step s h Z fun t ht hlt => ih _ (hn ▸ hlt) t ht rfl)

/-- The orders of corrections that begin so, and in which each locus comes behind all that have to be ahead of it. -/
def ford (n : Nat) (ah : List Nat) : Nat → Nat → List Nat → List (List Nat)
  | 0, _, path => [path]
  | m + 1, d, path => (List.range n).flatMap fun k => if d.testBit k || less (ah.getD k 0) d != 0 then [] else ford n ah m (d ||| 2 ^ k) (path ++ [k])

abbrev pad5 (l : List Nat) : List Nat := l ++ List.replicate (5 - l.length) 0
abbrev ordV (f : Nat) (os : List Nat) : AV S := .agg [vI f, .arr (S := S) U.int 5 (natsV os)]

abbrev cfill2 (cs : List (AV S)) : AV S := .clo (.func 117) [] [.ref [.ref cs], .up 3 [], .up 5 [], .up 6 [], .up 9 []]
abbrev ups117' (cs : List (AV S)) (f : Nat) (xs : List Int) (ah : List Nat) : List (Nat × AO S) :=
  [(3, .cells [.cb]), (5, .cells [vI f, .arr (S := S) U.int 5 xs]), (6, .cells [.arr (S := S) U.int 5 (natsV ah)]), (9, .cells [cfill2 cs])]

abbrev ups117 (cs : List (AV S)) (f : Nat) (cur ah : List Nat) : List (Nat × AO S) := ups117' cs f (natsV cur) ah

theorem uc3 {gl : Gl} {Y : Type} {En : Env Y} {g : FuncId} {args : List (AV S)} {ups ups' : List (Nat × AO S)} {y : Y} {Q : AV S → List (Nat × AO S) → Y → Prop} (e : ups = ups')
    (h : UCalls PR gl En g args ups' y Q) : UCalls PR gl En g args ups y Q := by rw [e]; exact h

theorem op117 : Opens PR 117 := ⟨_, Tryd.func117, rfl, rfl⟩

/-- What stands in an order while it is made. -/
structure Cur (n t : Nat) (path cur : List Nat) : Prop where
  len : cur.length = 5
  tk : cur.take t = path
  z : ∀ j, n ≤ j → j < 5 → cur[j]? = some 0

theorem Cur.set {n t k : Nat} {path cur : List Nat} (h : Cur n t path cur) (ht : t < n) (hn : n ≤ 5) : Cur n (t + 1) (path ++ [k]) (cur.set t k) := by
  refine ⟨by simp [h.len], ?_, fun j hj hj5 => ?_⟩
  · rw [List.take_set, List.take_succ_eq_append_getElem (by rw [h.len]; omega), h.tk]
    have hp : path.length = t := by rw [← h.tk, List.length_take, h.len]; omega
    rw [List.set_append_right _ _ (by omega)]
    simp [hp]
  · rw [List.getElem?_set_ne (by omega)]
    exact h.z j hj hj5

theorem Cur.back {n t k : Nat} {path cur : List Nat} (h : Cur n (t + 1) (path ++ [k]) cur) (hp : path.length = t) : Cur n t path cur :=
  ⟨h.len, by have := congrArg (List.take t) h.tk; rw [List.take_take, Nat.min_eq_left (Nat.le_succ t), List.take_append_of_le_length (by omega)] at this; rw [this, List.take_of_length_le (by omega)], h.z⟩

theorem Cur.done {n : Nat} {path cur : List Nat} (h : Cur n n path cur) (hn : n ≤ 5) : cur = pad5 path := by
  have hp : path.length = n := by rw [← h.tk, List.length_take, h.len]; omega
  apply List.ext_getElem?
  intro j
  rcases Nat.lt_or_ge j n with hj | hj
  · rw [List.getElem?_append_left (by omega), ← h.tk, List.getElem?_take, if_pos hj]
  · rw [List.getElem?_append_right (by omega)]
    rcases Nat.lt_or_ge j 5 with hj5 | hj5
    · rw [h.z j hj hj5, List.getElem?_replicate, if_pos (by omega)]
    · rw [List.getElem?_eq_none (by rw [h.len]; exact hj5), List.getElem?_eq_none (by simp; omega)]

def fr117 (cs : List (AV S)) (t d n k : Nat) (f : Nat) (cur ah : List Nat) : St S :=
  { tmps := mk 58 [(0, vI t), (1, vI d), (2, .ref [.ref cs]), (3, .up 3 []), (4, .up 5 []), (5, .up 6 []), (6, .up 9 []), (27, vI n), (28, vI k)]
    seg := []
    up := ups117 cs f cur ah }

set_option maxHeartbeats 1000000 in
set_option maxRecDepth 100000 in
theorem u117 (gl : Gl) (Y : Type) (B : List (AV S) → Y → (AV S → Y → Prop) → Prop) (hm : BMono B) (loci : Loci) (copies : Copies) (sh : List (List Int)) (hl : loci.length ≤ 5) (f : Nat) (ah : List Nat) (hah : ah.length = 5) (hah2 : ∀ a ∈ ah, a < 2 ^ 63) :
    ∀ (m t d : Nat) (path cur : List Nat), t + m = loci.length → path.length = t → d < 2 ^ loci.length → Cur loci.length t path cur → ∀ (y : Y) (Q : AV S → List (Nat × AO S) → Y → Prop),
    eachR B ((ford loci.length ah m d path).map fun os => [ordV f (pad5 os)]) y (fun b y' => ∀ cur', Cur loci.length t path cur' → Q (.bool b) (ups117 (fcs loci copies sh) f cur' ah) y') → ∀ En : Env Y, CbOk PR gl En B →
    UCalls PR gl En 117 [vI t, vI d, .ref [.ref (fcs loci copies sh)], .up 3 [], .up 5 [], .up 6 [], .up 9 []] (ups117 (fcs loci copies sh) f cur ah) y Q := by
  intro m
  induction m with
  | zero =>
    intro t d path cur htm hp hd hc y Q h En hB
    refine fnU_sound (pb_ok gl Y B En hB) Tryd.func117 ?_
    conv => whnf
    refine bcase_iff.2 ⟨fun _ => ?_, fun h' => ?_⟩
    · conv => whnf
      have ht : t = loci.length := by omega
      subst ht
      have h : B [ordV f (pad5 path)] y fun r y' => match r with
        | .bool b => match b with
          | true => ∀ cur', Cur loci.length loci.length path cur' → Q (.bool true) (ups117 (fcs loci copies sh) f cur' ah) y'
          | false => ∀ cur', Cur loci.length loci.length path cur' → Q (.bool false) (ups117 (fcs loci copies sh) f cur' ah) y'
        | _ => False := h
      rw [← hc.done hl] at h
      refine hm _ _ _ _ (fun r y' hr => ?_) h
      cases r with
      | bool b =>
        conv => whnf
        cases b with
        | true => exact hr _ hc
        | false => exact hr _ hc
      | _ => exact hr.elim
    · have : t = loci.length := by omega
      subst this
      simp at h'
  | succ m ih =>
    intro t d path cur htm hp hd hc y Q h En hB
    refine fnU_sound (pb_ok gl Y B En hB) Tryd.func117 ?_
    conv => whnf
    refine bcase_iff.2 ⟨fun h' => ?_, fun _ => ?_⟩
    · have : (t : Int) = loci.length := by simpa using h'
      omega
    · conv => whnf
      refine ⟨⟨402653311, [], []⟩, ?_⟩
      refine LoopW_indX _ (fun s : Nat × List Nat × Y => fr117 (fcs loci copies sh) t d loci.length s.1 f s.2.1 ah) (fun s => s.2.2)
        (fun s => s.1 ≤ loci.length ∧ Cur loci.length t path s.2.1 ∧
          eachR B (((List.range' s.1 (loci.length - s.1)).flatMap fun k => if d.testBit k || less (ah.getD k 0) d != 0 then [] else ford loci.length ah m (d ||| 2 ^ k) (path ++ [k])).map fun os => [ordV f (pad5 os)]) s.2.2
            (fun b y' => ∀ cur', Cur loci.length t path cur' → Q (.bool b) (ups117 (fcs loci copies sh) f cur' ah) y'))
        (fun s => loci.length - s.1) ?_ (0, cur, y) ⟨Nat.zero_le _, hc, by rw [← List.range_eq_range']; exact h⟩
      rintro ⟨k, cur, y⟩ ⟨hk, hc, h⟩ Z hZ
      simp only at hk hc h
      conv => whnf
      refine bcase_iff.2 ⟨fun h1 => ?_, fun h1 => ?_⟩
      · have hlt : k < loci.length := by have := of_decide_eq_true h1; simp only at this; omega
        have hdl : d < 2 ^ 63 := Nat.lt_of_lt_of_le hd (Nat.pow_le_pow_right (by omega) (by omega))
        rw [show loci.length - k = (loci.length - (k + 1)) + 1 from by omega, List.range'_succ, List.flatMap_cons, List.map_append] at h
        have hw : IntKind.i64.wrap ((k : Int) + 1) = ((k + 1 : Nat) : Int) := wrap_nat (by omega)
        have hakk : k < ah.length := by omega
        -- the next round
        have hnext : ∀ (cur' : List Nat) (y' : Y), Cur loci.length t path cur' → eachR B (((List.range' (k + 1) (loci.length - (k + 1))).flatMap fun k => if d.testBit k || less (ah.getD k 0) d != 0 then [] else ford loci.length ah m (d ||| 2 ^ k) (path ++ [k])).map fun os => [ordV f (pad5 os)]) y'
            (fun b y' => ∀ cur', Cur loci.length t path cur' → Q (.bool b) (ups117 (fcs loci copies sh) f cur' ah) y') → Z (fr117 (fcs loci copies sh) t d loci.length (k + 1) f cur' ah) y' := fun cur' y' hc' h' =>
          hZ (k + 1, cur', y') ⟨hlt, hc', h'⟩ (by simp only; omega)
        -- a locus that is passed over
        have hpass : (d.testBit k || less (ah.getD k 0) d != 0) = true → Z (fr117 (fcs loci copies sh) t d loci.length (k + 1) f cur ah) y := fun hb => by
          rw [hb] at h
          exact hnext cur y hc h
        have hbits : (bitsI .and .i64 (shrI .i64 (d : Int) (k : Int)) 1 == 1) = d.testBit k := bitB hdl (by omega)
        conv => whnf
        refine ⟨Int.natCast_nonneg _, ?_⟩
        conv => whnf
        refine bcase_iff.2 ⟨fun h2 => ?_, fun h2 => ?_⟩
        · have h2 : d.testBit k = true := by rw [← hbits]; exact h2
          conv => whnf
          refine ⟨⟨402653311, [], []⟩, ?_⟩
          have := hpass (by rw [h2]; rfl)
          unfold fr117 at this
          rw [← hw] at this
          exact this
        · have h2 : d.testBit k = false := by rw [← hbits]; exact h2
          have hak : getI (natsV ah) (k : Int) = some ((ah[k] : Nat) : Int) := getI_nats hakk
          have hal : ah[k] < 2 ^ 63 := hah2 _ (List.getElem_mem hakk)
          have hgd : ah.getD k 0 = ah[k] := by simp [List.getD_eq_getElem?_getD, hakk]
          conv => whnf
          refine ⟨Int.natCast_nonneg _, by simp only; omega, ?_⟩
          conv => whnf
          refine ⟨_, hak, ?_⟩
          conv => whnf
          have hne : (bitsI .andNot .i64 ((ah[k] : Nat) : Int) (d : Int) != 0) = (less (ah.getD k 0) d != 0) := by
            rw [andNot_nat hal hdl, hgd]
            show (((less ah[k] d : Nat) : Int) != 0) = (less ah[k] d != 0)
            cases less ah[k] d <;> rfl
          refine bcase_iff.2 ⟨fun h3 => ?_, fun h3 => ?_⟩
          · have h3 : (less (ah.getD k 0) d != 0) = true := by rw [← hne]; exact h3
            conv => whnf
            refine ⟨⟨402653311, [], []⟩, ?_⟩
            have := hpass (by rw [h3, Bool.or_true])
            unfold fr117 at this
            rw [← hw] at this
            exact this
          · have h3 : (less (ah.getD k 0) d != 0) = false := by rw [← hne]; exact h3
            rw [h2, h3] at h
            simp only [Bool.or_self, Bool.false_eq_true, if_false] at h
            have htn : t < loci.length := by omega
            have hct : t < cur.length := by rw [hc.len]; omega
            have hw1 : IntKind.i64.wrap ((t : Int) + 1) = ((t + 1 : Nat) : Int) := wrap_nat (by omega)
            have hp2 : 2 ^ k < 2 ^ 63 := Nat.pow_lt_pow_right (by omega) (by omega)
            have hw2 : bitsI .or .i64 (d : Int) (shlI .i64 1 (k : Int)) = ((d ||| 2 ^ k : Nat) : Int) := by
              rw [shl_one (by omega)]; exact or_nat hdl hp2
            conv => whnf
            refine ⟨Int.natCast_nonneg _, by omega, ?_⟩
            conv => whnf
            refine ⟨_, getI_nats hct, ?_⟩
            conv => whnf
            refine ⟨_, rfl, ?_⟩
            conv => whnf
            refine ⟨[0, 1, 2, 3, 4, 5, 6, 7, 8], [7], [], [], ⟨288230376151711743, [], []⟩, by decide +kernel, ?_⟩
            conv => whnf
            refine ⟨Int.natCast_nonneg _, ?_⟩
            conv => whnf
            have hup : setI (natsV cur) (t : Int) (k : Int) = natsV (cur.set t k) := by
              show (natsV cur).set t k = _
              simp [natsV, List.map_set]
            have hd2 : d ||| 2 ^ k < 2 ^ loci.length := Nat.or_lt_two_pow hd (Nat.pow_lt_pow_right (by omega) hlt)
            refine ⟨fun En' hB' => uc2 hw1 hw2 (uc3 (congrArg (fun xs => ups117' (fcs loci copies sh) f xs ah) hup) (ih (t + 1) (d ||| 2 ^ k) (path ++ [k]) (cur.set t k) (by omega) (by simp [hp]) hd2 (hc.set htn hl) y _ ?_ En' hB')), op117⟩
            refine eachR_mono hm _ _ _ _ (fun b y' hb cur' hc' => ?_) (eachR_append hm _ _ _ _ h)
            cases b with
            | false =>
              conv => whnf
              exact hb cur' (hc'.back hp)
            | true =>
              conv => whnf
              refine ⟨⟨402653311, [], []⟩, ?_⟩
              have := hnext cur' y' (hc'.back hp) hb
              unfold fr117 at this
              rw [← hw] at this
              exact this
      · have hge : k = loci.length := by have := of_decide_eq_false h1; simp only at this; omega
        subst hge
        simp only [Nat.sub_self, List.range'_zero, List.flatMap_nil, List.map_nil] at h
        have h : ∀ cur', Cur loci.length t path cur' → Q (.bool true) (ups117 (fcs loci copies sh) f cur' ah) y := h
        conv => whnf
        exact h cur hc
end Go.Ab.StF

namespace Go.Ab.StF
open Go Go.Ab Go.Proofs

/-- The loci that have to be corrected before one, by the first copies of some, and their masks. -/
def aheadUp (ms : List (Nat × Nat)) (set f : Nat) : Nat → Nat → Nat
  | 0, _ => 0
  | i + 1, k => if set.testBit i then (let p := ms.getD i (0, 0); if (looseM p.1 p.2 f).testBit k then aheadUp ms set f i k ||| fixedM p.1 p.2 f else aheadUp ms set f i k) else aheadUp ms set f i k

/-- All of them, for each locus. -/
def aheadL (n : Nat) (ms : List (Nat × Nat)) (set f m : Nat) : List Nat := (List.range 5).map fun k => if k < n then aheadUp ms set f m k else 0

/-- All orders with which a set of copies agrees. -/
def ordersL (firsts : List Int) (n : Nat) (ms : List (Nat × Nat)) (set : Nat) : List (Nat × List Nat) :=
  (ffirst firsts 0 0).flatMap fun f => (ford n (aheadL n ms set f ms.length) n 0 []).map fun os => (f, pad5 os)

/-- The cells of a forme agree with its masks. -/
structure Masks (copies : Copies) (sh : List (List Int)) (ms : List (Nat × Nat)) : Prop where
  len : ms.length = copies.length
  sh : ∀ i, i < ms.length → ∃ u : Int, sh[i]? = some [u, ((ms.getD i (0, 0)).1 : Int), ((ms.getD i (0, 0)).2 : Int)]
  lt : ∀ i, (ms.getD i (0, 0)).1 < 2 ^ 63 ∧ (ms.getD i (0, 0)).2 < 2 ^ 63

theorem aheadUp_lt {copies : Copies} {sh : List (List Int)} {ms : List (Nat × Nat)} (h : Masks copies sh ms) (set f : Nat) : ∀ i k, aheadUp ms set f i k < 2 ^ 63
  | 0, k => Nat.two_pow_pos _
  | i + 1, k => by
    simp only [aheadUp]
    split
    · split
      · exact Nat.or_lt_two_pow (aheadUp_lt h set f i k) (fixedM_lt (h.lt i).1 (h.lt i).2)
      · exact aheadUp_lt h set f i k
    · exact aheadUp_lt h set f i k

theorem op115 : Opens PR 115 := ⟨_, Tryd.func115, rfl, rfl⟩

/-- While one copy is looked at. -/
def mixL (n : Nat) (ms : List (Nat × Nat)) (set f i k : Nat) : List Nat := (List.range 5).map fun j => if j < n then (if j < k then aheadUp ms set f (i + 1) j else aheadUp ms set f i j) else 0

theorem mixL_zero {n : Nat} {ms : List (Nat × Nat)} {set f i : Nat} : mixL n ms set f i 0 = aheadL n ms set f i := by simp [mixL, aheadL]
theorem mixL_full {n : Nat} {ms : List (Nat × Nat)} {set f i k : Nat} (h : n ≤ k) : mixL n ms set f i k = aheadL n ms set f (i + 1) := by
  simp only [mixL, aheadL]
  apply List.map_congr_left
  intro j _
  by_cases hj : j < n
  · simp [hj, show j < k from by omega]
  · simp [hj]
theorem aheadL_skip {n : Nat} {ms : List (Nat × Nat)} {set f i : Nat} (h : set.testBit i = false) : aheadL n ms set f (i + 1) = aheadL n ms set f i := by
  simp [aheadL, aheadUp, h]
theorem mixL_len {n : Nat} {ms : List (Nat × Nat)} {set f i k : Nat} : (mixL n ms set f i k).length = 5 := by simp [mixL]
theorem mixL_get {n : Nat} {ms : List (Nat × Nat)} {set f i k : Nat} (hk : k < n) (hn : n ≤ 5) : (mixL n ms set f i k)[k]? = some (aheadUp ms set f i k) := by
  simp [mixL, List.getElem?_map, List.getElem?_range (show k < 5 by omega), hk]
theorem mixL_next {n : Nat} {ms : List (Nat × Nat)} {set f i k v : Nat} (hk : k < n) (hn : n ≤ 5) (hv : v = aheadUp ms set f (i + 1) k) : (mixL n ms set f i k).set k v = mixL n ms set f i (k + 1) := by
  apply List.ext_getElem?
  intro j
  rw [List.getElem?_set]
  by_cases hj : k = j
  · subst hj
    simp only [if_true, mixL_len, show k < 5 from by omega]
    simp [mixL, List.getElem?_map, List.getElem?_range (show k < 5 by omega), hk, hv]
  · rw [if_neg hj]
    simp only [mixL, List.getElem?_map]
    cases hr : (List.range 5)[j]? with
    | none => rfl
    | some a =>
      obtain ⟨ha, rfl⟩ := List.getElem?_eq_some_iff.1 hr
      simp only [List.getElem_range, Option.map_some]
      by_cases h1 : j < n
      · by_cases h2 : j < k
        · simp [h1, h2, show j < k + 1 from by omega]
        · simp [h1, h2, show ¬ j < k + 1 from by omega]
      · simp [h1]
theorem mixL_same {n : Nat} {ms : List (Nat × Nat)} {set f i k : Nat} (hk : k < n) (hn : n ≤ 5) (hv : aheadUp ms set f (i + 1) k = aheadUp ms set f i k) : mixL n ms set f i k = mixL n ms set f i (k + 1) := by
  rw [← mixL_next hk hn rfl, hv]
  apply List.ext_getElem?
  intro j
  rw [List.getElem?_set]
  by_cases hj : k = j
  · subst hj
    simp only [if_true, mixL_len, show k < 5 from by omega]
    rw [mixL_get hk hn]
  · rw [if_neg hj]

theorem ffirst_lt : ∀ (ks : List Int) (i f x : Nat), f < 2 ^ i → x ∈ ffirst ks i f → x < 2 ^ (i + ks.length)
  | [], i, f, x, hf, hx => by simp only [ffirst, List.mem_singleton] at hx; subst hx; simpa using hf
  | k :: ks, i, f, x, hf, hx => by
    simp only [ffirst, List.mem_append] at hx
    have hf1 : f < 2 ^ (i + 1) := by rw [Nat.pow_succ]; omega
    have hf2 : f ||| 2 ^ i < 2 ^ (i + 1) := Nat.or_lt_two_pow hf1 (Nat.pow_lt_pow_right (by omega) (by omega))
    have e : i + 1 + ks.length = i + (k :: ks).length := by simp; omega
    rcases hx with hx | hx
    · split at hx
      · simp at hx
      · rw [← e]; exact ffirst_lt ks (i + 1) f x hf1 hx
    · split at hx
      · simp at hx
      · rw [← e]; exact ffirst_lt ks (i + 1) _ x hf2 hx

theorem eachW_ind {A : Type} {X : Type} {pin params : List Nat} {Bd : (AExit → St S → X → Prop) → St S → X → Prop} {Q : AExit → St S → X → Prop} (enc : A → List (AV S)) (ts : List (AV S)) (sg up : List (Nat × AO S)) (R : List A → X → Prop)
    (hnil : ∀ x, R [] x → Q .normal { tmps := ts, seg := sg, up := up } x)
    (hcons : ∀ a l x, R (a :: l) x → ∀ Z : List (Nat × AO S) → List (Nat × AO S) → X → Prop, (∀ x', R l x' → Z sg up x') → eachW.setsK params (enc a) ts fun ts' => Bd (fun e st' x' => match e with
      | .normal => ∃ m, wkP pin m st' fun s => match (boxesOf s.seg []).all (memb pin) with
        | true => Z s.seg s.up x'
        | false => False
      | e => Q e { tmps := ts, seg := st'.seg, up := st'.up } x') { tmps := ts', seg := sg, up := up } x) :
    ∀ (l : List A) (x : X), R l x → eachW pin params ts Bd Q (l.map enc) sg up x
  | [], x, h => hnil x h
  | a :: l, x, h => hcons a l x h (fun sg' up' x' => eachW pin params ts Bd Q (l.map enc) sg' up' x') fun x' hR => eachW_ind enc ts sg up R hnil hcons l x' hR

theorem bitZ {a i : Nat} (ha : a < 2 ^ 63) (h : i < 64) : (bitsI .and .i64 (shrI .i64 (a : Int) (i : Int)) 1 == 0) = !a.testBit i := by
  rw [bit_eq ha h]
  cases a.testBit i <;> rfl

abbrev ts115 (cs : List (AV S)) (set : Nat) : List (AV S) := [.undef, .ref [.ref cs], .ref [vI set], .own 3 [], .undef, .undef, .undef, .undef, .undef, .undef, .undef, .clo (.func 127) [] [.ref [.ref cs]], .undef, .undef, .undef, .undef, .undef, .undef, .undef, .undef, .undef, .undef, .undef, .undef, .undef, .undef, .undef, .undef, .undef, .undef, .undef, .undef, .undef, .undef, .undef, .undef, .undef, .undef, .undef, .undef, .undef, .undef, .undef, .undef, .undef, .undef, .undef, .undef, .undef, .undef, .undef, .undef, .undef, .undef, .undef, .undef, .undef, .undef, .undef, .undef, .undef]

def seg115 (f : Nat) (ah : List Int) : List (Nat × AO S) := [(3, .cells [.cb]), (5, .cells [vI f, .arr (S := S) U.int 5 [0, 0, 0, 0, 0]]), (6, .cells [.arr (S := S) U.int 5 ah])]

/-- Among copies. -/
def fr115 (cs : List (AV S)) (set f : Nat) (ah : List Int) (m i : Nat) : St S :=
  { tmps := [.undef, .ref [.ref cs], .ref [vI set], .own 3 [], vI f, .own 5 [], .own 6 [], .undef, .undef, .undef, .undef, .undef, .undef, .undef, .undef, .undef, .undef, .undef, .undef, .undef, vI m, vI i, .undef, .undef, .undef, .undef, .undef, .undef, .undef, .undef, .undef, .undef, .undef, .undef, .undef, .undef, .undef, .undef, .undef, .undef, .undef, .undef, .undef, .undef, .undef, .undef, .undef, .undef, .undef, .undef, .undef, .undef, .undef, .undef, .undef, .undef, .undef, .undef, .undef, .undef, .undef]
    seg := seg115 f ah
    up := [] }

/-- Among loci. -/
def fr115b (cs : List (AV S)) (set f : Nat) (ah : List Int) (m i n k : Nat) : St S :=
  { tmps := [.undef, .ref [.ref cs], .ref [vI set], .own 3 [], vI f, .own 5 [], .own 6 [], vI i, .undef, .undef, .undef, .undef, .undef, .undef, .undef, .undef, .undef, .undef, .undef, .undef, vI m, vI i, .undef, .undef, .undef, .undef, .undef, .undef, .undef, .undef, .undef, .undef, .undef, .undef, vI n, vI k, .undef, .undef, .undef, .undef, .undef, .undef, .undef, .undef, .undef, .undef, .undef, .undef, .undef, .undef, .undef, .undef, .undef, .undef, .undef, .undef, .undef, .undef, .undef, .undef, .undef]
    seg := seg115 f ah
    up := [] }

set_option maxHeartbeats 8000000 in
set_option maxRecDepth 100000 in
theorem it115 (gl : Gl) (loci : Loci) (copies : Copies) (sh : List (List Int)) (hl : loci.length ≤ 5) (hc : copies.length ≤ 8) (ms : List (Nat × Nat)) (hms : Masks copies sh ms) (set : Nat) (hset : set < 2 ^ 63) :
    ICalls PR gl 115 [.ref [.ref (fcs loci copies sh)], .ref [vI set]] ((ordersL (loci.map Prod.snd) loci.length ms set).map fun p => [ordV p.1 p.2]) := by
  refine iter_sound Tryd.func115 (pb gl) (pb_ok gl) fun Y B hm y Q h => ?_
  conv => whnf
  refine byC (c116 gl _) op116 ?_
  conv => whnf
  refine ⟨⟨2062, [], []⟩, ?_⟩
  conv => whnf
  refine ⟨(ffirst (loci.map Prod.snd) 0 0).map fun (n : Nat) => [vI n], ⟨it127 gl loci copies sh hl, op127⟩, ?_⟩
  refine eachW_ind (fun (n : Nat) => [vI n]) (ts115 (fcs loci copies sh) set) [(3, .cells [.cb])] [] (fun l y => (∀ f ∈ l, f < 2 ^ 63) ∧
    eachR B ((l.flatMap fun f => (ford loci.length (aheadL loci.length ms set f ms.length) loci.length 0 []).map fun os => (f, pad5 os)).map fun p => [ordV p.1 p.2]) y fun _ y' => Q y') ?_ ?_ _ y
    ⟨fun f hf => Nat.lt_of_lt_of_le (ffirst_lt _ 0 0 f (by decide) hf) (Nat.pow_le_pow_right (by omega) (by simp; omega)), eachR_of_B hm _ _ _ h⟩
  · rintro y ⟨_, h⟩
    conv => whnf
    exact h
  · rintro f l y ⟨hf, h⟩ Z hZ
    have hfl : f < 2 ^ 63 := hf f (List.mem_cons_self ..)
    rw [List.flatMap_cons, List.map_append] at h
    conv => whnf
    refine ⟨⟨3145854, [], []⟩, ?_⟩
    refine LoopW_indX _ (fun s : List Int × Nat => fr115 (fcs loci copies sh) set f s.1 copies.length s.2) (fun _ => y) (fun s => s.1 = natsV (aheadL loci.length ms set f s.2) ∧ s.2 ≤ copies.length) (fun s => copies.length - s.2) ?_ (_, 0) ⟨?_, Nat.zero_le _⟩
    · rintro ⟨xs, i⟩ ⟨hxs, hi⟩ Z1 hZ1
      simp only at hxs hi
      subst hxs
      conv => whnf
      refine bcase_iff.2 ⟨fun h1 => ?_, fun h1 => ?_⟩
      · have hi1 : i < copies.length := by have := of_decide_eq_true h1; simp only at this; omega
        have hw : IntKind.i64.wrap ((i : Int) + 1) = ((i + 1 : Nat) : Int) := wrap_nat (by omega)
        conv => whnf
        refine ⟨Int.natCast_nonneg _, ?_⟩
        conv => whnf
        refine bcase_iff.2 ⟨fun h2 => ?_, fun h2 => ?_⟩
        · have h2 : set.testBit i = false := by
            have : (!set.testBit i) = true := by rw [← bitZ hset (show i < 64 by omega)]; exact h2
            simpa using this
          conv => whnf
          refine ⟨⟨3145854, [], []⟩, ?_⟩
          have := hZ1 (natsV (aheadL loci.length ms set f i), i + 1) ⟨by rw [aheadL_skip h2], hi1⟩ (by simp only; omega)
          unfold fr115 at this
          simp only at this
          rw [← hw] at this
          exact this
        · have h2 : set.testBit i = true := by
            have : (!set.testBit i) = false := by rw [← bitZ hset (show i < 64 by omega)]; exact h2
            simpa using this
          have hims : i < ms.length := by rw [hms.len]; exact hi1
          obtain ⟨u, hsh⟩ := hms.sh i hims
          obtain ⟨hA, hB⟩ := hms.lt i
          conv => whnf
          refine ⟨⟨51542753534, [], []⟩, ?_⟩
          refine LoopW_indX _ (fun s : List Int × Nat => fr115b (fcs loci copies sh) set f s.1 copies.length i loci.length s.2) (fun _ => y) (fun s => s.1 = natsV (mixL loci.length ms set f i s.2) ∧ s.2 ≤ loci.length) (fun s => loci.length - s.2) ?_ (_, 0) ⟨by rw [mixL_zero], Nat.zero_le _⟩
          rintro ⟨xs, k⟩ ⟨hxs, hk⟩ Z2 hZ2
          simp only at hxs hk
          subst hxs
          conv => whnf
          refine bcase_iff.2 ⟨fun h3 => ?_, fun h3 => ?_⟩
          · have hk1 : k < loci.length := by have := of_decide_eq_true h3; simp only at this; omega
            have hwk : IntKind.i64.wrap ((k : Int) + 1) = ((k + 1 : Nat) : Int) := wrap_nat (by omega)
            conv => whnf
            refine byC (c99 gl loci copies sh i f _ _ u hsh hfl hA hB) op99 ?_
            conv => whnf
            refine ⟨Int.natCast_nonneg _, ?_⟩
            conv => whnf
            refine bcase_iff.2 ⟨fun h4 => ?_, fun h4 => ?_⟩
            · have h4 : (looseM (ms.getD i (0, 0)).1 (ms.getD i (0, 0)).2 f).testBit k = true := by rw [← bitB (looseM_lt hA hB) (show k < 64 by omega)]; exact h4
              conv => whnf
              refine ⟨[0, 1, 2, 3, 4, 5, 6, 7, 8, 9], [], [], [], ⟨2305843009213693951, [], []⟩, by decide +kernel, ?_⟩
              conv => whnf
              refine ⟨Int.natCast_nonneg _, by simp only; omega, ?_⟩
              conv => whnf
              have hgk : getI (natsV (mixL loci.length ms set f i k)) (k : Int) = some ((aheadUp ms set f i k : Nat) : Int) := by
                show (natsV _)[k]? = _
                simp only [natsV, List.getElem?_map, mixL_get hk1 hl]
                rfl
              refine ⟨_, hgk, ?_⟩
              conv => whnf
              refine byC (c98 gl loci copies sh i f _ _ u hsh hfl hA hB) op98 ?_
              conv => whnf
              refine ⟨Int.natCast_nonneg _, by simp only; omega, ?_⟩
              conv => whnf
              refine ⟨_, hgk, ?_⟩
              conv => whnf
              refine ⟨_, rfl, ?_⟩
              conv => whnf
              refine ⟨⟨51542753534, [], []⟩, ?_⟩
              have hor : bitsI .or .i64 ((aheadUp ms set f i k : Nat) : Int) ((fixedM (ms.getD i (0, 0)).1 (ms.getD i (0, 0)).2 f : Nat) : Int) = ((aheadUp ms set f (i + 1) k : Nat) : Int) := by
                rw [or_nat (aheadUp_lt hms set f i k) (fixedM_lt hA hB)]
                simp only [aheadUp, h2, if_true, h4]
              have hst : setI (natsV (mixL loci.length ms set f i k)) (k : Int) (bitsI .or .i64 ((aheadUp ms set f i k : Nat) : Int) ((fixedM (ms.getD i (0, 0)).1 (ms.getD i (0, 0)).2 f : Nat) : Int)) = natsV (mixL loci.length ms set f i (k + 1)) := by
                rw [hor, ← mixL_next hk1 hl rfl]
                show (natsV _).set k _ = _
                simp [natsV, List.map_set]
              have := hZ2 (_, k + 1) ⟨hst, hk1⟩ (by simp only; omega)
              unfold fr115b at this
              simp only at this
              rw [← hwk] at this
              exact this
            · have h4 : (looseM (ms.getD i (0, 0)).1 (ms.getD i (0, 0)).2 f).testBit k = false := by rw [← bitB (looseM_lt hA hB) (show k < 64 by omega)]; exact h4
              conv => whnf
              refine ⟨⟨51542753534, [], []⟩, ?_⟩
              have := hZ2 (natsV (mixL loci.length ms set f i k), k + 1) ⟨by rw [mixL_same hk1 hl (by simp only [aheadUp, h2, if_true, h4, Bool.false_eq_true, if_false])], hk1⟩ (by simp only; omega)
              unfold fr115b at this
              simp only at this
              rw [← hwk] at this
              exact this
          · have hge : k = loci.length := by have := of_decide_eq_false h3; simp only at this; omega
            conv => whnf
            refine ⟨⟨3145854, [], []⟩, ?_⟩
            have := hZ1 (natsV (mixL loci.length ms set f i k), i + 1) ⟨by rw [mixL_full (by omega)], hi1⟩ (by simp only; omega)
            unfold fr115 at this
            simp only at this
            rw [← hw] at this
            exact this
      · have hge : i = ms.length := by have := of_decide_eq_false h1; simp only at this; rw [hms.len]; omega
        have hcur : Cur loci.length 0 [] [0, 0, 0, 0, 0] := ⟨rfl, rfl, fun j _ hj5 => by
          match j, hj5 with
          | 0, _ => rfl
          | 1, _ => rfl
          | 2, _ => rfl
          | 3, _ => rfl
          | 4, _ => rfl⟩
        subst hge
        have hal : (aheadL loci.length ms set f ms.length).length = 5 := by simp [aheadL]
        have hal2 : ∀ a ∈ aheadL loci.length ms set f ms.length, a < 2 ^ 63 := fun a ha => by
          simp only [aheadL, List.mem_map] at ha
          obtain ⟨k, _, rfl⟩ := ha
          split
          · exact aheadUp_lt hms set f _ k
          · exact Nat.two_pow_pos _
        conv => whnf
        refine ⟨fun En' hB' => u117 gl Y B hm loci copies sh hl f (aheadL loci.length ms set f ms.length) hal hal2 loci.length 0 0 [] [0, 0, 0, 0, 0] (by omega) rfl (Nat.two_pow_pos _) hcur y _ ?_ En' hB', op117⟩
        rw [List.map_map] at h
        refine eachR_mono hm _ _ _ _ (fun b y' hb cur' hc' => ?_) (eachR_append hm _ _ _ _ h)
        cases b with
        | false =>
          conv => whnf
          exact hb
        | true =>
          conv => whnf
          refine ⟨⟨0, [4, 5, 6, 9], []⟩, ?_⟩
          have := hZ y' ⟨fun f hf' => hf f (List.mem_cons_of_mem _ hf'), hb⟩
          conv => whnf
          exact this
    · show [0, 0, 0, 0, 0] = natsV (aheadL loci.length ms set f 0)
      simp [aheadL, aheadUp, natsV]
      rfl
end Go.Ab.StF

namespace Go.Ab.StF
open Go Go.Ab Go.Proofs

abbrev vB (b : Bool) : AV S := .bool b
abbrev vL (xs : List Int) : AV S := .sl (S := S) U.int xs none

set_option maxHeartbeats 1000000
set_option maxRecDepth 100000

/-! ### Small ones -/

def verd (a b : Bool) : Int := if a then 1 else if b then 2 else 0

theorem c84 (gl : Gl) (a b : Bool) : PCalls PR gl 84 [vB a, vB b] fun r => r = vI (verd a b) := by
  refine fnW_sound (par_ok gl) Tryd.func84 ?_
  conv => whnf
  refine bcase_iff.2 ⟨fun h => ?_, fun h => ?_⟩
  · subst h; conv => whnf
    rfl
  · subst h
    conv => whnf
    refine bcase_iff.2 ⟨fun h => ?_, fun h => ?_⟩
    · subst h; conv => whnf
      rfl
    · subst h; conv => whnf
      rfl

def outB (lo hi x : Int) : Bool := decide (x < lo) || decide (x > hi)

theorem c110 (gl : Gl) (x lo hi : Int) : PCalls PR gl 110 [vI x, .ref [vI lo], .ref [vI hi]] fun r => r = vB (outB lo hi x) := by
  refine fnW_sound (par_ok gl) Tryd.func110 ?_
  conv => whnf
  refine bcase_iff.2 ⟨fun h => ?_, fun h => ?_⟩
  · conv => whnf
    show vB _ = _
    simp [outB, of_decide_eq_true h]
  · conv => whnf
    show vB _ = _
    have := of_decide_eq_false h
    simp [outB, this]

theorem op110 : Opens PR 110 := ⟨_, Tryd.func110, rfl, rfl⟩

/-- Where the first one is that is so; none is: -1. -/
def idx {α : Type} (p : α → Bool) : List α → Nat → Int
  | [], _ => -1
  | x :: xs, i => if p x then i else idx p xs (i + 1)

theorem idx_any {α : Type} (p : α → Bool) : ∀ (xs : List α) (i : Nat), decide (idx p xs i ≥ 0) = xs.any p
  | [], i => rfl
  | x :: xs, i => by
    simp only [idx, List.any_cons]
    by_cases h : p x = true
    · simp [h]
    · simp only [h, Bool.false_eq_true, if_false, Bool.false_or]
      exact idx_any p xs (i + 1)

def fr124 (xs : List Int) (f : AV S) (m : Int) (i : Nat) : St S := { tmps := [vL xs, f, .undef, .undef, .undef, .undef, .undef, vI m, vI i, .undef, .undef, .undef, .undef, .undef, .undef, .undef, .undef, .undef, .undef], seg := [], up := [] }

theorem c124 (gl : Gl) (xs : List Int) (hx : xs.length ≤ 9223372036854775807) (lo hi : Int) : PCalls PR gl 124 [vL xs, .clo (.func 110) [] [.ref [vI lo], .ref [vI hi]]] fun r => r = vI (idx (outB lo hi) xs 0) := by
  refine fnW_sound (par_ok gl) Tryd.func124 ?_
  conv => whnf
  refine ⟨⟨387, [], []⟩, ?_⟩
  refine LoopW_ind _ (fun i : Nat => fr124 xs (.clo (.func 110) [] [.ref [vI lo], .ref [vI hi]]) xs.length i) (fun i => i ≤ xs.length ∧ idx (outB lo hi) (xs.drop i) i = idx (outB lo hi) xs 0) (fun i => xs.length - i) () ?_ 0 ⟨Nat.zero_le _, rfl⟩
  rintro i ⟨hi', h⟩ Z hZ
  conv => whnf
  refine bcase_iff.2 ⟨fun h1 => ?_, fun h1 => ?_⟩
  · have hlt : i < xs.length := by have := of_decide_eq_true h1; omega
    have hw : IntKind.i64.wrap ((i : Int) + 1) = ((i + 1 : Nat) : Int) := wrap_nat (by omega)
    rw [List.drop_eq_getElem_cons hlt, idx] at h
    conv => whnf
    refine ⟨_, getI_nat hlt, ?_⟩
    conv => whnf
    refine byC (c110 gl _ lo hi) op110 ?_
    conv => whnf
    refine bcase_iff.2 ⟨fun h2 => ?_, fun h2 => ?_⟩
    · rw [if_pos h2] at h
      conv => whnf
      rw [← h]
    · rw [if_neg (by rw [h2]; simp)] at h
      conv => whnf
      refine ⟨⟨387, [], []⟩, ?_⟩
      have := hZ (i + 1) ⟨hlt, h⟩ (by omega)
      unfold fr124 at this
      rw [← hw] at this
      exact this
  · have hge : i = xs.length := by have := of_decide_eq_false h1; omega
    rw [List.drop_eq_nil_of_le (by omega), idx] at h
    conv => whnf
    rw [← h]

theorem op124 : Opens PR 124 := ⟨_, Tryd.func124, rfl, rfl⟩

theorem c109 (gl : Gl) (xs : List Int) (hx : xs.length ≤ 9223372036854775807) (lo hi : Int) : PCalls PR gl 109 [vL xs, .clo (.func 110) [] [.ref [vI lo], .ref [vI hi]]] fun r => r = vB (xs.any (outB lo hi)) := by
  refine fnW_sound (par_ok gl) Tryd.func109 ?_
  conv => whnf
  refine byC (c124 gl xs hx lo hi) op124 ?_
  conv => whnf
  show vB (decide (idx (outB lo hi) xs 0 ≥ 0)) = _
  rw [idx_any]

theorem op109 : Opens PR 109 := ⟨_, Tryd.func109, rfl, rfl⟩

theorem c63 (gl : Gl) (xs : List Int) (hx : xs.length ≤ 9223372036854775807) (lo hi : Int) : PCalls PR gl 63 [vI lo, vI hi, vL xs] fun r => r = vB (xs.any (outB lo hi)) := by
  refine fnW_sound (par_ok gl) Tryd.func63 ?_
  conv => whnf
  refine byC (c109 gl xs hx lo hi) op109 ?_
  conv => whnf

theorem op63 : Opens PR 63 := ⟨_, Tryd.func63, rfl, rfl⟩

def inB (n lo hi : Int) : Bool := decide (lo ≤ n) && decide (n ≤ hi)

theorem c69 (gl : Gl) (n lo hi : Int) : PCalls PR gl 69 [vI n, vI lo, vI hi] fun r => r = vB (inB n lo hi) := by
  refine fnW_sound (par_ok gl) Tryd.func69 ?_
  conv => whnf
  refine bcase_iff.2 ⟨fun h => ?_, fun h => ?_⟩
  · conv => whnf
    show vB _ = _
    simp [inB, of_decide_eq_true h]
  · conv => whnf
    show vB _ = _
    have := of_decide_eq_false h
    simp [inB, this]

theorem c106 (gl : Gl) (n lo hi : Int) : PCalls PR gl 106 [vI n, vI lo, vI hi] fun r => r = vB (inB n lo hi) := by
  refine fnW_sound (par_ok gl) Tryd.func106 ?_
  conv => whnf
  refine bcase_iff.2 ⟨fun h => ?_, fun h => ?_⟩
  · conv => whnf
    show vB _ = _
    simp [inB, of_decide_eq_true h]
  · conv => whnf
    show vB _ = _
    have := of_decide_eq_false h
    simp [inB, this]

theorem op69 : Opens PR 69 := ⟨_, Tryd.func69, rfl, rfl⟩
theorem op106 : Opens PR 106 := ⟨_, Tryd.func106, rfl, rfl⟩

def fr52 (xs : List Int) (n : Int) (i : Nat) : St S := { tmps := [vL xs, vI n, .undef, .undef, .undef, vI i, .undef, .undef, .undef, .undef, .undef, .undef, .undef, .undef, .undef, .undef, .undef, .undef], seg := [], up := [] }

def fr83 (xs : List Int) (n m : Int) (i : Nat) : St S := { tmps := [vL xs, vI n, .undef, .undef, .undef, .undef, .undef, vI m, vI i, .undef, .undef, .undef, .undef, .undef, .undef, .undef, .undef, .undef, .undef], seg := [], up := [] }

theorem c83 (gl : Gl) (xs : List Int) (hx : xs.length ≤ 9223372036854775807) (n : Int) : PCalls PR gl 83 [vL xs, vI n] fun r => r = vI (idx (fun x => n == x) xs 0) := by
  refine fnW_sound (par_ok gl) Tryd.func83 ?_
  conv => whnf
  refine ⟨⟨387, [], []⟩, ?_⟩
  refine LoopW_ind _ (fun i : Nat => fr83 xs n xs.length i) (fun i => i ≤ xs.length ∧ idx (fun x => n == x) (xs.drop i) i = idx (fun x => n == x) xs 0) (fun i => xs.length - i) () ?_ 0 ⟨Nat.zero_le _, rfl⟩
  rintro i ⟨hi', h⟩ Z hZ
  conv => whnf
  refine bcase_iff.2 ⟨fun h1 => ?_, fun h1 => ?_⟩
  · have hlt : i < xs.length := by have := of_decide_eq_true h1; omega
    have hw : IntKind.i64.wrap ((i : Int) + 1) = ((i + 1 : Nat) : Int) := wrap_nat (by omega)
    rw [List.drop_eq_getElem_cons hlt, idx] at h
    conv => whnf
    refine ⟨_, getI_nat hlt, ?_⟩
    conv => whnf
    refine bcase_iff.2 ⟨fun h2 => ?_, fun h2 => ?_⟩
    · rw [if_pos h2] at h
      conv => whnf
      rw [← h]
    · rw [if_neg (by rw [h2]; simp)] at h
      conv => whnf
      refine ⟨⟨387, [], []⟩, ?_⟩
      have := hZ (i + 1) ⟨hlt, h⟩ (by omega)
      unfold fr83 at this
      rw [← hw] at this
      exact this
  · have hge : i = xs.length := by have := of_decide_eq_false h1; omega
    rw [List.drop_eq_nil_of_le (by omega), idx] at h
    conv => whnf
    rw [← h]

theorem op83 : Opens PR 83 := ⟨_, Tryd.func83, rfl, rfl⟩
end Go.Ab.StF

namespace Go.Ab.StF
open Go Go.Ab Go.Proofs

set_option maxHeartbeats 1000000
set_option maxRecDepth 100000

abbrev locV (p : ByteArray × Int) : AV S := .agg [.str p.1, .int .i64 p.2]
abbrev copV (p : ByteArray × List Int) : AV S := .agg [.str p.1, vL p.2]

theorem c66 (gl : Gl) (p q : ByteArray × Int) : PCalls PR gl 66 [locV p, .ref [.str q.1, .int .i64 q.2]] fun r => r = vB (strEq p.1 q.1) := by
  refine fnW_sound (par_ok gl) Tryd.func66 ?_
  conv => whnf

theorem c68 (gl : Gl) (p q : ByteArray × List Int) : PCalls PR gl 68 [copV p, .ref [.str q.1, vL q.2]] fun r => r = vB (strEq p.1 q.1) := by
  refine fnW_sound (par_ok gl) Tryd.func68 ?_
  conv => whnf

theorem op66 : Opens PR 66 := ⟨_, Tryd.func66, rfl, rfl⟩
theorem op68 : Opens PR 68 := ⟨_, Tryd.func68, rfl, rfl⟩

def fr111 (xs : List (ByteArray × Int)) (f : AV S) (m : Int) (i : Nat) : St S := { tmps := [.sl (S := S) U.locus xs none, f, .undef, .undef, .undef, .undef, .undef, vI m, vI i, .undef, .undef, .undef, .undef, .undef, .undef, .undef, .undef, .undef, .undef], seg := [], up := [] }
def fr112 (xs : List (ByteArray × List Int)) (f : AV S) (m : Int) (i : Nat) : St S := { tmps := [.sl (S := S) U.copy xs none, f, .undef, .undef, .undef, .undef, .undef, vI m, vI i, .undef, .undef, .undef, .undef, .undef, .undef, .undef, .undef, .undef, .undef], seg := [], up := [] }

theorem c111 (gl : Gl) (xs : List (ByteArray × Int)) (hx : xs.length ≤ 9223372036854775807) (q : ByteArray × Int) : PCalls PR gl 111 [.sl (S := S) U.locus xs none, .clo (.func 66) [] [.ref [.str q.1, .int .i64 q.2]]] fun r => r = vI (idx (fun p => strEq p.1 q.1) xs 0) := by
  refine fnW_sound (par_ok gl) Tryd.func111 ?_
  conv => whnf
  refine ⟨⟨387, [], []⟩, ?_⟩
  refine LoopW_ind _ (fun i : Nat => fr111 xs (.clo (.func 66) [] [.ref [.str q.1, .int .i64 q.2]]) xs.length i) (fun i => i ≤ xs.length ∧ idx (fun p => strEq p.1 q.1) (xs.drop i) i = idx (fun p => strEq p.1 q.1) xs 0) (fun i => xs.length - i) () ?_ 0 ⟨Nat.zero_le _, rfl⟩
  rintro i ⟨hi', h⟩ Z hZ
  conv => whnf
  refine bcase_iff.2 ⟨fun h1 => ?_, fun h1 => ?_⟩
  · have hlt : i < xs.length := by have := of_decide_eq_true h1; omega
    have hw : IntKind.i64.wrap ((i : Int) + 1) = ((i + 1 : Nat) : Int) := wrap_nat (by omega)
    rw [List.drop_eq_getElem_cons hlt, idx] at h
    conv => whnf
    refine ⟨_, getI_nat hlt, ?_⟩
    conv => whnf
    refine byC (c66 gl xs[i] q) op66 ?_
    conv => whnf
    refine bcase_iff.2 ⟨fun h2 => ?_, fun h2 => ?_⟩
    · rw [if_pos h2] at h
      conv => whnf
      rw [← h]
    · rw [if_neg (by rw [h2]; simp)] at h
      conv => whnf
      refine ⟨⟨387, [], []⟩, ?_⟩
      have := hZ (i + 1) ⟨hlt, h⟩ (by omega)
      unfold fr111 at this
      rw [← hw] at this
      exact this
  · have hge : i = xs.length := by have := of_decide_eq_false h1; omega
    rw [List.drop_eq_nil_of_le (by omega), idx] at h
    conv => whnf
    rw [← h]

theorem c112 (gl : Gl) (xs : List (ByteArray × List Int)) (hx : xs.length ≤ 9223372036854775807) (q : ByteArray × List Int) : PCalls PR gl 112 [.sl (S := S) U.copy xs none, .clo (.func 68) [] [.ref [.str q.1, vL q.2]]] fun r => r = vI (idx (fun p => strEq p.1 q.1) xs 0) := by
  refine fnW_sound (par_ok gl) Tryd.func112 ?_
  conv => whnf
  refine ⟨⟨387, [], []⟩, ?_⟩
  refine LoopW_ind _ (fun i : Nat => fr112 xs (.clo (.func 68) [] [.ref [.str q.1, vL q.2]]) xs.length i) (fun i => i ≤ xs.length ∧ idx (fun p => strEq p.1 q.1) (xs.drop i) i = idx (fun p => strEq p.1 q.1) xs 0) (fun i => xs.length - i) () ?_ 0 ⟨Nat.zero_le _, rfl⟩
  rintro i ⟨hi', h⟩ Z hZ
  conv => whnf
  refine bcase_iff.2 ⟨fun h1 => ?_, fun h1 => ?_⟩
  · have hlt : i < xs.length := by have := of_decide_eq_true h1; omega
    have hw : IntKind.i64.wrap ((i : Int) + 1) = ((i + 1 : Nat) : Int) := wrap_nat (by omega)
    rw [List.drop_eq_getElem_cons hlt, idx] at h
    conv => whnf
    refine ⟨_, getI_nat hlt, ?_⟩
    conv => whnf
    refine byC (c68 gl xs[i] q) op68 ?_
    conv => whnf
    refine bcase_iff.2 ⟨fun h2 => ?_, fun h2 => ?_⟩
    · rw [if_pos h2] at h
      conv => whnf
      rw [← h]
    · rw [if_neg (by rw [h2]; simp)] at h
      conv => whnf
      refine ⟨⟨387, [], []⟩, ?_⟩
      have := hZ (i + 1) ⟨hlt, h⟩ (by omega)
      unfold fr112 at this
      rw [← hw] at this
      exact this
  · have hge : i = xs.length := by have := of_decide_eq_false h1; omega
    rw [List.drop_eq_nil_of_le (by omega), idx] at h
    conv => whnf
    rw [← h]

theorem op111 : Opens PR 111 := ⟨_, Tryd.func111, rfl, rfl⟩
theorem op112 : Opens PR 112 := ⟨_, Tryd.func112, rfl, rfl⟩

theorem c65 (gl : Gl) (xs : List (ByteArray × Int)) (hx : xs.length ≤ 9223372036854775807) (q : ByteArray × Int) : PCalls PR gl 65 [.sl (S := S) U.locus xs none, .clo (.func 66) [] [.ref [.str q.1, .int .i64 q.2]]] fun r => r = vB (xs.any fun p => strEq p.1 q.1) := by
  refine fnW_sound (par_ok gl) Tryd.func65 ?_
  conv => whnf
  refine byC (c111 gl xs hx q) op111 ?_
  conv => whnf
  show vB (decide (idx (fun p => strEq p.1 q.1) xs 0 ≥ 0)) = _
  rw [idx_any]

theorem c67 (gl : Gl) (xs : List (ByteArray × List Int)) (hx : xs.length ≤ 9223372036854775807) (q : ByteArray × List Int) : PCalls PR gl 67 [.sl (S := S) U.copy xs none, .clo (.func 68) [] [.ref [.str q.1, vL q.2]]] fun r => r = vB (xs.any fun p => strEq p.1 q.1) := by
  refine fnW_sound (par_ok gl) Tryd.func67 ?_
  conv => whnf
  refine byC (c112 gl xs hx q) op112 ?_
  conv => whnf
  show vB (decide (idx (fun p => strEq p.1 q.1) xs 0 ≥ 0)) = _
  rw [idx_any]

theorem op65 : Opens PR 65 := ⟨_, Tryd.func65, rfl, rfl⟩
theorem op67 : Opens PR 67 := ⟨_, Tryd.func67, rfl, rfl⟩

/-! ### A name, byte by byte -/

def letterB (b : Int) : Bool := decide (b ≥ 97) && decide (b ≤ 122)
def digitB (b : Int) : Bool := decide (b ≥ 48) && decide (b ≤ 57)

theorem c125 (gl : Gl) (b : Int) : PCalls PR gl 125 [.int .u8 b] fun r => r = vB (letterB b) := by
  refine fnW_sound (par_ok gl) Tryd.func125 ?_
  conv => whnf
  refine bcase_iff.2 ⟨fun h => ?_, fun h => ?_⟩
  · conv => whnf
    show vB _ = _
    simp only [letterB, h, Bool.true_and]
    rfl
  · conv => whnf
    show vB _ = _
    simp only [letterB, h, Bool.false_and]

theorem c126 (gl : Gl) (b : Int) : PCalls PR gl 126 [.int .u8 b] fun r => r = vB (digitB b) := by
  refine fnW_sound (par_ok gl) Tryd.func126 ?_
  conv => whnf
  refine bcase_iff.2 ⟨fun h => ?_, fun h => ?_⟩
  · conv => whnf
    show vB _ = _
    simp only [digitB, h, Bool.true_and]
    rfl
  · conv => whnf
    show vB _ = _
    simp only [digitB, h, Bool.false_and]

theorem op125 : Opens PR 125 := ⟨_, Tryd.func125, rfl, rfl⟩
theorem op126 : Opens PR 126 := ⟨_, Tryd.func126, rfl, rfl⟩

/-- May a byte stand in a name, there? -/
def chB (i : Nat) (b : Int) : Bool := letterB b || (!(i == 0) && (digitB b || b == 46))

def namesFrom : List UInt8 → Nat → Bool
  | [], _ => true
  | b :: bs, i => chB i b.toNat && namesFrom bs (i + 1)

def nameB (s : ByteArray) : Bool := !(s.size == 0) && !decide (s.size > 16) && namesFrom s.data.toList 0

def fr114 (s : ByteArray) (i : Nat) : St S := { tmps := [.str s, .undef, .undef, vI i, .undef, .undef, .undef, .undef, .undef, .undef, .undef, .undef, .undef, .undef, .undef, .undef, .undef, .undef, .undef, .undef, .undef, .undef, .undef, .undef, .undef, .undef, .undef, .undef, .undef, .undef, .undef, .undef, .undef, .undef, .undef, .undef, .undef, .undef, .undef, .undef], seg := [], up := [] }

theorem c114 (gl : Gl) (s : ByteArray) (hs : s.size ≤ 9223372036854775807) : PCalls PR gl 114 [.str s] fun r => r = vB (nameB s) := by
  have hlen : s.data.toList.length = s.size := rfl
  refine fnW_sound (par_ok gl) Tryd.func114 ?_
  conv => whnf
  refine bcase_iff.2 ⟨fun h => ?_, fun h => ?_⟩
  · conv => whnf
    have h : s.size = 0 := by have : ((s.size : Int) == 0) = true := h; simpa using this
    show vB false = _
    simp [nameB, h]
  · have h : s.size ≠ 0 := by have : ((s.size : Int) == 0) = false := h; simpa using this
    conv => whnf
    refine bcase_iff.2 ⟨fun h2 => ?_, fun h2 => ?_⟩
    · have h2 : s.size > 16 := by have : decide ((s.size : Int) > 16) = true := h2; have := of_decide_eq_true this; omega
      conv => whnf
      show vB false = _
      simp [nameB, h2]
    · have h2 : ¬ s.size > 16 := by have : decide ((s.size : Int) > 16) = false := h2; have := of_decide_eq_false this; omega
      have hn : nameB s = namesFrom s.data.toList 0 := by simp [nameB, h, h2]
      conv => whnf
      refine ⟨⟨9, [], []⟩, ?_⟩
      refine LoopW_ind _ (fun i : Nat => fr114 s i) (fun i => i ≤ s.size ∧ namesFrom (s.data.toList.drop i) i = nameB s) (fun i => s.size - i) () ?_ 0 ⟨Nat.zero_le _, hn.symm⟩
      rintro i ⟨hi, h3⟩ Z hZ
      conv => whnf
      refine bcase_iff.2 ⟨fun h4 => ?_, fun h4 => ?_⟩
      · have hlt : i < s.data.toList.length := by have := of_decide_eq_true h4; omega
        have hw : IntKind.i64.wrap ((i : Int) + 1) = ((i + 1 : Nat) : Int) := wrap_nat (by omega)
        rw [List.drop_eq_getElem_cons hlt, namesFrom] at h3
        have hg : getI s.data.toList (i : Int) = some (s.data.toList[i]) := getI_nat hlt
        generalize s.data.toList[i] = b at hg h3
        -- the two ways to go on
        have hno : chB i b.toNat = false → vB false = vB (nameB s) := fun hc => by rw [hc, Bool.false_and] at h3; rw [h3]
        have hyes : chB i b.toNat = true → Z (fr114 s (i + 1)) () := fun hc => by
          rw [hc, Bool.true_and] at h3
          exact hZ (i + 1) ⟨by omega, h3⟩ (by omega)
        conv => whnf
        refine ⟨b, hg, ?_⟩
        conv => whnf
        refine byC (c125 gl _) op125 ?_
        conv => whnf
        refine bcase_iff.2 ⟨fun h5 => ?_, fun h5 => ?_⟩
        · have h5 : letterB b.toNat = false := by simpa using h5
          conv => whnf
          refine bcase_iff.2 ⟨fun h6 => ?_, fun h6 => ?_⟩
          · have h6 : i = 0 := by have : ((i : Int) == 0) = true := h6; simpa using this
            conv => whnf
            exact hno (by simp [chB, h5, h6])
          · have h6 : i ≠ 0 := by have : ((i : Int) == 0) = false := h6; simpa using this
            conv => whnf
            refine ⟨b, hg, ?_⟩
            conv => whnf
            refine byC (c126 gl _) op126 ?_
            conv => whnf
            refine bcase_iff.2 ⟨fun h7 => ?_, fun h7 => ?_⟩
            · have h7 : digitB b.toNat = false := by simpa using h7
              conv => whnf
              refine ⟨b, hg, ?_⟩
              conv => whnf
              refine bcase_iff.2 ⟨fun h8 => ?_, fun h8 => ?_⟩
              · have h8 : ((b.toNat : Int) != 46) = true := h8
                conv => whnf
                have h8' : ((b.toNat : Int) == 46) = false := by simpa [bne] using h8
                exact hno (by simp [chB, h5, h6, h7]; simpa using h8')
              · have h8 : ((b.toNat : Int) != 46) = false := h8
                have h8' : ((b.toNat : Int) == 46) = true := by simpa [bne] using h8
                conv => whnf
                refine ⟨⟨9, [], []⟩, ?_⟩
                have := hyes (by simp only [chB, h5, h7, h8']; simp [h6])
                unfold fr114 at this
                rw [← hw] at this
                exact this
            · have h7 : digitB b.toNat = true := by simpa using h7
              conv => whnf
              refine ⟨⟨9, [], []⟩, ?_⟩
              have := hyes (by simp [chB, h5, h6, h7])
              unfold fr114 at this
              rw [← hw] at this
              exact this
        · have h5 : letterB b.toNat = true := by simpa using h5
          conv => whnf
          refine ⟨⟨9, [], []⟩, ?_⟩
          have := hyes (by simp [chB, h5])
          unfold fr114 at this
          rw [← hw] at this
          exact this
      · have hge : i = s.size := by have := of_decide_eq_false h4; omega
        rw [List.drop_eq_nil_of_le (by omega), namesFrom] at h3
        conv => whnf
        rw [← h3]
end Go.Ab.StF

namespace Go.Ab.StF
open Go Go.Ab Go.Proofs
set_option maxHeartbeats 1000000
set_option maxRecDepth 1000000

/-- May a rune stand in a name, there? -/
def chR (i c : Int) : Bool := (decide (c ≥ 97) && decide (c ≤ 122)) || (decide (i > 0) && ((decide (c ≥ 48) && decide (c ≤ 57)) || c == 46))

def nmR (s : ByteArray) : Nat → Nat → Bool
  | 0, _ => true
  | b + 1, pos => if pos < s.size then chR pos (Utf8.decode s pos).1 && nmR s b (pos + (Utf8.decode s pos).2) else true

def nameR (s : ByteArray) : Bool := nmR s s.size 0 && (!(s.size == 0) && decide (s.size ≤ 16))

theorem width_pos (s : ByteArray) (pos : Nat) (h : pos < s.size) : 1 ≤ (Utf8.decode s pos).2 := by
  by_cases ha : (s[pos]'h).toNat < 128
  · rw [decode_ascii s pos h ha]
    exact Nat.le_refl _
  · exact (decode_high s pos h (by omega)).2

theorem nm_end (s : ByteArray) (b pos : Nat) (h : ¬ pos < s.size) : nmR s b pos = true := by
  cases b with
  | zero => rfl
  | succ b => simp [nmR, h]

theorem size_zero_iff (s : ByteArray) : s.toList = [] ↔ s.size = 0 := by
  rw [ByteArray.toList_eq]
  have h : s.data.toList.length = s.size := rfl
  constructor
  · intro e; rw [← h, e]; rfl
  · intro e; exact List.eq_nil_of_length_eq_zero (h.trans e)

def R64 (s : ByteArray) (w : World) (e : Ending) (w' : World) : Prop := e = .returned (.bool (nameR s)) ∧ ∃ pos, w' = w.iter s pos

theorem walk64 (s : ByteArray) (w : World) :
    Calls Tryd.prog 64 #[.string s] w (R64 s w) := by
  go_enter Tryd.func64, Tryd.ntmps64
  go_wp2
  go_loopw [] (fun w' => ∃ (pos b : Nat), w' = w.iter s pos ∧ nmR s b pos = nmR s s.size 0 ∧ s.size ≤ pos + b) (fun w' => s.size - w'.iterPos w.heap.size)
  case atStart => exact ⟨0, s.size, rfl, rfl, by omega⟩
  case round =>
    obtain ⟨pos, b, rfl, hc, hb⟩ := hrel
    by_cases hp : pos < s.size
    · have hnx : ∀ ty, (Instr.next (.pointer (some ⟨w.heap.size, 0, none⟩)) true ty).run Tryd.prog (w.iter s pos) = _ := fun ty => run_next_any w s pos ty hp
      have hwd := width_pos s pos hp
      cases b with
      | zero => omega
      | succ b =>
        simp only [nmR, hp, if_true] at hc
        go_wp2
        all_goals first
          | (refine ⟨⟨pos + (Utf8.decode s pos).2, b, rfl, ?_, by omega⟩, by simp; omega⟩
             have hq : chR pos (Utf8.decode s pos).1 = true := by
               clear hc hnx
               simp only [chR, Bool.or_eq_true, Bool.and_eq_true, decide_eq_true_eq, beq_iff_eq] at *
               omega
             rw [hq, Bool.true_and] at hc
             exact hc)
          | (have hq : chR pos (Utf8.decode s pos).1 = false := by
               clear hc hnx
               rw [Bool.eq_false_iff]
               intro hf
               simp only [chR, Bool.or_eq_true, Bool.and_eq_true, decide_eq_true_eq, beq_iff_eq, beq_eq_false_iff_ne, ne_eq] at *
               omega
             rw [hq, Bool.false_and] at hc
             go_ret
             have hn : nameR s = false := by rw [nameR, ← hc, Bool.false_and]
             exact ⟨by rw [hn]; rfl, _, rfl⟩)
    · have hnx : ∀ ty, (Instr.next (.pointer (some ⟨w.heap.size, 0, none⟩)) true ty).run Tryd.prog (w.iter s pos) = _ := fun ty => run_next_end w s pos ty hp
      rw [nm_end s b pos hp] at hc
      replace hc := hc.symm
      go_wp2
      · rename_i h
        have h0 : s.size = 0 := (size_zero_iff s).1 h
        have hn : nameR s = false := by simp [nameR, h0]
        go_ret
        exact ⟨by rw [hn]; rfl, _, rfl⟩
      · rename_i h
        have h0 : s.size ≠ 0 := fun e => h ((size_zero_iff s).2 e)
        have h1 : s.toList.isEmpty = false := by
          cases hl : s.toList with
          | nil => exact absurd hl h
          | cons a b => rfl
        have hn : nameR s = (!s.toList.isEmpty && decide ((s.size : Int) ≤ 16)) := by
          rw [nameR, hc, h1, Bool.true_and, Bool.not_false]
          have : (s.size == 0) = false := by simpa using h0
          rw [this, Bool.not_false, Bool.true_and, Bool.true_and]
          exact decide_eq_decide.2 (by omega)
        go_ret
        exact ⟨by rw [hn]; rfl, _, rfl⟩

theorem nmR_eq (s : ByteArray) : ∀ (b pos : Nat), s.size ≤ pos + b → nmR s b pos = namesFrom (s.data.toList.drop pos) pos
  | 0, pos, h => by
    have hl : s.data.toList.length = s.size := rfl
    rw [List.drop_eq_nil_of_le (by omega)]; rfl
  | b + 1, pos, h => by
    have hl : s.data.toList.length = s.size := rfl
    by_cases hp : pos < s.size
    · rw [List.drop_eq_getElem_cons (by omega : pos < s.data.toList.length)]
      simp only [nmR, hp, if_true, namesFrom]
      have hb : s.data.toList[pos] = s[pos]'hp := rfl
      rw [hb]
      by_cases ha : (s[pos]'hp).toNat < 128
      · rw [decode_ascii s pos hp ha]
        simp only
        rw [nmR_eq s b (pos + 1) (by omega)]
        congr 1
        rw [Bool.eq_iff_iff]
        simp only [chR, chB, letterB, digitB, Bool.or_eq_true, Bool.and_eq_true, decide_eq_true_eq, beq_iff_eq, Bool.not_eq_true', beq_eq_false_iff_ne, ne_eq]
        omega
      · obtain ⟨h1, h2⟩ := decode_high s pos hp (by omega)
        have hf : chR pos (Utf8.decode s pos).1 = false := by
          rw [Bool.eq_false_iff]
          simp only [chR, ne_eq, Bool.or_eq_true, Bool.and_eq_true, decide_eq_true_eq, beq_iff_eq]
          omega
        have hg : chB pos (s[pos]'hp).toNat = false := by
          rw [Bool.eq_false_iff]
          simp only [chB, letterB, digitB, ne_eq, Bool.or_eq_true, Bool.and_eq_true, decide_eq_true_eq, beq_iff_eq, Bool.not_eq_true', beq_eq_false_iff_ne]
          omega
        rw [hf, hg, Bool.false_and, Bool.false_and]
    · rw [nm_end s _ pos hp, List.drop_eq_nil_of_le (by omega)]; rfl

theorem nameR_eq (s : ByteArray) : nameR s = nameB s := by
  rw [nameR, nameB, nmR_eq s s.size 0 (by omega), List.drop_zero]
  have : decide (s.size ≤ 16) = !decide (s.size > 16) := by
    rw [Bool.eq_iff_iff]; simp
  rw [this, Bool.and_comm]

theorem c64 (gl : Gl) (s : ByteArray) : PCalls PR gl 64 [.str s] fun r => r = vB (nameB s) := by
  intro w V vs hG hlt hr
  have hvs : vs = [.string s] := by
    cases hr with
    | flat h t => rw [t.nil_inv, show _ = _ from h]
  rw [hvs]
  refine (walk64 s w).mono ?_
  rintro e w' ⟨he, pos, rfl⟩
  refine ⟨_, he, _, rfl, Grow.alloc _ _, ?_⟩
  rw [nameR_eq]
  exact Rep.flat1 rfl

theorem op64 : Opens PR 64 := ⟨_, Tryd.func64, rfl, rfl⟩
end Go.Ab.StF

namespace Go.Ab.StF
open Go Go.Ab Go.Proofs
set_option maxHeartbeats 1000000
set_option maxRecDepth 100000

abbrev lociV (xs : List (ByteArray × Int)) : AV S := .sl (S := S) U.locus xs none
abbrev copsV (cs : List (ByteArray × List Int)) : AV S := .sl (S := S) U.copy cs none
abbrev forV (xs : List (ByteArray × Int)) (cs : List (ByteArray × List Int)) : AV S := .agg [lociV xs, copsV cs]

def chkL : List (ByteArray × Int) → List (ByteArray × Int) → Nat → Option (Int × Int)
  | _, [], _ => none
  | pre, x :: xs, i => if !nameB x.1 then some (i, 6) else if pre.any (fun p => strEq p.1 x.1) then some (i, 5) else if [x.2].any (outB 0 2) then some (i, 7) else chkL (pre ++ [x]) xs (i + 1)

def chkC (n : Nat) : List (ByteArray × List Int) → List (ByteArray × List Int) → Nat → Option (Int × Int)
  | _, [], _ => none
  | pre, x :: xs, i => if !nameB x.1 then some (i, 6) else if pre.any (fun p => strEq p.1 x.1) then some (i, 5) else if (x.2.length : Int) != (n : Int) then some (i, 3) else if x.2.any (outB 0 2) then some (i, 7) else chkC n (pre ++ [x]) xs (i + 1)

def chk (xs : List (ByteArray × Int)) (cs : List (ByteArray × List Int)) : Int × Int × Int :=
  if [(xs.length : Int)].any (outB 1 5) then (1, 0, 3) else match chkL [] xs 0 with
  | some (i, e) => (1, i, e)
  | none => if [(cs.length : Int)].any (outB 1 8) then (2, 0, 3) else match chkC xs.length [] cs 0 with
    | some (i, e) => (2, i, e)
    | none => (0, 0, 0)

def fr16 (xs : List (ByteArray × Int)) (cs : List (ByteArray × List Int)) (m : Int) (i : Nat) : St S :=
  { tmps := [.undef, .own 1 [], .undef, .undef, .undef, .undef, .undef, .undef, .undef, .undef, .undef, .undef, .undef, .undef, .undef, lociV xs, vI m, vI i, .undef, .undef, .undef, .undef, .undef, .undef, .undef, .undef, .undef, .undef, .undef, .undef, .undef, .undef, .undef, .undef, .undef, .undef, .undef, .undef, .undef, .undef, .undef, .undef, .undef, .undef, .undef, .undef, .undef, .undef, .undef, .undef, .undef, .undef, .undef, .undef, .undef, .undef, .undef, .undef, .undef, .undef, .undef, .undef, .undef, .undef, .undef, .undef, .undef, .undef, .undef, .undef, .undef, .undef, .undef, .undef, .undef, .undef, .undef, .undef, .undef, .undef, .undef, .undef, .undef, .undef, .undef], seg := [(1, .cells [lociV xs, copsV cs])], up := [] }

def fr16b (xs : List (ByteArray × Int)) (cs : List (ByteArray × List Int)) (m : Int) (i : Nat) : St S :=
  { tmps := [.undef, .own 1 [], .undef, .undef, .undef, .undef, .undef, .undef, .undef, .undef, .undef, .undef, .undef, .undef, .undef, .undef, .undef, .undef, .undef, .undef, .undef, .undef, .undef, .undef, .undef, .undef, .undef, .undef, .undef, .undef, .undef, .undef, .undef, .undef, .undef, .undef, .undef, .undef, .undef, .undef, .undef, .undef, .undef, .undef, .undef, .undef, .undef, .undef, .undef, copsV cs, vI m, vI i, .undef, .undef, .undef, .undef, .undef, .undef, .undef, .undef, .undef, .undef, .undef, .undef, .undef, .undef, .undef, .undef, .undef, .undef, .undef, .undef, .undef, .undef, .undef, .undef, .undef, .undef, .undef, .undef, .undef, .undef, .undef, .undef, .undef], seg := [(1, .cells [lociV xs, copsV cs])], up := [] }

theorem take_succ' {α : Type} {xs : List α} {i : Nat} (h : i < xs.length) : xs.take (i + 1) = xs.take i ++ [xs[i]] := by
  rw [List.take_add_one, List.getElem?_eq_getElem h]; rfl

def tup3 (p : Int × Int × Int) : AV S := .tup [vI p.1, vI p.2.1, vI p.2.2]

theorem c16 (gl : Gl) (xs : List (ByteArray × Int)) (cs : List (ByteArray × List Int)) (hx : xs.length ≤ 9223372036854775807) (hc : cs.length ≤ 9223372036854775807) (hcs : ∀ x ∈ cs, x.2.length ≤ 9223372036854775807) : PCalls PR gl 16 [forV xs cs] fun r => r = tup3 (chk xs cs) := by
  refine fnW_sound (par_ok gl) Tryd.func16 ?_
  conv => whnf
  refine ⟨_, rfl, ?_⟩
  conv => whnf
  refine byC (c63 gl [(xs.length : Int)] (by simp) 1 5) op63 ?_
  conv => whnf
  refine bcase_iff.2 ⟨fun h => ?_, fun h => ?_⟩
  · have hk : chk xs cs = (1, 0, 3) := by unfold chk; rw [if_pos h]
    conv => whnf
    rw [hk]; rfl
  · have hk1 : chk xs cs = match chkL [] xs 0 with
      | some (i, e) => (1, i, e)
      | none => if [(cs.length : Int)].any (outB 1 8) then (2, 0, 3) else match chkC xs.length [] cs 0 with
        | some (i, e) => (2, i, e)
        | none => (0, 0, 0) := by unfold chk; rw [if_neg (by rw [h]; simp)]
    conv => whnf
    refine ⟨⟨229378, [12], []⟩, ?_⟩
    refine LoopW_ind _ (fun i : Nat => fr16 xs cs xs.length i) (fun i => i ≤ xs.length ∧ chkL (xs.take i) (xs.drop i) i = chkL [] xs 0) (fun i => xs.length - i) () ?_ 0 ⟨Nat.zero_le _, rfl⟩
    rintro i ⟨hi, h2⟩ Z hZ
    conv => whnf
    refine bcase_iff.2 ⟨fun h1 => ?_, fun h1 => ?_⟩
    · have hlt : i < xs.length := by have := of_decide_eq_true h1; omega
      have hw : IntKind.i64.wrap ((i : Int) + 1) = ((i + 1 : Nat) : Int) := wrap_nat (by omega)
      rw [List.drop_eq_getElem_cons hlt, chkL] at h2
      conv => whnf
      refine ⟨_, getI_nat hlt, ?_⟩
      conv => whnf
      refine byC (c64 gl _) op64 ?_
      conv => whnf
      refine bcase_iff.2 ⟨fun h3 => ?_, fun h3 => ?_⟩
      · rw [if_pos h3] at h2
        conv => whnf
        rw [hk1, ← h2]; rfl
      · rw [if_neg (by rw [h3]; simp)] at h2
        conv => whnf
        refine ⟨Int.natCast_nonneg _, ?_⟩
        conv => whnf
        refine ⟨Nat.zero_le _, hi, ?_⟩
        conv => whnf
        refine byC (c65 gl (xs.take i) (by simp; omega) xs[i]) op65 ?_
        conv => whnf
        refine bcase_iff.2 ⟨fun h4 => ?_, fun h4 => ?_⟩
        · rw [if_pos h4] at h2
          conv => whnf
          rw [hk1, ← h2]; rfl
        · rw [if_neg (by rw [h4]; simp)] at h2
          conv => whnf
          refine ⟨_, rfl, ?_⟩
          conv => whnf
          refine byC (c63 gl [xs[i].2] (by simp) 0 2) op63 ?_
          conv => whnf
          refine bcase_iff.2 ⟨fun h5 => ?_, fun h5 => ?_⟩
          · rw [if_pos h5] at h2
            conv => whnf
            rw [hk1, ← h2]; rfl
          · rw [if_neg (by rw [h5]; simp), ← take_succ' hlt] at h2
            conv => whnf
            refine ⟨⟨229378, [6, 39], []⟩, ?_⟩
            have := hZ (i + 1) ⟨hlt, h2⟩ (by omega)
            unfold fr16 at this
            rw [← hw] at this
            exact this
    · have hge : i = xs.length := by have := of_decide_eq_false h1; omega
      rw [List.drop_eq_nil_of_le (by omega), chkL] at h2
      rw [← h2] at hk1
      simp only at hk1
      conv => whnf
      refine ⟨_, rfl, ?_⟩
      conv => whnf
      refine byC (c63 gl [(cs.length : Int)] (by simp) 1 8) op63 ?_
      conv => whnf
      refine bcase_iff.2 ⟨fun h3 => ?_, fun h3 => ?_⟩
      · rw [if_pos h3] at hk1
        conv => whnf
        rw [hk1]; rfl
      · rw [if_neg (by rw [h3]; simp)] at hk1
        conv => whnf
        refine ⟨⟨3940649673949186, [46], []⟩, ?_⟩
        refine LoopW_ind _ (fun i : Nat => fr16b xs cs cs.length i) (fun i => i ≤ cs.length ∧ chkC xs.length (cs.take i) (cs.drop i) i = chkC xs.length [] cs 0) (fun i => cs.length - i) () ?_ 0 ⟨Nat.zero_le _, rfl⟩
        rintro j ⟨hj, h4⟩ Z hZ
        conv => whnf
        refine bcase_iff.2 ⟨fun h5 => ?_, fun h5 => ?_⟩
        · have hlt : j < cs.length := by have := of_decide_eq_true h5; omega
          have hw : IntKind.i64.wrap ((j : Int) + 1) = ((j + 1 : Nat) : Int) := wrap_nat (by omega)
          rw [List.drop_eq_getElem_cons hlt, chkC] at h4
          conv => whnf
          refine ⟨_, getI_nat hlt, ?_⟩
          conv => whnf
          refine byC (c64 gl _) op64 ?_
          conv => whnf
          refine bcase_iff.2 ⟨fun h6 => ?_, fun h6 => ?_⟩
          · rw [if_pos h6] at h4
            conv => whnf
            rw [hk1, ← h4]; rfl
          · rw [if_neg (by rw [h6]; simp)] at h4
            conv => whnf
            refine ⟨Int.natCast_nonneg _, ?_⟩
            conv => whnf
            refine ⟨Nat.zero_le _, hj, ?_⟩
            conv => whnf
            refine byC (c67 gl (cs.take j) (by simp; omega) cs[j]) op67 ?_
            conv => whnf
            refine bcase_iff.2 ⟨fun h7 => ?_, fun h7 => ?_⟩
            · rw [if_pos h7] at h4
              conv => whnf
              rw [hk1, ← h4]; rfl
            · rw [if_neg (by rw [h7]; simp)] at h4
              conv => whnf
              refine bcase_iff.2 ⟨fun h8 => ?_, fun h8 => ?_⟩
              · rw [if_pos h8] at h4
                conv => whnf
                rw [hk1, ← h4]; rfl
              · rw [if_neg (by rw [h8]; simp)] at h4
                conv => whnf
                refine byC (c63 gl cs[j].2 (hcs _ (List.getElem_mem hlt)) 0 2) op63 ?_
                conv => whnf
                refine bcase_iff.2 ⟨fun h9 => ?_, fun h9 => ?_⟩
                · rw [if_pos h9] at h4
                  conv => whnf
                  rw [hk1, ← h4]; rfl
                · rw [if_neg (by rw [h9]; simp), ← take_succ' hlt] at h4
                  conv => whnf
                  refine ⟨⟨3940649673949186, [8, 2008], [2008]⟩, ?_⟩
                  have := hZ (j + 1) ⟨hlt, h4⟩ (by omega)
                  unfold fr16b at this
                  rw [← hw] at this
                  exact this
        · have hge : j = cs.length := by have := of_decide_eq_false h5; omega
          rw [List.drop_eq_nil_of_le (by omega), chkC] at h4
          conv => whnf
          rw [hk1, ← h4]; rfl

theorem op16 : Opens PR 16 := ⟨_, Tryd.func16, rfl, rfl⟩
end Go.Ab.StF

namespace Go.Ab.StF
open Go Go.Ab Go.Proofs
set_option maxHeartbeats 1000000
set_option maxRecDepth 100000

theorem chkL_none : ∀ (pre l : List (ByteArray × Int)) (i : Nat), chkL pre l i = none → ∀ x ∈ l, 0 ≤ x.2 ∧ x.2 ≤ 2
  | _, [], _, _ => fun x hx => by cases hx
  | pre, y :: l, i, h => by
    simp only [chkL] at h
    split at h
    · cases h
    · split at h
      · cases h
      · split at h
        · cases h
        · rename_i h3
          intro x hx
          rcases List.mem_cons.1 hx with rfl | hx
          · simp [outB] at h3; omega
          · exact chkL_none _ l _ h x hx

theorem chkC_none (n : Nat) : ∀ (pre l : List (ByteArray × List Int)) (i : Nat), chkC n pre l i = none → ∀ x ∈ l, x.2.length = n ∧ ∀ v ∈ x.2, 0 ≤ v ∧ v ≤ 2
  | _, [], _, _ => fun x hx => by cases hx
  | pre, y :: l, i, h => by
    simp only [chkC] at h
    split at h
    · cases h
    · split at h
      · cases h
      · split at h
        · cases h
        · split at h
          · cases h
          · rename_i h3 h4
            intro x hx
            rcases List.mem_cons.1 hx with rfl | hx
            · refine ⟨by have : (x.2.length : Int) = n := by simpa using h3
                         omega, fun v hv => ?_⟩
              have h5 := Bool.eq_false_iff.2 h4
              rw [List.any_eq_false] at h5
              have := h5 v hv
              simp [outB] at this; omega
            · exact chkC_none n _ l _ h x hx

/-- What a forme that passes is like. -/
structure Valid (xs : List (ByteArray × Int)) (cs : List (ByteArray × List Int)) : Prop where
  l1 : 1 ≤ xs.length
  l5 : xs.length ≤ 5
  c1 : 1 ≤ cs.length
  c8 : cs.length ≤ 8
  fst : ∀ x ∈ xs, 0 ≤ x.2 ∧ x.2 ≤ 2
  len : ∀ c ∈ cs, c.2.length = xs.length
  shows : ∀ c ∈ cs, ∀ v ∈ c.2, 0 ≤ v ∧ v ≤ 2

theorem chk_valid {xs : List (ByteArray × Int)} {cs : List (ByteArray × List Int)} (h : (chk xs cs).2.2 = 0) : Valid xs cs := by
  unfold chk at h
  split at h
  · cases h
  · rename_i h1
    split at h
    · rename_i i e h2
      simp only at h
      subst h
      exfalso
      have : ∀ (l pre : List (ByteArray × Int)) (j i : Nat), chkL pre l j ≠ some ((i : Int), 0) := by
        intro l
        induction l with
        | nil => intro pre j i h; simp [chkL] at h
        | cons y l ih =>
          intro pre j i h
          simp only [chkL] at h
          split at h
          · cases h
          · split at h
            · cases h
            · split at h
              · cases h
              · exact ih _ _ _ h
      have hi : ∀ (l pre : List (ByteArray × Int)) (j : Nat) (i e : Int), chkL pre l j = some (i, e) → 0 ≤ i := by
        intro l
        induction l with
        | nil => intro pre j i e h; simp [chkL] at h
        | cons y l ih =>
          intro pre j i e h
          simp only [chkL] at h
          split at h
          · cases h; omega
          · split at h
            · cases h; omega
            · split at h
              · cases h; omega
              · exact ih _ _ _ _ h
      have h0 := hi _ _ _ _ _ h2
      exact this xs [] 0 i.toNat (by rw [Int.toNat_of_nonneg h0]; exact h2)
    · rename_i h2
      split at h
      · cases h
      · rename_i h3
        split at h
        · rename_i i e h4
          simp only at h
          subst h
          exfalso
          have : ∀ (l pre : List (ByteArray × List Int)) (j i : Nat), chkC xs.length pre l j ≠ some ((i : Int), 0) := by
            intro l
            induction l with
            | nil => intro pre j i h; simp [chkC] at h
            | cons y l ih =>
              intro pre j i h
              simp only [chkC] at h
              split at h
              · cases h
              · split at h
                · cases h
                · split at h
                  · cases h
                  · split at h
                    · cases h
                    · exact ih _ _ _ h
          have hi : ∀ (l pre : List (ByteArray × List Int)) (j : Nat) (i e : Int), chkC xs.length pre l j = some (i, e) → 0 ≤ i := by
            intro l
            induction l with
            | nil => intro pre j i e h; simp [chkC] at h
            | cons y l ih =>
              intro pre j i e h
              simp only [chkC] at h
              split at h
              · cases h; omega
              · split at h
                · cases h; omega
                · split at h
                  · cases h; omega
                  · split at h
                    · cases h; omega
                    · exact ih _ _ _ _ h
          have h0 := hi _ _ _ _ _ h4
          exact this cs [] 0 i.toNat (by rw [Int.toNat_of_nonneg h0]; exact h4)
        · rename_i h4
          simp [outB] at h1 h3
          exact ⟨by omega, by omega, by omega, by omega, chkL_none _ _ _ h2, fun c hc => (chkC_none _ _ _ _ h4 c hc).1, fun c hc => (chkC_none _ _ _ _ h4 c hc).2⟩

/-! ### What a copy shows, as bits -/

theorem maskAt_app (v : Int) : ∀ (xs ys : List Int) (k : Nat), maskAt (xs ++ ys) v k = maskAt xs v k + maskAt ys v (k + xs.length)
  | [], ys, k => by simp [maskAt]
  | x :: xs, ys, k => by simp only [List.cons_append, maskAt, maskAt_app v xs ys (k + 1), List.length_cons, Nat.add_assoc]; rw [Nat.add_comm 1 xs.length]

theorem maskAt_lt (v : Int) : ∀ (xs : List Int) (k : Nat), maskAt xs v k + 2 ^ k ≤ 2 ^ (k + xs.length)
  | [], k => by simp [maskAt]
  | x :: xs, k => by
    have := maskAt_lt v xs (k + 1)
    simp only [maskAt, List.length_cons]
    rw [show k + (xs.length + 1) = k + 1 + xs.length by omega]
    have h2 : 2 ^ (k + 1) = 2 ^ k + 2 ^ k := by rw [Nat.pow_succ]; omega
    rw [h2] at this
    have hp := Nat.two_pow_pos k
    split <;> omega

theorem mask_lt (xs : List Int) (v : Int) : mask xs v < 2 ^ xs.length := by
  have := maskAt_lt v xs 0
  simp only [Nat.pow_zero, Nat.zero_add] at this
  unfold mask; omega

theorem mask_step_ne {xs : List Int} {k : Nat} (hk : k < xs.length) {v : Int} (h : xs[k] ≠ v) : mask (xs.take (k + 1)) v = mask (xs.take k) v := by
  rw [take_succ' hk]; unfold mask; rw [maskAt_app]; simp only [maskAt, if_neg h, Nat.add_zero]

theorem or_pow {a k : Nat} (h : a < 2 ^ k) : a ||| 2 ^ k = a + 2 ^ k := by
  have := Nat.two_pow_add_eq_or_of_lt h 1
  rw [Nat.mul_one] at this
  rw [Nat.or_comm, ← this, Nat.add_comm]

theorem mask_step_eq {xs : List Int} {k : Nat} (hk : k < xs.length) {v : Int} (h : xs[k] = v) : mask (xs.take (k + 1)) v = mask (xs.take k) v ||| 2 ^ k := by
  have h1 := mask_lt (xs.take k) v
  rw [List.length_take, Nat.min_eq_left (by omega)] at h1
  rw [or_pow h1, take_succ' hk]; unfold mask; rw [maskAt_app]
  simp only [maskAt, if_pos h, Nat.add_zero, Nat.zero_add, List.length_take, Nat.min_eq_left (Nat.le_of_lt hk)]

/-- A copy's row. -/
def shRow (xs : List Int) : List Int := [(mask xs 0 : Nat), (mask xs 1 : Nat), (mask xs 2 : Nat)]

theorem shRow_step {xs : List Int} {k : Nat} (hk : k < xs.length) (hk5 : k < 63) (h0 : 0 ≤ xs[k]) (h2 : xs[k] ≤ 2) :
    ∃ a : Nat, getI (shRow (xs.take k)) xs[k] = some (a : Int) ∧ setI (shRow (xs.take k)) xs[k] (bitsI .or .i64 (a : Int) (shlI .i64 1 (k : Int))) = shRow (xs.take (k + 1)) := by
  have hlt : ∀ v, mask (xs.take k) v < 2 ^ 63 := fun v => Nat.lt_of_lt_of_le (mask_lt _ _) (Nat.pow_le_pow_right (by omega) (by rw [List.length_take]; omega))
  have hp : 2 ^ k < 2 ^ 63 := Nat.pow_lt_pow_right (by omega) hk5
  have hor : ∀ v, bitsI .or .i64 ((mask (xs.take k) v : Nat) : Int) (shlI .i64 1 (k : Int)) = ((mask (xs.take k) v ||| 2 ^ k : Nat) : Int) := fun v => by rw [shl_one hk5, or_nat (hlt v) hp]
  have h3 : xs[k] = 0 ∨ xs[k] = 1 ∨ xs[k] = 2 := by omega
  have hne : ∀ v, xs[k] ≠ v → mask (xs.take (k + 1)) v = mask (xs.take k) v := fun v h => mask_step_ne hk h
  have heq : ∀ v, xs[k] = v → mask (xs.take (k + 1)) v = mask (xs.take k) v ||| 2 ^ k := fun v h => mask_step_eq hk h
  rcases h3 with h3 | h3 | h3
  · refine ⟨mask (xs.take k) 0, by rw [h3]; rfl, ?_⟩
    rw [hor, h3]; unfold shRow; rw [heq 0 h3, hne 1 (by omega), hne 2 (by omega)]; rfl
  · refine ⟨mask (xs.take k) 1, by rw [h3]; rfl, ?_⟩
    rw [hor, h3]; unfold shRow; rw [heq 1 h3, hne 0 (by omega), hne 2 (by omega)]; rfl
  · refine ⟨mask (xs.take k) 2, by rw [h3]; rfl, ?_⟩
    rw [hor, h3]; unfold shRow; rw [heq 2 h3, hne 0 (by omega), hne 1 (by omega)]; rfl

/-- All rows, when so many copies, and of one more some loci, are looked at. -/
def shP (cs : List (ByteArray × List Int)) (i k : Nat) : List (List Int) :=
  (List.range 8).map fun j => if j < i then shRow ((cs.getD j (ByteArray.empty, [])).2) else if j = i then shRow ((cs.getD j (ByteArray.empty, [])).2.take k) else [0, 0, 0]

abbrev shT (cs : List (ByteArray × List Int)) (i : Nat) : List (List Int) := shP cs i 0

abbrev shL (cs : List (ByteArray × List Int)) : List (List Int) := shT cs cs.length

theorem shP_T {cs : List (ByteArray × List Int)} {i : Nat} (hi : i < cs.length) {k : Nat} (hk : cs[i].2.length ≤ k) : shP cs i k = shT cs (i + 1) := by
  simp only [shP, shT]
  apply List.map_congr_left
  intro j _
  by_cases h1 : j < i
  · simp [h1, show j < i + 1 from by omega]
  · by_cases h2 : j = i
    · subst h2
      have : (cs.getD j (ByteArray.empty, [])) = cs[j] := by rw [List.getD_eq_getElem?_getD, List.getElem?_eq_getElem hi]; rfl
      rw [if_neg h1, if_pos rfl, if_pos (Nat.lt_succ_self j), this, List.take_of_length_le hk]
    · by_cases h3 : j = i + 1
      · subst h3; rw [if_neg h1, if_neg h2, if_neg (Nat.lt_irrefl _), if_pos rfl]; rfl
      · rw [if_neg h1, if_neg h2, if_neg (by omega), if_neg h3]

theorem shP_get {cs : List (ByteArray × List Int)} {i : Nat} (hi : i < cs.length) (h8 : cs.length ≤ 8) (k : Nat) : (shP cs i k)[i]? = some (shRow (cs[i].2.take k)) := by
  have : (cs.getD i (ByteArray.empty, [])) = cs[i] := by rw [List.getD_eq_getElem?_getD, List.getElem?_eq_getElem hi]; rfl
  simp only [shP, List.getElem?_map, List.getElem?_range (show i < 8 by omega), Option.map_some, Nat.lt_irrefl, if_false, if_true, this]

theorem shP_set {cs : List (ByteArray × List Int)} {i : Nat} (hi : i < cs.length) (h8 : cs.length ≤ 8) (k : Nat) : (shP cs i k).set i (shRow (cs[i].2.take (k + 1))) = shP cs i (k + 1) := by
  have hc : (cs.getD i (ByteArray.empty, [])) = cs[i] := by rw [List.getD_eq_getElem?_getD, List.getElem?_eq_getElem hi]; rfl
  apply List.ext_getElem?
  intro j
  rw [List.getElem?_set]
  by_cases hj : i = j
  · subst hj
    simp only [if_true, shP_get hi h8]
    have : i < (shP cs i k).length := by simp [shP]; omega
    simp [this]
  · rw [if_neg hj]
    simp only [shP, List.getElem?_map]
    cases hr : (List.range 8)[j]? with
    | none => rfl
    | some a =>
      obtain ⟨ha, rfl⟩ := List.getElem?_eq_some_iff.1 hr
      simp only [List.getElem_range, Option.map_some, Ne.symm hj, if_false]

def fr71 (xs : List (ByteArray × Int)) (cs : List (ByteArray × List Int)) (m : Int) (i : Nat) (sh : List (List Int)) : St S :=
  { tmps := [.undef, .undef, .undef, .undef, .undef, .undef, .undef, .own 23 [], .undef, .undef, .undef, .undef, .undef, .undef, .undef, .undef, .undef, .undef, .undef, .undef, .undef, .undef, .undef, .undef, .undef, .undef, .undef, .undef, copsV cs, vI m, vI i, .undef, .undef, .undef, .undef, .undef, .undef, .undef, .undef, .undef, .undef, .undef, .undef, .undef, .undef, .undef, .undef, .undef, .undef, .undef, .undef, .undef, .undef, .undef, .undef, .undef, .undef, .undef, .undef, .undef, .undef], seg := [(23, .cells (fcs xs cs sh))], up := [] }

def fr71b (xs : List (ByteArray × Int)) (cs : List (ByteArray × List Int)) (m : Int) (i : Nat) (ss : List Int) (q : Int) (k : Nat) (sh : List (List Int)) : St S :=
  { tmps := [.undef, .undef, .undef, .undef, .undef, .undef, .undef, .own 23 [], vI i, .undef, .undef, .undef, .undef, .undef, .undef, .undef, .undef, .undef, .undef, .undef, .undef, .undef, .undef, .undef, .undef, .undef, .undef, .undef, copsV cs, vI m, vI i, .undef, .undef, .undef, .undef, .undef, vL ss, vI q, vI k, .undef, .undef, .undef, .undef, .undef, .undef, .undef, .undef, .undef, .undef, .undef, .undef, .undef, .undef, .undef, .undef, .undef, .undef, .undef, .undef, .undef, .undef], seg := [(23, .cells (fcs xs cs sh))], up := [] }

theorem c71 (gl : Gl) (xs : List (ByteArray × Int)) (cs : List (ByteArray × List Int)) (hx : xs.length ≤ 9223372036854775807) (hc : cs.length ≤ 9223372036854775807) (hcs : ∀ x ∈ cs, x.2.length ≤ 9223372036854775807) :
    PCalls PR gl 71 [forV xs cs] fun r => r = if (chk xs cs).2.2 = 0 then .tup [.ref (fcs xs cs (shL cs)), vI 0] else .tup [.nilp, vI (chk xs cs).2.2] := by
  refine fnW_sound (par_ok gl) Tryd.func71 ?_
  conv => whnf
  refine byC (c16 gl xs cs hx hc hcs) op16 ?_
  conv => whnf
  refine bcase_iff.2 ⟨fun h => ?_, fun h => ?_⟩
  · have h : (chk xs cs).2.2 ≠ 0 := by have : ((chk xs cs).2.2 != 0) = true := h; simpa using this
    conv => whnf
    rw [if_neg h]
  · have h : (chk xs cs).2.2 = 0 := by have : ((chk xs cs).2.2 != 0) = false := h; simpa using this
    have hv := chk_valid h
    conv => whnf
    refine ⟨⟨1879048320, [1], []⟩, ?_⟩
    refine LoopW_ind _ (fun s : List (List Int) × Nat => fr71 xs cs cs.length s.2 s.1) (fun s => s.1 = shT cs s.2 ∧ s.2 ≤ cs.length) (fun s => cs.length - s.2) () ?_ (_, 0) ⟨?_, Nat.zero_le _⟩
    · rintro ⟨sh, i⟩ ⟨hsh, hi⟩ Z hZ
      simp only at hsh hi
      subst hsh
      conv => whnf
      refine bcase_iff.2 ⟨fun h1 => ?_, fun h1 => ?_⟩
      · have hlt : i < cs.length := by have := of_decide_eq_true h1; simp only at this; omega
        have hw : IntKind.i64.wrap ((i : Int) + 1) = ((i + 1 : Nat) : Int) := wrap_nat (by have := hv.c8; omega)
        have hlen := hv.len _ (List.getElem_mem hlt)
        conv => whnf
        refine ⟨_, getI_nat hlt, ?_⟩
        conv => whnf
        refine ⟨⟨482915385728, [9, 2009], [2009]⟩, ?_⟩
        refine LoopW_ind _ (fun s : List (List Int) × Nat => fr71b xs cs cs.length i cs[i].2 cs[i].2.length s.2 s.1) (fun s => s.1 = shP cs i s.2 ∧ s.2 ≤ cs[i].2.length) (fun s => cs[i].2.length - s.2) () ?_ (_, 0) ⟨rfl, Nat.zero_le _⟩
        rintro ⟨sh, k⟩ ⟨hsh, hk⟩ Z2 hZ2
        simp only at hsh hk
        subst hsh
        conv => whnf
        refine bcase_iff.2 ⟨fun h2 => ?_, fun h2 => ?_⟩
        · have hkt : k < cs[i].2.length := by have := of_decide_eq_true h2; simp only at this; omega
          have hk5 : k < 63 := by have := hv.l5; omega
          have hwk : IntKind.i64.wrap ((k : Int) + 1) = ((k + 1 : Nat) : Int) := wrap_nat (by omega)
          obtain ⟨hs0, hs2⟩ := hv.shows _ (List.getElem_mem hlt) _ (List.getElem_mem hkt)
          obtain ⟨a, hg, hset⟩ := shRow_step hkt hk5 hs0 hs2
          conv => whnf
          refine ⟨_, getI_nat hkt, ?_⟩
          conv => whnf
          refine ⟨[0, 1, 2, 3, 4, 5, 6, 7, 8, 9, 10, 11, 12, 13, 14, 15], [], [], [], ⟨2305843009213693951, [], []⟩, by decide +kernel, ?_⟩
          conv => whnf
          refine ⟨Int.natCast_nonneg _, by have := hv.c8; omega, ?_⟩
          conv => whnf
          refine ⟨hs0, by omega, ?_⟩
          conv => whnf
          refine ⟨_, getI_some' (shP_get hlt hv.c8 k), ?_⟩
          conv => whnf
          refine ⟨_, hg, ?_⟩
          conv => whnf
          refine ⟨Int.natCast_nonneg _, ?_⟩
          conv => whnf
          refine ⟨Int.natCast_nonneg _, by have := hv.c8; omega, ?_⟩
          conv => whnf
          refine ⟨hs0, by omega, ?_⟩
          conv => whnf
          refine ⟨_, getI_some' (shP_get hlt hv.c8 k), ?_⟩
          conv => whnf
          refine ⟨_, hg, ?_⟩
          conv => whnf
          refine ⟨_, rfl, ?_⟩
          conv => whnf
          refine ⟨_, rfl, ?_⟩
          conv => whnf
          refine ⟨⟨482915385728, [], []⟩, ?_⟩
          have hst : setI (shP cs i k) (i : Int) (setI (shRow (cs[i].2.take k)) cs[i].2[k] (bitsI .or .i64 (a : Int) (shlI .i64 1 (k : Int)))) = shP cs i (k + 1) := by
            rw [hset]; exact shP_set hlt hv.c8 k
          have := hZ2 (_, k + 1) ⟨hst, hkt⟩ (by simp only; omega)
          unfold fr71b at this
          simp only at this
          rw [← hwk] at this
          exact this
        · have hge : k = cs[i].2.length := by have := of_decide_eq_false h2; simp only at this; omega
          conv => whnf
          refine ⟨⟨1879048320, [], []⟩, ?_⟩
          have := hZ (shP cs i k, i + 1) ⟨shP_T hlt (by omega), hlt⟩ (by simp only; omega)
          unfold fr71 at this
          simp only at this
          rw [← hw] at this
          exact this
      · have hge : i = cs.length := by have := of_decide_eq_false h1; simp only at this; omega
        subst hge
        conv => whnf
        rw [if_pos h]
    · rfl

theorem op71 : Opens PR 71 := ⟨_, Tryd.func71, rfl, rfl⟩
end Go.Ab.StF

namespace Go.Ab.StF
open Go Go.Ab Go.Proofs
set_option maxHeartbeats 1000000
set_option maxRecDepth 100000

/-- A call by contract whose result is not one value. -/
theorem byR {gl : Gl} {f : FuncId} {args : List (AV S)} {R Q : AV S → Prop} (h : PCalls PR gl f args R) (ho : Opens PR f) (hw : ∃ r, R r) (hQ : ∀ r, R r → Q r) : PCalls PR gl f args Q ∧ Opens PR f ∧ ∃ r, Q r :=
  ⟨h.mono hQ, ho, hw.imp fun r h => hQ r h⟩

theorem c76 (gl : Gl) (cs : List (AV S)) (n : Nat) : PCalls PR gl 76 [.ref cs, vI n] fun r => r = .clo (.func 115) [] [.ref [.ref cs], .ref [vI n]] := fnW_sound (par_ok gl) Tryd.func76 rfl
theorem op76 : Opens PR 76 := ⟨_, Tryd.func76, rfl, rfl⟩
theorem op77 : Opens PR 77 := ⟨_, Tryd.func77, rfl, rfl⟩

def metL (os : List Int) : Nat := os.foldl (fun m k => m ||| 2 ^ k.toNat) 0

def argE (xs : List (ByteArray × Int)) (fs : List Int) (i : Nat) : Bool := ((xs.zip fs).drop i).any fun p => p.1.2 != 0 && p.1.2 != p.2

def entE (xs : List (ByteArray × Int)) (fs os : List Int) : Int :=
  if (fs.length : Int) != (xs.length : Int) || (os.length : Int) != (xs.length : Int) then 3 else if fs.any (outB 1 2) || os.any (outB 0 ((xs.length : Int) - 1)) then 7 else
  if metL os ≠ 2 ^ xs.length - 1 then 5 else if argE xs fs 0 then 2 else 0

abbrev arrI (os : List Int) (i : Nat) : List Int := os.take i ++ List.replicate (5 - i) 0

def fr72 (cs : List (AV S)) (fs os : List Int) (n m : Int) (i met : Nat) (l : List Int) : St S :=
  { tmps := [.ref cs, .undef, .undef, .own 3 [], .own 4 [], .undef, vI n, vI met, .undef, .undef, .undef, .undef, .undef, .undef, .undef, .undef, .undef, .undef, .undef, .undef, .undef, .undef, .undef, .undef, .undef, .undef, .undef, .undef, .undef, .undef, .undef, .undef, .undef, .undef, .undef, .undef, .undef, .undef, .undef, .undef, .undef, .undef, .undef, .undef, .undef, vL os, vI m, vI i, .undef, .undef, .undef, .undef, .undef, .undef, .undef, .undef, .undef, .undef, .undef, .undef, .undef, .undef, .undef, .undef, .undef, .undef, .undef, .undef, .undef, .undef, .undef, .undef, .undef, .undef, .undef, .undef, .undef, .undef, .undef, .undef, .undef, .undef, .undef, .undef, .undef, .undef, .undef, .undef, .undef, .undef, .undef, .undef, .undef, .undef, .undef, .undef, .undef, .undef, .undef, .undef, .undef, .undef, .undef, .undef, .undef, .undef]
    seg := [(3, .cells [vL fs, vL os]), (4, .cells [vI 0, .arr (S := S) U.int 5 l])], up := [] }

def fr72b (xs : List (ByteArray × Int)) (fs os : List Int) (m : Int) (i f : Nat) (l : List Int) : St S :=
  { tmps := [.undef, .undef, .undef, .own 3 [], .own 4 [], .undef, .undef, .undef, .undef, .undef, .undef, .undef, .undef, .undef, .undef, .undef, .undef, .undef, .undef, .undef, .undef, .undef, .undef, .undef, .undef, .undef, .undef, .undef, .undef, .undef, .undef, .undef, .undef, .undef, .undef, .undef, .undef, .undef, .undef, .undef, .undef, .undef, .undef, .undef, .undef, .undef, .undef, .undef, .undef, .undef, .undef, .undef, .undef, .undef, .undef, .undef, .undef, .undef, .undef, .undef, .undef, .undef, .undef, .undef, .undef, .undef, .undef, .undef, .undef, .undef, .undef, lociV xs, vI m, vI i, .undef, .undef, .undef, .undef, .undef, .undef, .undef, .undef, .undef, .undef, .undef, .undef, .undef, .undef, .undef, .undef, .undef, .undef, .undef, .undef, .undef, .undef, .undef, .undef, .undef, .undef, .undef, .undef, .undef, .undef, .undef, .undef]
    seg := [(3, .cells [vL fs, vL os]), (4, .cells [vI f, .arr (S := S) U.int 5 l])], up := [] }

theorem metL_lt {os : List Int} {n : Nat} (h : ∀ k ∈ os, 0 ≤ k ∧ k < n) : metL os < 2 ^ n := by
  have : ∀ (l : List Int) (m : Nat), (∀ k ∈ l, 0 ≤ k ∧ k < n) → m < 2 ^ n → l.foldl (fun m k => m ||| 2 ^ k.toNat) m < 2 ^ n := fun l => by
    induction l with
    | nil => exact fun m _ h => h
    | cons k l ih =>
      intro m h hm
      have := h k (List.mem_cons_self ..)
      exact ih _ (fun k hk => h k (List.mem_cons_of_mem _ hk)) (Nat.or_lt_two_pow hm (Nat.pow_lt_pow_right (by omega) (by omega)))
  exact this os 0 h (Nat.two_pow_pos n)

theorem metL_snoc (os : List Int) (k : Int) : metL (os ++ [k]) = metL os ||| 2 ^ k.toNat := by simp [metL]

theorem arrI_set {os : List Int} {i : Nat} (hi : i < os.length) (h5 : os.length ≤ 5) : (arrI os i).set i os[i] = arrI os (i + 1) := by
  unfold arrI
  have h1 : (os.take i).length = i := by rw [List.length_take]; omega
  rw [List.set_append_right _ _ (by omega), h1, Nat.sub_self, show 5 - i = (5 - (i + 1)) + 1 by omega, List.replicate_succ, List.set_cons_zero, take_succ' hi, List.append_assoc]
  rfl

theorem arrI_full {os : List Int} (_h5 : os.length ≤ 5) (hk : ∀ k ∈ os, 0 ≤ k) : arrI os os.length = natsV (pad5 (os.map Int.toNat)) := by
  unfold arrI
  rw [List.take_length]
  simp only [natsV, pad5, List.map_append, List.map_map, List.length_map, List.map_replicate]
  congr 1
  conv => lhs; rw [← List.map_id os]
  apply List.map_congr_left
  intro k hk'
  have := hk k hk'
  simp; omega

theorem wrap_sub1 {n : Nat} (h1 : 1 ≤ n) (h2 : n < 2 ^ 62) : IntKind.i64.wrap ((n : Int) - 1) = ((n - 1 : Nat) : Int) := by
  rw [wrap_int (by omega) (by have : (2 : Nat) ^ 62 = 4611686018427387904 := rfl; omega)]; omega

def R72 (xs : List (ByteArray × Int)) (fs os : List Int) (r : AV S) : Prop :=
  (entE xs fs os ≠ 0 ∧ ∃ (a : Int) (l : List Int), r = .tup [.agg [vI a, .arr (S := S) U.int 5 l], vI (entE xs fs os)]) ∨ (entE xs fs os = 0 ∧ r = .tup [ordV (mask fs 2) (pad5 (os.map Int.toNat)), vI 0])

theorem R72_ex (xs : List (ByteArray × Int)) (fs os : List Int) : ∃ r, R72 xs fs os r := by
  by_cases h : entE xs fs os = 0
  · exact ⟨_, .inr ⟨h, rfl⟩⟩
  · exact ⟨_, .inl ⟨h, 0, [], rfl⟩⟩

theorem c72 (gl : Gl) (xs : List (ByteArray × Int)) (cs : List (ByteArray × List Int)) (sh : List (List Int)) (h1 : 1 ≤ xs.length) (h5 : xs.length ≤ 5) (fs os : List Int) (hf : fs.length ≤ 9223372036854775807) (ho : os.length ≤ 9223372036854775807) :
    PCalls PR gl 72 [.ref (fcs xs cs sh), .agg [vL fs, vL os]] (R72 xs fs os) := by
  refine fnW_sound (par_ok gl) Tryd.func72 ?_
  conv => whnf
  refine bcase_iff.2 ⟨fun h => ?_, fun h => ?_⟩
  · have h : ((fs.length : Int) != (xs.length : Int)) = true := h
    have hE : entE xs fs os = 3 := by unfold entE; rw [h, Bool.true_or, if_pos rfl]
    conv => whnf
    exact .inl ⟨by rw [hE]; decide, _, _, by rw [hE]⟩
  · have h : ((fs.length : Int) != (xs.length : Int)) = false := h
    conv => whnf
    refine bcase_iff.2 ⟨fun h2 => ?_, fun h2 => ?_⟩
    · have h2 : ((os.length : Int) != (xs.length : Int)) = true := h2
      have hE : entE xs fs os = 3 := by unfold entE; rw [h2, Bool.or_true, if_pos rfl]
      conv => whnf
      exact .inl ⟨by rw [hE]; decide, _, _, by rw [hE]⟩
    · have h2 : ((os.length : Int) != (xs.length : Int)) = false := h2
      have hE1 : entE xs fs os = if fs.any (outB 1 2) || os.any (outB 0 ((xs.length : Int) - 1)) then 7 else if metL os ≠ 2 ^ xs.length - 1 then 5 else if argE xs fs 0 then 2 else 0 := by
        unfold entE; rw [h, h2]; rfl
      have hfl : fs.length = xs.length := by have : (fs.length : Int) = xs.length := by simpa using h
                                             omega
      have hol : os.length = xs.length := by have : (os.length : Int) = xs.length := by simpa using h2
                                             omega
      conv => whnf
      refine byC (c63 gl fs hf 1 2) op63 ?_
      have hr7 : (fs.any (outB 1 2) || os.any (outB 0 ((xs.length : Int) - 1))) = true → entE xs fs os = 7 := fun h => by rw [hE1, if_pos h]
      conv => whnf
      refine bcase_iff.2 ⟨fun h3 => ?_, fun h3 => ?_⟩
      · have hE := hr7 (by rw [show fs.any (outB 1 2) = true from h3, Bool.true_or])
        conv => whnf
        exact .inl ⟨by rw [hE]; decide, _, _, by rw [hE]⟩
      · have h3 : fs.any (outB 1 2) = false := h3
        conv => whnf
        refine byC (c63 gl os ho 0 (IntKind.i64.wrap ((xs.length : Int) - 1))) op63 ?_
        rw [show IntKind.i64.wrap ((xs.length : Int) - 1) = (xs.length : Int) - 1 from wrap_int (by omega) (by omega)]
        conv => whnf
        refine bcase_iff.2 ⟨fun h4 => ?_, fun h4 => ?_⟩
        · have h4 : os.any (outB 0 ((xs.length : Int) - 1)) = true := h4
          have hE := hr7 (by rw [h4, Bool.or_true])
          conv => whnf
          exact .inl ⟨by rw [hE]; decide, _, _, by rw [hE]⟩
        · have h4 : os.any (outB 0 ((xs.length : Int) - 1)) = false := h4
          have hE2 : entE xs fs os = if metL os ≠ 2 ^ xs.length - 1 then 5 else if argE xs fs 0 then 2 else 0 := by rw [hE1, h3, h4]; rfl
          have hk : ∀ k ∈ os, 0 ≤ k ∧ k < (xs.length : Nat) := fun k hk => by
            rw [List.any_eq_false] at h4
            have := h4 k hk
            simp [outB] at this; omega
          have hfk : ∀ k ∈ fs, 1 ≤ k ∧ k ≤ 2 := fun k hk => by
            rw [List.any_eq_false] at h3
            have := h3 k hk
            simp [outB] at this; omega
          conv => whnf
          refine ⟨⟨246290604622041, [], []⟩, ?_⟩
          refine LoopW_ind _ (fun s : List Int × Nat × Nat => fr72 (fcs xs cs sh) fs os xs.length os.length s.2.1 s.2.2 s.1) (fun s => s.1 = arrI os s.2.1 ∧ s.2.1 ≤ os.length ∧ s.2.2 = metL (os.take s.2.1)) (fun s => os.length - s.2.1) () ?_ (_, 0, 0) ⟨rfl, Nat.zero_le _, rfl⟩
          rintro ⟨l, i, m⟩ ⟨hl, hi, hm⟩ Z hZ
          simp only at hl hi hm
          subst hl hm
          conv => whnf
          refine bcase_iff.2 ⟨fun h5' => ?_, fun h5' => ?_⟩
          · have hlt : i < os.length := by have := of_decide_eq_true h5'; simp only at this; omega
            have hw : IntKind.i64.wrap ((i : Int) + 1) = ((i + 1 : Nat) : Int) := wrap_nat (by omega)
            obtain ⟨hk0, hk1⟩ := hk _ (List.getElem_mem hlt)
            have hai : i < (arrI os i).length := by simp; omega
            conv => whnf
            refine ⟨_, getI_nat hlt, ?_⟩
            conv => whnf
            refine ⟨Int.natCast_nonneg _, by simp only; omega, ?_⟩
            conv => whnf
            refine ⟨_, getI_nat hai, ?_⟩
            conv => whnf
            refine ⟨_, rfl, ?_⟩
            conv => whnf
            refine ⟨hk0, ?_⟩
            conv => whnf
            refine ⟨⟨246290604622041, [], []⟩, ?_⟩
            have hor : bitsI .or .i64 ((metL (os.take i) : Nat) : Int) (shlI .i64 1 os[i]) = ((metL (os.take (i + 1)) : Nat) : Int) := by
              obtain ⟨q, hq⟩ : ∃ q : Nat, os[i] = q := ⟨os[i].toNat, by omega⟩
              have hml : metL (os.take i) < 2 ^ 63 := Nat.lt_of_lt_of_le (metL_lt (n := xs.length) fun k hk' => hk k (List.mem_of_mem_take hk')) (Nat.pow_le_pow_right (by omega) (by omega))
              rw [take_succ' hlt, metL_snoc, hq, shl_one (by omega), or_nat hml (Nat.pow_lt_pow_right (by omega) (by omega)), Int.toNat_natCast]
            have hset : setI (arrI os i) (i : Int) os[i] = arrI os (i + 1) := arrI_set hlt (by omega)
            have := hZ (_, i + 1, metL (os.take (i + 1))) ⟨hset, hlt, rfl⟩ (by simp only; omega)
            unfold fr72 at this
            simp only at this
            rw [← hw, ← hor] at this
            exact this
          · have hge : i = os.length := by have := of_decide_eq_false h5'; simp only at this; omega
            subst hge
            rw [List.take_length]
            have hshl : IntKind.i64.wrap (shlI .i64 1 (xs.length : Int) - 1) = ((2 ^ xs.length - 1 : Nat) : Int) := by
              rw [shl_one (by omega)]
              have : 2 ^ xs.length < 2 ^ 62 := Nat.pow_lt_pow_right (by omega) (by omega)
              exact wrap_sub1 (Nat.two_pow_pos _) this
            conv => whnf
            refine ⟨Int.natCast_nonneg _, ?_⟩
            conv => whnf
            refine bcase_iff.2 ⟨fun h6 => ?_, fun h6 => ?_⟩
            · have h6 : metL os ≠ 2 ^ xs.length - 1 := by
                have h6 : (((metL os : Nat) : Int) != IntKind.i64.wrap (shlI .i64 1 (xs.length : Int) - 1)) = true := h6
                rw [hshl] at h6
                intro e; rw [e] at h6; simp at h6
              have hE : entE xs fs os = 5 := by rw [hE2, if_pos h6]
              conv => whnf
              exact .inl ⟨by rw [hE]; decide, _, _, by rw [hE]⟩
            · have h6 : metL os = 2 ^ xs.length - 1 := by
                have h6 : (((metL os : Nat) : Int) != IntKind.i64.wrap (shlI .i64 1 (xs.length : Int) - 1)) = false := h6
                rw [hshl] at h6
                have : ((metL os : Nat) : Int) = ((2 ^ xs.length - 1 : Nat) : Int) := by simpa using h6
                omega
              have hE3 : entE xs fs os = if argE xs fs 0 then 2 else 0 := by rw [hE2, if_neg (by rw [h6]; simp)]
              conv => whnf
              refine ⟨⟨16528282690043758247960, [], []⟩, ?_⟩
              refine LoopW_ind _ (fun s : Nat × Nat => fr72b xs fs os xs.length s.1 s.2 (arrI os os.length)) (fun s => s.1 ≤ xs.length ∧ s.2 = mask (fs.take s.1) 2 ∧ argE xs fs 0 = argE xs fs s.1) (fun s => xs.length - s.1) () ?_ (0, 0) ⟨Nat.zero_le _, rfl, rfl⟩
              rintro ⟨i, f⟩ ⟨hi, hf', hA⟩ Z hZ
              simp only at hi hf' hA
              subst hf'
              conv => whnf
              refine bcase_iff.2 ⟨fun h7 => ?_, fun h7 => ?_⟩
              · have hlt : i < xs.length := by have := of_decide_eq_true h7; simp only at this; omega
                have hltf : i < fs.length := by omega
                have hw : IntKind.i64.wrap ((i : Int) + 1) = ((i + 1 : Nat) : Int) := wrap_nat (by omega)
                have hz : (xs.zip fs).drop i = (xs[i], fs[i]) :: (xs.zip fs).drop (i + 1) := by
                  rw [List.drop_eq_getElem_cons (by simp; omega)]; simp
                have hA' : argE xs fs i = (xs[i].2 != 0 && xs[i].2 != fs[i] || argE xs fs (i + 1)) := by unfold argE; rw [hz, List.any_cons]
                have hgo : (xs[i].2 != 0 && xs[i].2 != fs[i]) = false → entE xs fs os = if argE xs fs (i + 1) then 2 else 0 := fun h => by rw [hE3, hA, hA', h]; rfl
                have hno : (xs[i].2 != 0 && xs[i].2 != fs[i]) = true → entE xs fs os = 2 := fun h => by rw [hE3, hA, hA', h]; rfl
                conv => whnf
                refine ⟨_, getI_nat hlt, ?_⟩
                conv => whnf
                refine ⟨[0, 1, 2, 3, 4, 5, 6, 7, 8, 9, 10, 11, 12], [], [], [], ⟨81129638414606681695789005144063, [], []⟩, by decide +kernel, ?_⟩
                have hml : mask (fs.take i) 2 < 2 ^ 63 := Nat.lt_of_lt_of_le (mask_lt _ _) (Nat.pow_le_pow_right (by omega) (by rw [List.length_take]; omega))
                have hp : 2 ^ i < 2 ^ 63 := Nat.pow_lt_pow_right (by omega) (by omega)
                conv => whnf
                refine bcase_iff.2 ⟨fun h8 => ?_, fun h8 => ?_⟩
                · have h8 : (xs[i].2 != 0) = true := h8
                  conv => whnf
                  refine ⟨_, getI_nat hltf, ?_⟩
                  conv => whnf
                  refine bcase_iff.2 ⟨fun h9 => ?_, fun h9 => ?_⟩
                  · have h9 : (xs[i].2 != fs[i]) = true := h9
                    have hE := hno (by rw [h8, h9]; rfl)
                    conv => whnf
                    exact .inl ⟨by rw [hE]; decide, _, _, by rw [hE]⟩
                  · have h9 : (xs[i].2 != fs[i]) = false := h9
                    have hz0 : (xs[i].2 != 0 && xs[i].2 != fs[i]) = false := by rw [h9, Bool.and_false]
                    conv => whnf
                    refine ⟨_, getI_nat hltf, ?_⟩
                    conv => whnf
                    refine bcase_iff.2 ⟨fun h10 => ?_, fun h10 => ?_⟩
                    · have h10 : (fs[i] == 2) = true := h10
                      have hm := mask_step_eq hltf (v := 2) (by simpa using h10)
                      conv => whnf
                      refine ⟨[0, 1, 2, 3, 4, 5, 6], [], [], [], ⟨81129638414606681695789005144063, [], []⟩, by decide +kernel, ?_⟩
                      conv => whnf
                      refine ⟨Int.natCast_nonneg _, ?_⟩
                      conv => whnf
                      refine ⟨⟨16528282690043758247960, [11], []⟩, ?_⟩
                      have := hZ (i + 1, mask (fs.take (i + 1)) 2) ⟨hlt, rfl, hA.trans (by rw [hA', hz0, Bool.false_or])⟩ (by simp only; omega)
                      unfold fr72b at this
                      simp only at this
                      rw [hm, ← or_nat hml hp, ← shl_one (by omega), ← hw] at this
                      exact this
                    · have h10 : (fs[i] == 2) = false := h10
                      have hm := mask_step_ne hltf (v := 2) (by simpa using h10)
                      conv => whnf
                      refine ⟨⟨16528282690043758247960, [11], []⟩, ?_⟩
                      have := hZ (i + 1, mask (fs.take (i + 1)) 2) ⟨hlt, rfl, hA.trans (by rw [hA', hz0, Bool.false_or])⟩ (by simp only; omega)
                      unfold fr72b at this
                      simp only at this
                      rw [hm, ← hw] at this
                      exact this
                · have h8 : (xs[i].2 != 0) = false := h8
                  have hz0 : (xs[i].2 != 0 && xs[i].2 != fs[i]) = false := by rw [h8, Bool.false_and]
                  conv => whnf
                  refine ⟨_, getI_nat hltf, ?_⟩
                  conv => whnf
                  refine bcase_iff.2 ⟨fun h10 => ?_, fun h10 => ?_⟩
                  · have h10 : (fs[i] == 2) = true := h10
                    have hm := mask_step_eq hltf (v := 2) (by simpa using h10)
                    conv => whnf
                    refine ⟨[0, 1, 2, 3, 4, 5, 6], [], [], [], ⟨81129638414606681695789005144063, [], []⟩, by decide +kernel, ?_⟩
                    conv => whnf
                    refine ⟨Int.natCast_nonneg _, ?_⟩
                    conv => whnf
                    refine ⟨⟨16528282690043758247960, [11], []⟩, ?_⟩
                    have := hZ (i + 1, mask (fs.take (i + 1)) 2) ⟨hlt, rfl, hA.trans (by rw [hA', hz0, Bool.false_or])⟩ (by simp only; omega)
                    unfold fr72b at this
                    simp only at this
                    rw [hm, ← or_nat hml hp, ← shl_one (by omega), ← hw] at this
                    exact this
                  · have h10 : (fs[i] == 2) = false := h10
                    have hm := mask_step_ne hltf (v := 2) (by simpa using h10)
                    conv => whnf
                    refine ⟨⟨16528282690043758247960, [11], []⟩, ?_⟩
                    have := hZ (i + 1, mask (fs.take (i + 1)) 2) ⟨hlt, rfl, hA.trans (by rw [hA', hz0, Bool.false_or])⟩ (by simp only; omega)
                    unfold fr72b at this
                    simp only at this
                    rw [hm, ← hw] at this
                    exact this
              · have hge : i = xs.length := by have := of_decide_eq_false h7; simp only at this; omega
                have hA0 : argE xs fs i = false := by unfold argE; rw [List.drop_eq_nil_of_le (by simp; omega)]; rfl
                conv => whnf
                refine .inr ⟨by rw [hE3, hA, hA0]; rfl, ?_⟩
                rw [arrI_full (by omega) fun k hk' => (hk k hk').1, List.take_of_length_le (by omega)]

theorem op72 : Opens PR 72 := ⟨_, Tryd.func72, rfl, rfl⟩
theorem op73 : Opens PR 73 := ⟨_, Tryd.func73, rfl, rfl⟩
end Go.Ab.StF

namespace Go.Ab.StF
open Go Go.Ab Go.Proofs
set_option maxHeartbeats 1000000
set_option maxRecDepth 100000

theorem eachW_indS {A σ : Type} {X : Type} {pin params : List Nat} {Bd : (AExit → St S → X → Prop) → St S → X → Prop} {Q : AExit → St S → X → Prop} (enc : A → List (AV S)) (ts : List (AV S)) (sg : σ → List (Nat × AO S)) (up : List (Nat × AO S)) (R : List A → σ → X → Prop)
    (hnil : ∀ s x, R [] s x → Q .normal { tmps := ts, seg := sg s, up := up } x)
    (hcons : ∀ a l s x, R (a :: l) s x → ∀ Z : List (Nat × AO S) → List (Nat × AO S) → X → Prop, (∀ s' x', R l s' x' → Z (sg s') up x') → eachW.setsK params (enc a) ts fun ts' => Bd (fun e st' x' => match e with
      | .normal => ∃ m, wkP pin m st' fun s => match (boxesOf s.seg []).all (memb pin) with
        | true => Z s.seg s.up x'
        | false => False
      | e => Q e { tmps := ts, seg := st'.seg, up := st'.up } x') { tmps := ts', seg := sg s, up := up } x) :
    ∀ (l : List A) (s : σ) (x : X), R l s x → eachW pin params ts Bd Q (l.map enc) (sg s) up x
  | [], s, x, h => hnil s x h
  | a :: l, s, x, h => hcons a l s x h (fun sg' up' x' => eachW pin params ts Bd Q (l.map enc) sg' up' x') fun s' x' hR => eachW_indS enc ts sg up R hnil hcons l s' x' hR

/-- The masks of copies. -/
def msL (cs : List (ByteArray × List Int)) : List (Nat × Nat) := cs.map fun c => (mask c.2 1, mask c.2 2)

theorem shL_get {cs : List (ByteArray × List Int)} {i : Nat} (hi : i < cs.length) (h8 : cs.length ≤ 8) : (shL cs)[i]? = some (shRow cs[i].2) := by
  have : (cs.getD i (ByteArray.empty, [])) = cs[i] := by rw [List.getD_eq_getElem?_getD, List.getElem?_eq_getElem hi]; rfl
  simp only [shL, shT, shP, List.getElem?_map, List.getElem?_range (show i < 8 by omega), Option.map_some, if_pos hi, this]

theorem msL_get {cs : List (ByteArray × List Int)} {i : Nat} (hi : i < cs.length) : (msL cs).getD i (0, 0) = (mask cs[i].2 1, mask cs[i].2 2) := by
  simp [msL, List.getD_eq_getElem?_getD, hi]

theorem mask63 {xs : List (ByteArray × Int)} {cs : List (ByteArray × List Int)} (h : Valid xs cs) {c : ByteArray × List Int} (hc : c ∈ cs) (v : Int) : mask c.2 v < 2 ^ 63 :=
  Nat.lt_of_lt_of_le (mask_lt _ _) (Nat.pow_le_pow_right (by omega) (by rw [h.len c hc]; have := h.l5; omega))

theorem masks_ok {xs : List (ByteArray × Int)} {cs : List (ByteArray × List Int)} (h : Valid xs cs) : Masks cs (shL cs) (msL cs) := by
  refine ⟨by simp [msL], fun i hi => ?_, fun i => ?_⟩
  · have hi : i < cs.length := by simpa [msL] using hi
    exact ⟨(mask cs[i].2 0 : Nat), by rw [shL_get hi h.c8, msL_get hi]; rfl⟩
  · rcases Nat.lt_or_ge i cs.length with hi | hi
    · rw [msL_get hi]; exact ⟨mask63 h (List.getElem_mem hi) 1, mask63 h (List.getElem_mem hi) 2⟩
    · rw [List.getD_eq_getElem?_getD, List.getElem?_eq_none (by simpa [msL] using hi)]; exact ⟨Nat.two_pow_pos _, Nat.two_pow_pos _⟩

/-- The orders with which a set of copies agrees. -/
def ordS (xs : List (ByteArray × Int)) (cs : List (ByteArray × List Int)) (set : Nat) : List (Nat × List Nat) := ordersL (xs.map Prod.snd) xs.length (msL cs) set

abbrev whl (cs : List (ByteArray × List Int)) : Nat := 2 ^ cs.length - 1

theorem whl_lt {xs : List (ByteArray × Int)} {cs : List (ByteArray × List Int)} (h : Valid xs cs) : whl cs < 2 ^ 63 := by
  have : 2 ^ cs.length < 2 ^ 63 := Nat.pow_lt_pow_right (by omega) (by have := h.c8; omega)
  show 2 ^ cs.length - 1 < _; omega

theorem itS (gl : Gl) {xs : List (ByteArray × Int)} {cs : List (ByteArray × List Int)} (h : Valid xs cs) (set : Nat) (hset : set < 2 ^ 63) :
    ICalls PR gl 115 [.ref [.ref (fcs xs cs (shL cs))], .ref [vI set]] ((ordS xs cs set).map fun p => [ordV p.1 p.2]) := it115 gl xs cs (shL cs) h.l5 h.c8 (msL cs) (masks_ok h) set hset

abbrev FC (xs : List (ByteArray × Int)) (cs : List (ByteArray × List Int)) : AV S := .ref (fcs xs cs (shL cs))

def stepsOf (n : Nat) (m : Nat × Nat) (f : Nat) (os : List Nat) : Nat × Nat := stepsGo (fixedM m.1 m.2 f) (looseM m.1 m.2 f) (os.take n) 0 0 n

theorem cSteps (gl : Gl) {xs : List (ByteArray × Int)} {cs : List (ByteArray × List Int)} (h : Valid xs cs) (i f : Nat) (hi : i < cs.length) (hf : f < 2 ^ 63) (os : List Nat) (ho : os.length = 5) (hos : ∀ k ∈ os, k < 64) :
    PCalls PR gl 73 [FC xs cs, vI i, ordV f os] fun r => r = .agg [vI (stepsOf xs.length ((msL cs).getD i (0, 0)) f os).1, vI (stepsOf xs.length ((msL cs).getD i (0, 0)) f os).2] := by
  have hm := masks_ok h
  obtain ⟨u, hu⟩ := hm.sh i (by rw [hm.len]; exact hi)
  obtain ⟨ha, hb⟩ := hm.lt i
  exact c73 gl xs cs (shL cs) i f _ _ u os hu hf ha hb h.l5 ho hos

/-! ### Odd -/

def oddB (xs : List (ByteArray × Int)) (cs : List (ByteArray × List Int)) (f : Nat) (os : List Nat) (i : Nat) : Bool :=
  decide ((stepsOf xs.length ((msL cs).getD i (0, 0)) f os).1 > (stepsOf xs.length ((msL cs).getD i (0, 0)) f os).2)

def oddUp (xs : List (ByteArray × Int)) (cs : List (ByteArray × List Int)) (f : Nat) (os : List Nat) (i : Nat) : List Int := natsV ((List.range i).filter (oddB xs cs f os))

theorem oddUp_succ (xs : List (ByteArray × Int)) (cs : List (ByteArray × List Int)) (f : Nat) (os : List Nat) (i : Nat) :
    oddUp xs cs f os (i + 1) = if oddB xs cs f os i then oddUp xs cs f os i ++ [(i : Int)] else oddUp xs cs f os i := by
  simp only [oddUp, List.range_succ, List.filter_append, natsV, List.map_append]
  cases h : oddB xs cs f os i <;> simp [h]

def oddR (xs : List (ByteArray × Int)) (cs : List (ByteArray × List Int)) (fs os : List Int) : List Int × Int :=
  if (chk xs cs).2.2 ≠ 0 then ([], (chk xs cs).2.2) else if entE xs fs os ≠ 0 then ([], entE xs fs os) else (oddUp xs cs (mask fs 2) (pad5 (os.map Int.toNat)) cs.length, 0)

abbrev lstV (p : List Int × Int) : AV S := .tup [vL p.1, vI p.2]

structure Lens (xs : List (ByteArray × Int)) (cs : List (ByteArray × List Int)) : Prop where
  x : xs.length ≤ 9223372036854775807
  c : cs.length ≤ 9223372036854775807
  s : ∀ x ∈ cs, x.2.length ≤ 9223372036854775807

theorem cOpen (gl : Gl) {xs : List (ByteArray × Int)} {cs : List (ByteArray × List Int)} (h : Lens xs cs) :
    PCalls PR gl 71 [forV xs cs] fun r => r = if (chk xs cs).2.2 = 0 then .tup [FC xs cs, vI 0] else .tup [.nilp, vI (chk xs cs).2.2] := c71 gl xs cs h.x h.c h.s

theorem ent_len {xs : List (ByteArray × Int)} {fs os : List Int} (h : entE xs fs os = 0) : fs.length = xs.length ∧ os.length = xs.length ∧ ∀ k ∈ os, 0 ≤ k ∧ k < (xs.length : Int) := by
  unfold entE at h
  split at h
  · cases h
  · rename_i h1
    split at h
    · cases h
    · rename_i h2
      have h1 := Bool.eq_false_iff.2 h1
      have h2 := Bool.eq_false_iff.2 h2
      simp only [Bool.or_eq_false_iff] at h1 h2
      obtain ⟨h3, h4⟩ := h1
      have h3 : (fs.length : Int) = xs.length := by simpa using h3
      have h4 : (os.length : Int) = xs.length := by simpa using h4
      refine ⟨by omega, by omega, fun k hk => ?_⟩
      have := List.any_eq_false.1 h2.2 k hk
      simp [outB] at this; omega

def fr18 (xs : List (ByteArray × Int)) (cs : List (ByteArray × List Int)) (f : Nat) (os : List Nat) (m : Int) (i : Nat) (l : List Int) : St S :=
  { tmps := [.undef, .undef, .undef, .undef, .sl (S := S) U.int l (some 4), .undef, FC xs cs, .own 7 [], .undef, .undef, .undef, .undef, .undef, .undef, .undef, .undef, .undef, .undef, .undef, .undef, .undef, .undef, .undef, .undef, .undef, .undef, .undef, .undef, .undef, vI m, vI i, .undef, .undef, .undef, .undef, .undef, .undef, .undef, .undef, .undef, .undef, .undef, .undef, .undef, .undef, .undef, .undef, .undef]
    seg := [(4, .row U.int false), (7, .cells [vI f, .arr (S := S) U.int 5 (natsV os)])], up := [] }

theorem c18 (gl : Gl) (xs : List (ByteArray × Int)) (cs : List (ByteArray × List Int)) (hL : Lens xs cs) (fs os : List Int) (hf : fs.length ≤ 9223372036854775807) (ho : os.length ≤ 9223372036854775807) :
    PCalls PR gl 18 [forV xs cs, .agg [vL fs, vL os]] fun r => r = lstV (oddR xs cs fs os) := by
  refine fnW_sound (par_ok gl) Tryd.func18 ?_
  conv => whnf
  refine byC (cOpen gl hL) op71 ?_
  by_cases hk : (chk xs cs).2.2 = 0
  · have hv := chk_valid hk
    rw [if_pos hk]
    have hR : oddR xs cs fs os = if entE xs fs os ≠ 0 then ([], entE xs fs os) else (oddUp xs cs (mask fs 2) (pad5 (os.map Int.toNat)) cs.length, 0) := by unfold oddR; rw [if_neg (by rw [hk]; simp)]
    conv => whnf
    refine byR (c72 gl xs cs (shL cs) hv.l1 hv.l5 fs os hf ho) op72 (R72_ex xs fs os) ?_
    rintro r (⟨hE, a, l, rfl⟩ | ⟨hE, rfl⟩)
    · conv => whnf
      refine bcase_iff.2 ⟨fun h1 => ?_, fun h1 => ?_⟩
      · conv => whnf
        rw [hR, if_pos hE]
      · exfalso
        have : (entE xs fs os != 0) = false := h1
        exact hE (by simpa using this)
    · rw [if_neg (by rw [hE]; simp)] at hR
      obtain ⟨hfl, hol, hk'⟩ := ent_len hE
      have hos : ∀ k ∈ pad5 (os.map Int.toNat), k < 64 := fun k hk2 => by
        rcases List.mem_append.1 hk2 with h | h
        · obtain ⟨q, hq, rfl⟩ := List.mem_map.1 h
          have := hk' q hq; have := hv.l5; omega
        · rw [List.mem_replicate] at h; omega
      have ho5 : (pad5 (os.map Int.toNat)).length = 5 := by have := hv.l5; simp; omega
      have hm : mask fs 2 < 2 ^ 63 := Nat.lt_of_lt_of_le (mask_lt _ _) (Nat.pow_le_pow_right (by omega) (by have := hv.l5; omega))
      generalize pad5 (os.map Int.toNat) = osn at *
      conv => whnf
      refine ⟨⟨1610612944, [2, 3], [4]⟩, ?_⟩
      refine LoopW_ind _ (fun i : Nat => fr18 xs cs (mask fs 2) osn cs.length i (oddUp xs cs (mask fs 2) osn i)) (fun i => i ≤ cs.length) (fun i => cs.length - i) () ?_ 0 (Nat.zero_le _)
      intro i hi Z hZ
      conv => whnf
      refine bcase_iff.2 ⟨fun h1 => ?_, fun h1 => ?_⟩
      · have hlt : i < cs.length := by have := of_decide_eq_true h1; omega
        have hw : IntKind.i64.wrap ((i : Int) + 1) = ((i + 1 : Nat) : Int) := wrap_nat (by have := hv.c8; omega)
        have hs := oddUp_succ xs cs (mask fs 2) osn i
        conv => whnf
        refine byC (cSteps gl hv i (mask fs 2) hlt hm osn ho5 hos) op73 ?_
        conv => whnf
        refine bcase_iff.2 ⟨fun h2 => ?_, fun h2 => ?_⟩
        · have h2 : oddB xs cs (mask fs 2) osn i = true := by
            have h2 := of_decide_eq_true h2
            unfold oddB; exact decide_eq_true (by omega)
          rw [if_pos h2] at hs
          conv => whnf
          refine ⟨_, rfl, ?_⟩
          conv => whnf
          refine ⟨?_, ?_⟩
          · show (oddUp xs cs (mask fs 2) osn i).length + 1 ≤ 1099511627776
            have : (oddUp xs cs (mask fs 2) osn i).length ≤ i := by simp only [oddUp, natsV, List.length_map]; exact Nat.le_trans (List.length_filter_le _ _) (by simp)
            have := hv.c8
            omega
          conv => whnf
          refine ⟨⟨1610612944, [9, 44], []⟩, ?_⟩
          have := hZ (i + 1) hlt (by omega)
          unfold fr18 at this
          rw [← hw, hs] at this
          exact this
        · have h2 : oddB xs cs (mask fs 2) osn i = false := by
            have h2 := of_decide_eq_false h2
            unfold oddB; exact decide_eq_false (by omega)
          rw [if_neg (by rw [h2]; simp)] at hs
          conv => whnf
          refine ⟨⟨1610612944, [9], []⟩, ?_⟩
          have := hZ (i + 1) hlt (by omega)
          unfold fr18 at this
          rw [← hw, hs] at this
          exact this
      · have hge : i = cs.length := by have := of_decide_eq_false h1; omega
        subst hge
        conv => whnf
        rw [hR]
  · rw [if_neg hk]
    have hR : oddR xs cs fs os = ([], (chk xs cs).2.2) := by unfold oddR; rw [if_pos hk]
    conv => whnf
    refine bcase_iff.2 ⟨fun h1 => ?_, fun h1 => ?_⟩
    · conv => whnf
      rw [hR]
    · exfalso
      have : ((chk xs cs).2.2 != 0) = false := h1
      exact hk (by simpa using this)
end Go.Ab.StF
