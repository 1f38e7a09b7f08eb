/-
  THE SKELETON FAMILY, PART A: the elements that its slices and arrays have.
  THE SKELETON FAMILY, PART B: what is known of its types. (Made by program.)
  THE SKELETON FAMILY, PART BA: when its structs and arrays are the same, and the keys of its maps.
  THE SKELETON FAMILY, PART C: what stands for calls.
  THE SKELETON FAMILY, PART D: contracts, and small functions of both sides.
  THE SKELETON FAMILY, PART E: Lists.
-/
import Derived.Test.YtfhippofplmpdaaDoorProg
import Derived.Laws.StructEq
import Derived.Tactics
import Derived.Tactics2
import Derived.KernelRfl
import Derived.Lib.TrailingZeros
import Derived.Laws.Bits64b
import Derived.WalkKit
import Derived.Test.YtfhippofplmpdaaDoorEngC
import Derived.Test.YtfhippofplmpdaaDoorSkelA
namespace Go.Ab.SkF
open Go Go.Ab

inductive U where
  | int | u8 | str | forme | sight | ints | bool | bools
  deriving DecidableEq

abbrev T : U → Type
  | .int => Int
  | .u8 => Int
  | .str => ByteArray
  | .forme => ByteArray × Int × Int × Int
  | .sight => Int × Int × Int
  | .ints => List Int
  | .bool => Bool
  | .bools => List Bool

abbrev S : Sig := ⟨U, T⟩

def size : U → Nat
  | .int | .u8 | .str | .ints | .bool | .bools => 1
  | .sight => 3
  | .forme => 4

def enc : (u : U) → T u → List (AV S)
  | .int, n => [.int .i64 n]
  | .u8, n => [.int .u8 n]
  | .str, s => [.str s]
  | .forme, p => [.str p.1, .int .i64 p.2.1, .int .i64 p.2.2.1, .int .i64 p.2.2.2]
  | .sight, p => [.int .i64 p.1, .int .i64 p.2.1, .int .i64 p.2.2]
  | .ints, xs => [.sl (S := S) U.int xs none]
  | .bool, b => [.bool b]
  | .bools, xs => [.sl (S := S) U.bool xs none]

def isl : AV S → Option (List Int)
  | .nils => some []
  | .sl u xs none => match u with
    | .int => some xs
    | _ => none
  | _ => none

def isb : AV S → Option (List Bool)
  | .nils => some []
  | .sl u xs none => match u with
    | .bool => some xs
    | _ => none
  | _ => none

def dec : (u : U) → List (AV S) → Option (T u)
  | .int, [.int .i64 n] => some n
  | .u8, [.int .u8 n] => some n
  | .str, [.str s] => some s
  | .forme, [.str s, .int .i64 a, .int .i64 b, .int .i64 c] => some (s, a, b, c)
  | .sight, [.int .i64 a, .int .i64 b, .int .i64 c] => some (a, b, c)
  | .ints, [v] => isl v
  | .bool, [.bool b] => some b
  | .bools, [v] => isb v
  | _, _ => none

def data : U → Bool
  | .ints | .bools => false
  | _ => true

/-- How long a slice may grow: as long as the reach of a claim allows its bytes, or shorter. -/
def limU : U → Nat
  | .sight => 5900000000000
  | _ => 1099511627776

instance : Cod S := ⟨inferInstanceAs (DecidableEq U), size, enc, dec, data, limU⟩

theorem isl_back {v : AV S} {xs : List Int} (h : isl v = some xs) : ∀ {w V l vs}, Reps w V l vs [v] → Reps w V Loc.none vs [.sl (S := S) U.int xs none] := by
  intro w V l vs hr
  unfold isl at h
  split at h
  · cases h
    obtain ⟨z, zs, rfl, h1, h2⟩ := hr.head trivial
    rw [h2.nil_inv]
    obtain ⟨base, hb⟩ := h1.nils
    exact Rep.flat1 ⟨rfl, base, 0, hb⟩
  · split at h
    · cases h; exact slice_out hr (fun _ _ h => h) fun d e => by cases e
    · cases h
  · cases h

theorem isb_back {v : AV S} {xs : List Bool} (h : isb v = some xs) : ∀ {w V l vs}, Reps w V l vs [v] → Reps w V Loc.none vs [.sl (S := S) U.bool xs none] := by
  intro w V l vs hr
  unfold isb at h
  split at h
  · cases h
    obtain ⟨z, zs, rfl, h1, h2⟩ := hr.head trivial
    rw [h2.nil_inv]
    obtain ⟨base, hb⟩ := h1.nils
    exact Rep.flat1 ⟨rfl, base, 0, hb⟩
  · split at h
    · cases h; exact slice_out hr (fun _ _ h => h) fun d e => by cases e
    · cases h
  · cases h

theorem dec_back : ∀ (u : U) (cs : List (AV S)) (x : T u), dec u cs = some x → ∀ w V l vs, Reps w V l vs cs → Reps w V Loc.none vs (enc u x) := by
  intro u cs x h w V l vs hr
  unfold dec at h
  split at h
  · cases h; exact pure_reps hr 1 rfl
  · cases h; exact pure_reps hr 1 rfl
  · cases h; exact pure_reps hr 1 rfl
  · cases h; exact pure_reps hr 1 rfl
  · cases h; exact pure_reps hr 1 rfl
  · exact isl_back h hr
  · cases h; exact pure_reps hr 1 rfl
  · exact isb_back h hr
  · cases h

def plainB : AV S → Bool
  | .bool _ | .int _ _ | .str _ => true
  | _ => false

theorem plain_any {w : World} {V : Nat → Nat → Prop} {l : Loc} {vs : List Value} {cs : List (AV S)} (h : Reps w V l vs cs) (hc : cs.all plainB = true) : ∀ w' V' l', Reps w' V' l' vs cs := by
  have hcons : ∀ {c : AV S} {cs : List (AV S)}, (c :: cs).all plainB = true → plainB c = true ∧ cs.all plainB = true := fun h => by simpa using h
  induction h with
  | nil => exact fun _ _ _ => .nil _
  | @flat l v c vs cs h _ ih =>
    intro w' V' l'
    obtain ⟨h1, h2⟩ := hcons hc
    refine .flat ?_ (ih h2 _ _ _)
    cases c <;> first | exact h | cases h1
  | _ => have h1 := (hcons hc).1; cases h1

theorem data_any : ∀ (u : U) (x : T u), data u = true → ∀ w V l vs, Reps w V l vs (enc u x) → ∀ w' V' l', Reps w' V' l' vs (enc u x) := by
  intro u x hu w V l vs hr w' V' l'
  cases u
  case int => exact plain_any hr rfl _ _ _
  case u8 => exact plain_any hr rfl _ _ _
  case str => exact plain_any hr rfl _ _ _
  case forme => exact plain_any hr rfl _ _ _
  case sight => exact plain_any hr rfl _ _ _
  case bool => exact plain_any hr rfl _ _ _
  all_goals cases hu

instance : LawCod S where
  width u x := by cases u <;> rfl
  pos u := by cases u <;> exact Nat.succ_pos _
  cell u x := by cases u <;> rfl
  back := dec_back
  data := data_any
end Go.Ab.SkF

namespace Go.Ab.SkF
open Go Go.Ab Go.Proofs

theorem info_of {P : Program} {t : TypeId} {i : TypeInfo} (h : P.types[t]? = some i) : P.info? t = some i := by
  have hl := (Array.getElem?_eq_some_iff.1 h).1
  simp [Tables.info?, h]
  omega

theorem tis_nil {P : Program} : TisOk (S := S) P [] := fun t ty h => by simp [lookA] at h
theorem tis_cons {P : Program} {t : Nat} {y : TyI S} {l : List (Nat × TyI S)} (h : TyOk P t y) (hl : TisOk P l) : TisOk P ((t, y) :: l) := fun t' ty h' => by
  simp only [lookA] at h'
  by_cases ht : t = t'
  · subst ht; rw [if_pos rfl] at h'; cases h'; exact h
  · rw [if_neg ht] at h'; exact hl _ _ h'

theorem i1 : Tryd.prog.info? 1 = some Tryd.t1 := info_of Tryd.type1
theorem i2 : Tryd.prog.info? 2 = some Tryd.t2 := info_of Tryd.type2
theorem i3 : Tryd.prog.info? 3 = some Tryd.t3 := info_of Tryd.type3
theorem i4 : Tryd.prog.info? 4 = some Tryd.t4 := info_of Tryd.type4
theorem i5 : Tryd.prog.info? 5 = some Tryd.t5 := info_of Tryd.type5
theorem i6 : Tryd.prog.info? 6 = some Tryd.t6 := info_of Tryd.type6
theorem i7 : Tryd.prog.info? 7 = some Tryd.t7 := info_of Tryd.type7
theorem i9 : Tryd.prog.info? 9 = some Tryd.t9 := info_of Tryd.type9
theorem i12 : Tryd.prog.info? 12 = some Tryd.t12 := info_of Tryd.type12
theorem i13 : Tryd.prog.info? 13 = some Tryd.t13 := info_of Tryd.type13
theorem i17 : Tryd.prog.info? 17 = some Tryd.t17 := info_of Tryd.type17
theorem i18 : Tryd.prog.info? 18 = some Tryd.t18 := info_of Tryd.type18
theorem i19 : Tryd.prog.info? 19 = some Tryd.t19 := info_of Tryd.type19
theorem i21 : Tryd.prog.info? 21 = some Tryd.t21 := info_of Tryd.type21
theorem i22 : Tryd.prog.info? 22 = some Tryd.t22 := info_of Tryd.type22
theorem i23 : Tryd.prog.info? 23 = some Tryd.t23 := info_of Tryd.type23
theorem i24 : Tryd.prog.info? 24 = some Tryd.t24 := info_of Tryd.type24
theorem i25 : Tryd.prog.info? 25 = some Tryd.t25 := info_of Tryd.type25
theorem i26 : Tryd.prog.info? 26 = some Tryd.t26 := info_of Tryd.type26
theorem i27 : Tryd.prog.info? 27 = some Tryd.t27 := info_of Tryd.type27
theorem i29 : Tryd.prog.info? 29 = some Tryd.t29 := info_of Tryd.type29
theorem i30 : Tryd.prog.info? 30 = some Tryd.t30 := info_of Tryd.type30
theorem i32 : Tryd.prog.info? 32 = some Tryd.t32 := info_of Tryd.type32
theorem i33 : Tryd.prog.info? 33 = some Tryd.t33 := info_of Tryd.type33
theorem i34 : Tryd.prog.info? 34 = some Tryd.t34 := info_of Tryd.type34
theorem i35 : Tryd.prog.info? 35 = some Tryd.t35 := info_of Tryd.type35
theorem i37 : Tryd.prog.info? 37 = some Tryd.t37 := info_of Tryd.type37
theorem i38 : Tryd.prog.info? 38 = some Tryd.t38 := info_of Tryd.type38
theorem i39 : Tryd.prog.info? 39 = some Tryd.t39 := info_of Tryd.type39
theorem i40 : Tryd.prog.info? 40 = some Tryd.t40 := info_of Tryd.type40
theorem i42 : Tryd.prog.info? 42 = some Tryd.t42 := info_of Tryd.type42
theorem i44 : Tryd.prog.info? 44 = some Tryd.t44 := info_of Tryd.type44
theorem i45 : Tryd.prog.info? 45 = some Tryd.t45 := info_of Tryd.type45
theorem i46 : Tryd.prog.info? 46 = some Tryd.t46 := info_of Tryd.type46
theorem i48 : Tryd.prog.info? 48 = some Tryd.t48 := info_of Tryd.type48
theorem i49 : Tryd.prog.info? 49 = some Tryd.t49 := info_of Tryd.type49
theorem i50 : Tryd.prog.info? 50 = some Tryd.t50 := info_of Tryd.type50
theorem i51 : Tryd.prog.info? 51 = some Tryd.t51 := info_of Tryd.type51
theorem i52 : Tryd.prog.info? 52 = some Tryd.t52 := info_of Tryd.type52
theorem i53 : Tryd.prog.info? 53 = some Tryd.t53 := info_of Tryd.type53
theorem i54 : Tryd.prog.info? 54 = some Tryd.t54 := info_of Tryd.type54
theorem i55 : Tryd.prog.info? 55 = some Tryd.t55 := info_of Tryd.type55
theorem i56 : Tryd.prog.info? 56 = some Tryd.t56 := info_of Tryd.type56
theorem i57 : Tryd.prog.info? 57 = some Tryd.t57 := info_of Tryd.type57
theorem i58 : Tryd.prog.info? 58 = some Tryd.t58 := info_of Tryd.type58
theorem i59 : Tryd.prog.info? 59 = some Tryd.t59 := info_of Tryd.type59
theorem i60 : Tryd.prog.info? 60 = some Tryd.t60 := info_of Tryd.type60
theorem i61 : Tryd.prog.info? 61 = some Tryd.t61 := info_of Tryd.type61
theorem i62 : Tryd.prog.info? 62 = some Tryd.t62 := info_of Tryd.type62
theorem i63 : Tryd.prog.info? 63 = some Tryd.t63 := info_of Tryd.type63
theorem i64 : Tryd.prog.info? 64 = some Tryd.t64 := info_of Tryd.type64
theorem i65 : Tryd.prog.info? 65 = some Tryd.t65 := info_of Tryd.type65
theorem i66 : Tryd.prog.info? 66 = some Tryd.t66 := info_of Tryd.type66
theorem i67 : Tryd.prog.info? 67 = some Tryd.t67 := info_of Tryd.type67
theorem i68 : Tryd.prog.info? 68 = some Tryd.t68 := info_of Tryd.type68
theorem i69 : Tryd.prog.info? 69 = some Tryd.t69 := info_of Tryd.type69
theorem i70 : Tryd.prog.info? 70 = some Tryd.t70 := info_of Tryd.type70
theorem i71 : Tryd.prog.info? 71 = some Tryd.t71 := info_of Tryd.type71
theorem i72 : Tryd.prog.info? 72 = some Tryd.t72 := info_of Tryd.type72
theorem i73 : Tryd.prog.info? 73 = some Tryd.t73 := info_of Tryd.type73
theorem i74 : Tryd.prog.info? 74 = some Tryd.t74 := info_of Tryd.type74
theorem i75 : Tryd.prog.info? 75 = some Tryd.t75 := info_of Tryd.type75
theorem i76 : Tryd.prog.info? 76 = some Tryd.t76 := info_of Tryd.type76
theorem i77 : Tryd.prog.info? 77 = some Tryd.t77 := info_of Tryd.type77
theorem i78 : Tryd.prog.info? 78 = some Tryd.t78 := info_of Tryd.type78
theorem i79 : Tryd.prog.info? 79 = some Tryd.t79 := info_of Tryd.type79
theorem i80 : Tryd.prog.info? 80 = some Tryd.t80 := info_of Tryd.type80
theorem i81 : Tryd.prog.info? 81 = some Tryd.t81 := info_of Tryd.type81
theorem i82 : Tryd.prog.info? 82 = some Tryd.t82 := info_of Tryd.type82
theorem i83 : Tryd.prog.info? 83 = some Tryd.t83 := info_of Tryd.type83
theorem i84 : Tryd.prog.info? 84 = some Tryd.t84 := info_of Tryd.type84
theorem i85 : Tryd.prog.info? 85 = some Tryd.t85 := info_of Tryd.type85
theorem i86 : Tryd.prog.info? 86 = some Tryd.t86 := info_of Tryd.type86
theorem i87 : Tryd.prog.info? 87 = some Tryd.t87 := info_of Tryd.type87
theorem i88 : Tryd.prog.info? 88 = some Tryd.t88 := info_of Tryd.type88
theorem i89 : Tryd.prog.info? 89 = some Tryd.t89 := info_of Tryd.type89
theorem i90 : Tryd.prog.info? 90 = some Tryd.t90 := info_of Tryd.type90
theorem i91 : Tryd.prog.info? 91 = some Tryd.t91 := info_of Tryd.type91
theorem i92 : Tryd.prog.info? 92 = some Tryd.t92 := info_of Tryd.type92
theorem i93 : Tryd.prog.info? 93 = some Tryd.t93 := info_of Tryd.type93
theorem i94 : Tryd.prog.info? 94 = some Tryd.t94 := info_of Tryd.type94
theorem i95 : Tryd.prog.info? 95 = some Tryd.t95 := info_of Tryd.type95
theorem i97 : Tryd.prog.info? 97 = some Tryd.t97 := info_of Tryd.type97
theorem i98 : Tryd.prog.info? 98 = some Tryd.t98 := info_of Tryd.type98
theorem i99 : Tryd.prog.info? 99 = some Tryd.t99 := info_of Tryd.type99
theorem i100 : Tryd.prog.info? 100 = some Tryd.t100 := info_of Tryd.type100
theorem i101 : Tryd.prog.info? 101 = some Tryd.t101 := info_of Tryd.type101
theorem i102 : Tryd.prog.info? 102 = some Tryd.t102 := info_of Tryd.type102
theorem i103 : Tryd.prog.info? 103 = some Tryd.t103 := info_of Tryd.type103
theorem i104 : Tryd.prog.info? 104 = some Tryd.t104 := info_of Tryd.type104
theorem i106 : Tryd.prog.info? 106 = some Tryd.t106 := info_of Tryd.type106
theorem i108 : Tryd.prog.info? 108 = some Tryd.t108 := info_of Tryd.type108
theorem i109 : Tryd.prog.info? 109 = some Tryd.t109 := info_of Tryd.type109
theorem i110 : Tryd.prog.info? 110 = some Tryd.t110 := info_of Tryd.type110
theorem i111 : Tryd.prog.info? 111 = some Tryd.t111 := info_of Tryd.type111
theorem i112 : Tryd.prog.info? 112 = some Tryd.t112 := info_of Tryd.type112
theorem i113 : Tryd.prog.info? 113 = some Tryd.t113 := info_of Tryd.type113
theorem i114 : Tryd.prog.info? 114 = some Tryd.t114 := info_of Tryd.type114
theorem i115 : Tryd.prog.info? 115 = some Tryd.t115 := info_of Tryd.type115
theorem i117 : Tryd.prog.info? 117 = some Tryd.t117 := info_of Tryd.type117
theorem i118 : Tryd.prog.info? 118 = some Tryd.t118 := info_of Tryd.type118
theorem i119 : Tryd.prog.info? 119 = some Tryd.t119 := info_of Tryd.type119
theorem i120 : Tryd.prog.info? 120 = some Tryd.t120 := info_of Tryd.type120
theorem i121 : Tryd.prog.info? 121 = some Tryd.t121 := info_of Tryd.type121
theorem i122 : Tryd.prog.info? 122 = some Tryd.t122 := info_of Tryd.type122
theorem i123 : Tryd.prog.info? 123 = some Tryd.t123 := info_of Tryd.type123
theorem i124 : Tryd.prog.info? 124 = some Tryd.t124 := info_of Tryd.type124
theorem i125 : Tryd.prog.info? 125 = some Tryd.t125 := info_of Tryd.type125
theorem i126 : Tryd.prog.info? 126 = some Tryd.t126 := info_of Tryd.type126
theorem i127 : Tryd.prog.info? 127 = some Tryd.t127 := info_of Tryd.type127
theorem i128 : Tryd.prog.info? 128 = some Tryd.t128 := info_of Tryd.type128
theorem i129 : Tryd.prog.info? 129 = some Tryd.t129 := info_of Tryd.type129
theorem i130 : Tryd.prog.info? 130 = some Tryd.t130 := info_of Tryd.type130
theorem i131 : Tryd.prog.info? 131 = some Tryd.t131 := info_of Tryd.type131
theorem i132 : Tryd.prog.info? 132 = some Tryd.t132 := info_of Tryd.type132
theorem i133 : Tryd.prog.info? 133 = some Tryd.t133 := info_of Tryd.type133
theorem i134 : Tryd.prog.info? 134 = some Tryd.t134 := info_of Tryd.type134
theorem i135 : Tryd.prog.info? 135 = some Tryd.t135 := info_of Tryd.type135
theorem i136 : Tryd.prog.info? 136 = some Tryd.t136 := info_of Tryd.type136
theorem i137 : Tryd.prog.info? 137 = some Tryd.t137 := info_of Tryd.type137
theorem i138 : Tryd.prog.info? 138 = some Tryd.t138 := info_of Tryd.type138
theorem i139 : Tryd.prog.info? 139 = some Tryd.t139 := info_of Tryd.type139
theorem i140 : Tryd.prog.info? 140 = some Tryd.t140 := info_of Tryd.type140
theorem i141 : Tryd.prog.info? 141 = some Tryd.t141 := info_of Tryd.type141
theorem i142 : Tryd.prog.info? 142 = some Tryd.t142 := info_of Tryd.type142
theorem i143 : Tryd.prog.info? 143 = some Tryd.t143 := info_of Tryd.type143
theorem i144 : Tryd.prog.info? 144 = some Tryd.t144 := info_of Tryd.type144
theorem i145 : Tryd.prog.info? 145 = some Tryd.t145 := info_of Tryd.type145
theorem i146 : Tryd.prog.info? 146 = some Tryd.t146 := info_of Tryd.type146
theorem i147 : Tryd.prog.info? 147 = some Tryd.t147 := info_of Tryd.type147
theorem i148 : Tryd.prog.info? 148 = some Tryd.t148 := info_of Tryd.type148
theorem i149 : Tryd.prog.info? 149 = some Tryd.t149 := info_of Tryd.type149
theorem i150 : Tryd.prog.info? 150 = some Tryd.t150 := info_of Tryd.type150
theorem i151 : Tryd.prog.info? 151 = some Tryd.t151 := info_of Tryd.type151
theorem i152 : Tryd.prog.info? 152 = some Tryd.t152 := info_of Tryd.type152
theorem i153 : Tryd.prog.info? 153 = some Tryd.t153 := info_of Tryd.type153
theorem i154 : Tryd.prog.info? 154 = some Tryd.t154 := info_of Tryd.type154
theorem i155 : Tryd.prog.info? 155 = some Tryd.t155 := info_of Tryd.type155
theorem i156 : Tryd.prog.info? 156 = some Tryd.t156 := info_of Tryd.type156
theorem i159 : Tryd.prog.info? 159 = some Tryd.t159 := info_of Tryd.type159
theorem i160 : Tryd.prog.info? 160 = some Tryd.t160 := info_of Tryd.type160
theorem i161 : Tryd.prog.info? 161 = some Tryd.t161 := info_of Tryd.type161
theorem i166 : Tryd.prog.info? 166 = some Tryd.t166 := info_of Tryd.type166
theorem i167 : Tryd.prog.info? 167 = some Tryd.t167 := info_of Tryd.type167
theorem i168 : Tryd.prog.info? 168 = some Tryd.t168 := info_of Tryd.type168
theorem i169 : Tryd.prog.info? 169 = some Tryd.t169 := info_of Tryd.type169
theorem i170 : Tryd.prog.info? 170 = some Tryd.t170 := info_of Tryd.type170
theorem i171 : Tryd.prog.info? 171 = some Tryd.t171 := info_of Tryd.type171
theorem i172 : Tryd.prog.info? 172 = some Tryd.t172 := info_of Tryd.type172
theorem i173 : Tryd.prog.info? 173 = some Tryd.t173 := info_of Tryd.type173

def y1 : TyI S := ⟨1, [.nilf], .func⟩
theorem k1 : TyOk Tryd.prog 1 y1 where
  info := ⟨_, _, i1, rfl, rfl, fun _ _ => ⟨.flat rfl (.nil _), .flat rfl (.nil _)⟩⟩
  kind := ⟨_, _, _, Tryd.underlying1⟩
def y2 : TyI S := ⟨1, [.int .i64 0], .int .i64⟩
theorem k2 : TyOk Tryd.prog 2 y2 where
  info := ⟨_, _, i2, rfl, rfl, fun _ _ => ⟨.flat rfl (.nil _), .flat rfl (.nil _)⟩⟩
  kind := Tryd.underlying2
def y3 : TyI S := ⟨1, [.int .i64 0], .int .i64⟩
theorem k3 : TyOk Tryd.prog 3 y3 where
  info := ⟨_, _, i3, rfl, rfl, fun _ _ => ⟨.flat rfl (.nil _), .flat rfl (.nil _)⟩⟩
  kind := Tryd.underlying3
def y4 : TyI S := ⟨1, [.bool false], .bool⟩
theorem k4 : TyOk Tryd.prog 4 y4 where
  info := ⟨_, _, i4, rfl, rfl, fun _ _ => ⟨.flat rfl (.nil _), .flat rfl (.nil _)⟩⟩
  kind := Tryd.underlying4
def y5 : TyI S := ⟨1, [.int .u8 0], .int .u8⟩
theorem k5 : TyOk Tryd.prog 5 y5 where
  info := ⟨_, _, i5, rfl, rfl, fun _ _ => ⟨.flat rfl (.nil _), .flat rfl (.nil _)⟩⟩
  kind := Tryd.underlying5
def y7 : TyI S := ⟨4, [.int .i64 0, .int .i64 0, .bool false, .int .u8 0], .struct [(0, 2, 1), (1, 3, 1), (2, 4, 1), (3, 6, 1)]⟩
theorem k7 : TyOk Tryd.prog 7 y7 where
  info := ⟨_, _, i7, rfl, rfl, fun _ _ => ⟨.flat rfl (.flat rfl (.flat rfl (.flat rfl (.nil _)))), .flat rfl (.flat rfl (.flat rfl (.flat rfl (.nil _))))⟩⟩
  kind := ⟨_, [(0, 1), (1, 1), (2, 1), (3, 1)], Tryd.underlying7, by simp only [List.mapM_cons, List.mapM_nil, i2, i3, i4, i6]; rfl, fun i off ft sz h => match i, h with
    | 0, h => by cases h; exact ⟨rfl, by decide, _, rfl, rfl, rfl, _, i2, rfl⟩
    | 1, h => by cases h; exact ⟨rfl, by decide, _, rfl, rfl, rfl, _, i3, rfl⟩
    | 2, h => by cases h; exact ⟨rfl, by decide, _, rfl, rfl, rfl, _, i4, rfl⟩
    | 3, h => by cases h; exact ⟨rfl, by decide, _, rfl, rfl, rfl, _, i6, rfl⟩
    | n + 4, h => by cases h⟩
def y9 : TyI S := ⟨1, [.str ByteArray.empty], .str⟩
theorem k9 : TyOk Tryd.prog 9 y9 where
  info := ⟨_, _, i9, rfl, rfl, fun _ _ => ⟨.flat rfl (.nil _), .flat rfl (.nil _)⟩⟩
  kind := Tryd.underlying9
def y12 : TyI S := ⟨1, [.int .u64 0], .int .u64⟩
theorem k12 : TyOk Tryd.prog 12 y12 where
  info := ⟨_, _, i12, rfl, rfl, fun _ _ => ⟨.flat rfl (.nil _), .flat rfl (.nil _)⟩⟩
  kind := Tryd.underlying12
def y13 : TyI S := ⟨2, [.str ByteArray.empty, .int .u64 0], .struct [(0, 9, 1), (1, 12, 1)]⟩
theorem k13 : TyOk Tryd.prog 13 y13 where
  info := ⟨_, _, i13, rfl, rfl, fun _ _ => ⟨.flat rfl (.flat rfl (.nil _)), .flat rfl (.flat rfl (.nil _))⟩⟩
  kind := ⟨_, [(0, 1), (1, 1)], Tryd.underlying13, by simp only [List.mapM_cons, List.mapM_nil, i12, i9]; rfl, fun i off ft sz h => match i, h with
    | 0, h => by cases h; exact ⟨rfl, by decide, _, rfl, rfl, rfl, _, i9, rfl⟩
    | 1, h => by cases h; exact ⟨rfl, by decide, _, rfl, rfl, rfl, _, i12, rfl⟩
    | n + 2, h => by cases h⟩
def y18 : TyI S := ⟨1, [.nilp], .struct [(0, 17, 1)]⟩
theorem k18 : TyOk Tryd.prog 18 y18 where
  info := ⟨_, _, i18, rfl, rfl, fun _ _ => ⟨.flat rfl (.nil _), .flat rfl (.nil _)⟩⟩
  kind := ⟨_, [(0, 1)], Tryd.underlying18, by simp only [List.mapM_cons, List.mapM_nil, i17]; rfl, fun i off ft sz h => match i, h with
    | 0, h => by cases h; exact ⟨rfl, by decide, _, rfl, rfl, rfl, _, i17, rfl⟩
    | n + 1, h => by cases h⟩
def y19 : TyI S := ⟨1, [.nilp], .struct [(0, 17, 1)]⟩
theorem k19 : TyOk Tryd.prog 19 y19 where
  info := ⟨_, _, i19, rfl, rfl, fun _ _ => ⟨.flat rfl (.nil _), .flat rfl (.nil _)⟩⟩
  kind := ⟨_, [(0, 1)], Tryd.underlying19, by simp only [List.mapM_cons, List.mapM_nil, i17]; rfl, fun i off ft sz h => match i, h with
    | 0, h => by cases h; exact ⟨rfl, by decide, _, rfl, rfl, rfl, _, i17, rfl⟩
    | n + 1, h => by cases h⟩
def y21 : TyI S := ⟨1, [.int .i32 0], .int .i32⟩
theorem k21 : TyOk Tryd.prog 21 y21 where
  info := ⟨_, _, i21, rfl, rfl, fun _ _ => ⟨.flat rfl (.nil _), .flat rfl (.nil _)⟩⟩
  kind := Tryd.underlying21
def y22 : TyI S := ⟨1, [.sl (S := S) U.str [] none], .slice U.str 16 [.str ByteArray.empty]⟩
theorem k22 : TyOk Tryd.prog 22 y22 where
  info := ⟨_, _, i22, rfl, rfl, fun _ _ => ⟨.flat ⟨rfl, none, 0, rfl⟩ (.nil _), .flat ⟨none, rfl⟩ (.nil _)⟩⟩
  kind := ⟨_, _, _, Tryd.underlying22, i9, rfl, rfl, by decide, by decide, rfl, fun _ _ => ⟨.flat rfl (.nil _), .flat rfl (.nil _)⟩, rfl⟩
def y23 : TyI S := ⟨1, [.sl (S := S) U.forme [] none], .slice U.forme 40 [.str ByteArray.empty, .int .i64 0, .int .i64 0, .int .i64 0]⟩
theorem k23 : TyOk Tryd.prog 23 y23 where
  info := ⟨_, _, i23, rfl, rfl, fun _ _ => ⟨.flat ⟨rfl, none, 0, rfl⟩ (.nil _), .flat ⟨none, rfl⟩ (.nil _)⟩⟩
  kind := ⟨_, _, _, Tryd.underlying23, i63, rfl, rfl, by decide, by decide, rfl, fun _ _ => ⟨.flat rfl (.flat rfl (.flat rfl (.flat rfl (.nil _)))), .flat rfl (.flat rfl (.flat rfl (.flat rfl (.nil _))))⟩, rfl⟩
def y24 : TyI S := ⟨1, [.sl (S := S) U.sight [] none], .slice U.sight 24 [.int .i64 0, .int .i64 0, .int .i64 0]⟩
theorem k24 : TyOk Tryd.prog 24 y24 where
  info := ⟨_, _, i24, rfl, rfl, fun _ _ => ⟨.flat ⟨rfl, none, 0, rfl⟩ (.nil _), .flat ⟨none, rfl⟩ (.nil _)⟩⟩
  kind := ⟨_, _, _, Tryd.underlying24, i65, rfl, rfl, by decide, by decide, rfl, fun _ _ => ⟨.flat rfl (.flat rfl (.flat rfl (.nil _))), .flat rfl (.flat rfl (.flat rfl (.nil _)))⟩, rfl⟩
def y25 : TyI S := ⟨3, [.sl (S := S) U.str [] none, .sl (S := S) U.forme [] none, .sl (S := S) U.sight [] none], .struct [(0, 22, 1), (1, 23, 1), (2, 24, 1)]⟩
theorem k25 : TyOk Tryd.prog 25 y25 where
  info := ⟨_, _, i25, rfl, rfl, fun _ _ => ⟨.flat ⟨rfl, none, 0, rfl⟩ (.flat ⟨rfl, none, 0, rfl⟩ (.flat ⟨rfl, none, 0, rfl⟩ (.nil _))), .flat ⟨none, rfl⟩ (.flat ⟨none, rfl⟩ (.flat ⟨none, rfl⟩ (.nil _)))⟩⟩
  kind := ⟨_, [(0, 1), (1, 1), (2, 1)], Tryd.underlying25, by simp only [List.mapM_cons, List.mapM_nil, i22, i23, i24]; rfl, fun i off ft sz h => match i, h with
    | 0, h => by cases h; exact ⟨rfl, by decide, _, rfl, rfl, rfl, _, i22, rfl⟩
    | 1, h => by cases h; exact ⟨rfl, by decide, _, rfl, rfl, rfl, _, i23, rfl⟩
    | 2, h => by cases h; exact ⟨rfl, by decide, _, rfl, rfl, rfl, _, i24, rfl⟩
    | n + 3, h => by cases h⟩
def y26 : TyI S := ⟨3, [.sl (S := S) U.str [] none, .sl (S := S) U.forme [] none, .sl (S := S) U.sight [] none], .struct [(0, 22, 1), (1, 23, 1), (2, 24, 1)]⟩
theorem k26 : TyOk Tryd.prog 26 y26 where
  info := ⟨_, _, i26, rfl, rfl, fun _ _ => ⟨.flat ⟨rfl, none, 0, rfl⟩ (.flat ⟨rfl, none, 0, rfl⟩ (.flat ⟨rfl, none, 0, rfl⟩ (.nil _))), .flat ⟨none, rfl⟩ (.flat ⟨none, rfl⟩ (.flat ⟨none, rfl⟩ (.nil _)))⟩⟩
  kind := ⟨_, [(0, 1), (1, 1), (2, 1)], Tryd.underlying26, by simp only [List.mapM_cons, List.mapM_nil, i22, i23, i24]; rfl, fun i off ft sz h => match i, h with
    | 0, h => by cases h; exact ⟨rfl, by decide, _, rfl, rfl, rfl, _, i22, rfl⟩
    | 1, h => by cases h; exact ⟨rfl, by decide, _, rfl, rfl, rfl, _, i23, rfl⟩
    | 2, h => by cases h; exact ⟨rfl, by decide, _, rfl, rfl, rfl, _, i24, rfl⟩
    | n + 3, h => by cases h⟩
def y27 : TyI S := ⟨1, [.int .i64 0], .int .i64⟩
theorem k27 : TyOk Tryd.prog 27 y27 where
  info := ⟨_, _, i27, rfl, rfl, fun _ _ => ⟨.flat rfl (.nil _), .flat rfl (.nil _)⟩⟩
  kind := Tryd.underlying27
def y29 : TyI S := ⟨1, [.nilf], .func⟩
theorem k29 : TyOk Tryd.prog 29 y29 where
  info := ⟨_, _, i29, rfl, rfl, fun _ _ => ⟨.flat rfl (.nil _), .flat rfl (.nil _)⟩⟩
  kind := ⟨_, _, _, Tryd.underlying29⟩
def y30 : TyI S := ⟨1, [.sl (S := S) U.int [] none], .slice U.int 8 [.int .i64 0]⟩
theorem k30 : TyOk Tryd.prog 30 y30 where
  info := ⟨_, _, i30, rfl, rfl, fun _ _ => ⟨.flat ⟨rfl, none, 0, rfl⟩ (.nil _), .flat ⟨none, rfl⟩ (.nil _)⟩⟩
  kind := ⟨_, _, _, Tryd.underlying30, i3, rfl, rfl, by decide, by decide, rfl, fun _ _ => ⟨.flat rfl (.nil _), .flat rfl (.nil _)⟩, rfl⟩
def y32 : TyI S := ⟨1, [.nilf], .func⟩
theorem k32 : TyOk Tryd.prog 32 y32 where
  info := ⟨_, _, i32, rfl, rfl, fun _ _ => ⟨.flat rfl (.nil _), .flat rfl (.nil _)⟩⟩
  kind := ⟨_, _, _, Tryd.underlying32⟩
def y33 : TyI S := ⟨1, [.nilf], .func⟩
theorem k33 : TyOk Tryd.prog 33 y33 where
  info := ⟨_, _, i33, rfl, rfl, fun _ _ => ⟨.flat rfl (.nil _), .flat rfl (.nil _)⟩⟩
  kind := ⟨_, _, _, Tryd.underlying33⟩
def y34 : TyI S := ⟨2, [.int .i64 0, .int .i64 0], .struct [(0, 3, 1), (1, 3, 1)]⟩
theorem k34 : TyOk Tryd.prog 34 y34 where
  info := ⟨_, _, i34, rfl, rfl, fun _ _ => ⟨.flat rfl (.flat rfl (.nil _)), .flat rfl (.flat rfl (.nil _))⟩⟩
  kind := ⟨_, [(0, 1), (1, 1)], Tryd.underlying34, by simp only [List.mapM_cons, List.mapM_nil, i3]; rfl, fun i off ft sz h => match i, h with
    | 0, h => by cases h; exact ⟨rfl, by decide, _, rfl, rfl, rfl, _, i3, rfl⟩
    | 1, h => by cases h; exact ⟨rfl, by decide, _, rfl, rfl, rfl, _, i3, rfl⟩
    | n + 2, h => by cases h⟩
def y35 : TyI S := ⟨2, [.int .i64 0, .int .i64 0], .struct [(0, 3, 1), (1, 3, 1)]⟩
theorem k35 : TyOk Tryd.prog 35 y35 where
  info := ⟨_, _, i35, rfl, rfl, fun _ _ => ⟨.flat rfl (.flat rfl (.nil _)), .flat rfl (.flat rfl (.nil _))⟩⟩
  kind := ⟨_, [(0, 1), (1, 1)], Tryd.underlying35, by simp only [List.mapM_cons, List.mapM_nil, i3]; rfl, fun i off ft sz h => match i, h with
    | 0, h => by cases h; exact ⟨rfl, by decide, _, rfl, rfl, rfl, _, i3, rfl⟩
    | 1, h => by cases h; exact ⟨rfl, by decide, _, rfl, rfl, rfl, _, i3, rfl⟩
    | n + 2, h => by cases h⟩
def y37 : TyI S := ⟨1, [.nilf], .func⟩
theorem k37 : TyOk Tryd.prog 37 y37 where
  info := ⟨_, _, i37, rfl, rfl, fun _ _ => ⟨.flat rfl (.nil _), .flat rfl (.nil _)⟩⟩
  kind := ⟨_, _, _, Tryd.underlying37⟩
def y38 : TyI S := ⟨1, [.nilf], .func⟩
theorem k38 : TyOk Tryd.prog 38 y38 where
  info := ⟨_, _, i38, rfl, rfl, fun _ _ => ⟨.flat rfl (.nil _), .flat rfl (.nil _)⟩⟩
  kind := ⟨_, _, _, Tryd.underlying38⟩
def y39 : TyI S := ⟨1, [.nilf], .func⟩
theorem k39 : TyOk Tryd.prog 39 y39 where
  info := ⟨_, _, i39, rfl, rfl, fun _ _ => ⟨.flat rfl (.nil _), .flat rfl (.nil _)⟩⟩
  kind := ⟨_, _, _, Tryd.underlying39⟩
def y40 : TyI S := ⟨2, [.arr (S := S) U.int 2 [0, 0]], .array U.int 2⟩
theorem k40 : TyOk Tryd.prog 40 y40 where
  info := ⟨_, _, i40, rfl, rfl, fun _ _ => ⟨Reps.arr (ws := [.int .i64 0, .int .i64 0]) rfl (.flat rfl (.flat rfl (.nil _))) (.nil _), Reps.arr (ws := [.int .i64 0, .int .i64 0]) rfl (.flat rfl (.flat rfl (.nil _))) (.nil _)⟩⟩
  kind := ⟨_, _, Tryd.underlying40, i3, rfl, by decide⟩
def y42 : TyI S := ⟨1, [.nilf], .func⟩
theorem k42 : TyOk Tryd.prog 42 y42 where
  info := ⟨_, _, i42, rfl, rfl, fun _ _ => ⟨.flat rfl (.nil _), .flat rfl (.nil _)⟩⟩
  kind := ⟨_, _, _, Tryd.underlying42⟩
def y44 : TyI S := ⟨1, [.nilf], .func⟩
theorem k44 : TyOk Tryd.prog 44 y44 where
  info := ⟨_, _, i44, rfl, rfl, fun _ _ => ⟨.flat rfl (.nil _), .flat rfl (.nil _)⟩⟩
  kind := ⟨_, _, _, Tryd.underlying44⟩
def y45 : TyI S := ⟨1, [.nilf], .func⟩
theorem k45 : TyOk Tryd.prog 45 y45 where
  info := ⟨_, _, i45, rfl, rfl, fun _ _ => ⟨.flat rfl (.nil _), .flat rfl (.nil _)⟩⟩
  kind := ⟨_, _, _, Tryd.underlying45⟩
def y46 : TyI S := ⟨1, [.nilf], .func⟩
theorem k46 : TyOk Tryd.prog 46 y46 where
  info := ⟨_, _, i46, rfl, rfl, fun _ _ => ⟨.flat rfl (.nil _), .flat rfl (.nil _)⟩⟩
  kind := ⟨_, _, _, Tryd.underlying46⟩
def y48 : TyI S := ⟨1, [.nilf], .func⟩
theorem k48 : TyOk Tryd.prog 48 y48 where
  info := ⟨_, _, i48, rfl, rfl, fun _ _ => ⟨.flat rfl (.nil _), .flat rfl (.nil _)⟩⟩
  kind := ⟨_, _, _, Tryd.underlying48⟩
def y49 : TyI S := ⟨1, [.nilf], .func⟩
theorem k49 : TyOk Tryd.prog 49 y49 where
  info := ⟨_, _, i49, rfl, rfl, fun _ _ => ⟨.flat rfl (.nil _), .flat rfl (.nil _)⟩⟩
  kind := ⟨_, _, _, Tryd.underlying49⟩
def y50 : TyI S := ⟨1, [.nilf], .func⟩
theorem k50 : TyOk Tryd.prog 50 y50 where
  info := ⟨_, _, i50, rfl, rfl, fun _ _ => ⟨.flat rfl (.nil _), .flat rfl (.nil _)⟩⟩
  kind := ⟨_, _, _, Tryd.underlying50⟩
def y51 : TyI S := ⟨1, [.sl (S := S) U.u8 [] none], .slice U.u8 1 [.int .u8 0]⟩
theorem k51 : TyOk Tryd.prog 51 y51 where
  info := ⟨_, _, i51, rfl, rfl, fun _ _ => ⟨.flat ⟨rfl, none, 0, rfl⟩ (.nil _), .flat ⟨none, rfl⟩ (.nil _)⟩⟩
  kind := ⟨_, _, _, Tryd.underlying51, i5, rfl, rfl, by decide, by decide, rfl, fun _ _ => ⟨.flat rfl (.nil _), .flat rfl (.nil _)⟩, rfl⟩
def y52 : TyI S := ⟨4, [.sl (S := S) U.u8 [] none, .sl (S := S) U.u8 [] none, .sl (S := S) U.u8 [] none, .sl (S := S) U.u8 [] none], .struct [(0, 51, 1), (1, 51, 1), (2, 51, 1), (3, 51, 1)]⟩
theorem k52 : TyOk Tryd.prog 52 y52 where
  info := ⟨_, _, i52, rfl, rfl, fun _ _ => ⟨.flat ⟨rfl, none, 0, rfl⟩ (.flat ⟨rfl, none, 0, rfl⟩ (.flat ⟨rfl, none, 0, rfl⟩ (.flat ⟨rfl, none, 0, rfl⟩ (.nil _)))), .flat ⟨none, rfl⟩ (.flat ⟨none, rfl⟩ (.flat ⟨none, rfl⟩ (.flat ⟨none, rfl⟩ (.nil _))))⟩⟩
  kind := ⟨_, [(0, 1), (1, 1), (2, 1), (3, 1)], Tryd.underlying52, by simp only [List.mapM_cons, List.mapM_nil, i51]; rfl, fun i off ft sz h => match i, h with
    | 0, h => by cases h; exact ⟨rfl, by decide, _, rfl, rfl, rfl, _, i51, rfl⟩
    | 1, h => by cases h; exact ⟨rfl, by decide, _, rfl, rfl, rfl, _, i51, rfl⟩
    | 2, h => by cases h; exact ⟨rfl, by decide, _, rfl, rfl, rfl, _, i51, rfl⟩
    | 3, h => by cases h; exact ⟨rfl, by decide, _, rfl, rfl, rfl, _, i51, rfl⟩
    | n + 4, h => by cases h⟩
def y53 : TyI S := ⟨4, [.sl (S := S) U.u8 [] none, .sl (S := S) U.u8 [] none, .sl (S := S) U.u8 [] none, .sl (S := S) U.u8 [] none], .struct [(0, 51, 1), (1, 51, 1), (2, 51, 1), (3, 51, 1)]⟩
theorem k53 : TyOk Tryd.prog 53 y53 where
  info := ⟨_, _, i53, rfl, rfl, fun _ _ => ⟨.flat ⟨rfl, none, 0, rfl⟩ (.flat ⟨rfl, none, 0, rfl⟩ (.flat ⟨rfl, none, 0, rfl⟩ (.flat ⟨rfl, none, 0, rfl⟩ (.nil _)))), .flat ⟨none, rfl⟩ (.flat ⟨none, rfl⟩ (.flat ⟨none, rfl⟩ (.flat ⟨none, rfl⟩ (.nil _))))⟩⟩
  kind := ⟨_, [(0, 1), (1, 1), (2, 1), (3, 1)], Tryd.underlying53, by simp only [List.mapM_cons, List.mapM_nil, i51]; rfl, fun i off ft sz h => match i, h with
    | 0, h => by cases h; exact ⟨rfl, by decide, _, rfl, rfl, rfl, _, i51, rfl⟩
    | 1, h => by cases h; exact ⟨rfl, by decide, _, rfl, rfl, rfl, _, i51, rfl⟩
    | 2, h => by cases h; exact ⟨rfl, by decide, _, rfl, rfl, rfl, _, i51, rfl⟩
    | 3, h => by cases h; exact ⟨rfl, by decide, _, rfl, rfl, rfl, _, i51, rfl⟩
    | n + 4, h => by cases h⟩
def y54 : TyI S := ⟨1, [.nilf], .func⟩
theorem k54 : TyOk Tryd.prog 54 y54 where
  info := ⟨_, _, i54, rfl, rfl, fun _ _ => ⟨.flat rfl (.nil _), .flat rfl (.nil _)⟩⟩
  kind := ⟨_, _, _, Tryd.underlying54⟩
def y55 : TyI S := ⟨1, [.nilf], .func⟩
theorem k55 : TyOk Tryd.prog 55 y55 where
  info := ⟨_, _, i55, rfl, rfl, fun _ _ => ⟨.flat rfl (.nil _), .flat rfl (.nil _)⟩⟩
  kind := ⟨_, _, _, Tryd.underlying55⟩
def y56 : TyI S := ⟨1, [.nilf], .func⟩
theorem k56 : TyOk Tryd.prog 56 y56 where
  info := ⟨_, _, i56, rfl, rfl, fun _ _ => ⟨.flat rfl (.nil _), .flat rfl (.nil _)⟩⟩
  kind := ⟨_, _, _, Tryd.underlying56⟩
def y57 : TyI S := ⟨1, [.nilf], .func⟩
theorem k57 : TyOk Tryd.prog 57 y57 where
  info := ⟨_, _, i57, rfl, rfl, fun _ _ => ⟨.flat rfl (.nil _), .flat rfl (.nil _)⟩⟩
  kind := ⟨_, _, _, Tryd.underlying57⟩
def y58 : TyI S := ⟨1, [.nilf], .func⟩
theorem k58 : TyOk Tryd.prog 58 y58 where
  info := ⟨_, _, i58, rfl, rfl, fun _ _ => ⟨.flat rfl (.nil _), .flat rfl (.nil _)⟩⟩
  kind := ⟨_, _, _, Tryd.underlying58⟩
def y59 : TyI S := ⟨1, [.nilf], .func⟩
theorem k59 : TyOk Tryd.prog 59 y59 where
  info := ⟨_, _, i59, rfl, rfl, fun _ _ => ⟨.flat rfl (.nil _), .flat rfl (.nil _)⟩⟩
  kind := ⟨_, _, _, Tryd.underlying59⟩
def y60 : TyI S := ⟨1, [.nilf], .func⟩
theorem k60 : TyOk Tryd.prog 60 y60 where
  info := ⟨_, _, i60, rfl, rfl, fun _ _ => ⟨.flat rfl (.nil _), .flat rfl (.nil _)⟩⟩
  kind := ⟨_, _, _, Tryd.underlying60⟩
def y61 : TyI S := ⟨1, [.nilf], .func⟩
theorem k61 : TyOk Tryd.prog 61 y61 where
  info := ⟨_, _, i61, rfl, rfl, fun _ _ => ⟨.flat rfl (.nil _), .flat rfl (.nil _)⟩⟩
  kind := ⟨_, _, _, Tryd.underlying61⟩
def y62 : TyI S := ⟨4, [.str ByteArray.empty, .int .i64 0, .int .i64 0, .int .i64 0], .struct [(0, 9, 1), (1, 3, 1), (2, 3, 1), (3, 3, 1)]⟩
theorem k62 : TyOk Tryd.prog 62 y62 where
  info := ⟨_, _, i62, rfl, rfl, fun _ _ => ⟨.flat rfl (.flat rfl (.flat rfl (.flat rfl (.nil _)))), .flat rfl (.flat rfl (.flat rfl (.flat rfl (.nil _))))⟩⟩
  kind := ⟨_, [(0, 1), (1, 1), (2, 1), (3, 1)], Tryd.underlying62, by simp only [List.mapM_cons, List.mapM_nil, i3, i9]; rfl, fun i off ft sz h => match i, h with
    | 0, h => by cases h; exact ⟨rfl, by decide, _, rfl, rfl, rfl, _, i9, rfl⟩
    | 1, h => by cases h; exact ⟨rfl, by decide, _, rfl, rfl, rfl, _, i3, rfl⟩
    | 2, h => by cases h; exact ⟨rfl, by decide, _, rfl, rfl, rfl, _, i3, rfl⟩
    | 3, h => by cases h; exact ⟨rfl, by decide, _, rfl, rfl, rfl, _, i3, rfl⟩
    | n + 4, h => by cases h⟩
def y63 : TyI S := ⟨4, [.str ByteArray.empty, .int .i64 0, .int .i64 0, .int .i64 0], .struct [(0, 9, 1), (1, 3, 1), (2, 3, 1), (3, 3, 1)]⟩
theorem k63 : TyOk Tryd.prog 63 y63 where
  info := ⟨_, _, i63, rfl, rfl, fun _ _ => ⟨.flat rfl (.flat rfl (.flat rfl (.flat rfl (.nil _)))), .flat rfl (.flat rfl (.flat rfl (.flat rfl (.nil _))))⟩⟩
  kind := ⟨_, [(0, 1), (1, 1), (2, 1), (3, 1)], Tryd.underlying63, by simp only [List.mapM_cons, List.mapM_nil, i3, i9]; rfl, fun i off ft sz h => match i, h with
    | 0, h => by cases h; exact ⟨rfl, by decide, _, rfl, rfl, rfl, _, i9, rfl⟩
    | 1, h => by cases h; exact ⟨rfl, by decide, _, rfl, rfl, rfl, _, i3, rfl⟩
    | 2, h => by cases h; exact ⟨rfl, by decide, _, rfl, rfl, rfl, _, i3, rfl⟩
    | 3, h => by cases h; exact ⟨rfl, by decide, _, rfl, rfl, rfl, _, i3, rfl⟩
    | n + 4, h => by cases h⟩
def y64 : TyI S := ⟨3, [.int .i64 0, .int .i64 0, .int .i64 0], .struct [(0, 3, 1), (1, 3, 1), (2, 3, 1)]⟩
theorem k64 : TyOk Tryd.prog 64 y64 where
  info := ⟨_, _, i64, rfl, rfl, fun _ _ => ⟨.flat rfl (.flat rfl (.flat rfl (.nil _))), .flat rfl (.flat rfl (.flat rfl (.nil _)))⟩⟩
  kind := ⟨_, [(0, 1), (1, 1), (2, 1)], Tryd.underlying64, by simp only [List.mapM_cons, List.mapM_nil, i3]; rfl, fun i off ft sz h => match i, h with
    | 0, h => by cases h; exact ⟨rfl, by decide, _, rfl, rfl, rfl, _, i3, rfl⟩
    | 1, h => by cases h; exact ⟨rfl, by decide, _, rfl, rfl, rfl, _, i3, rfl⟩
    | 2, h => by cases h; exact ⟨rfl, by decide, _, rfl, rfl, rfl, _, i3, rfl⟩
    | n + 3, h => by cases h⟩
def y65 : TyI S := ⟨3, [.int .i64 0, .int .i64 0, .int .i64 0], .struct [(0, 3, 1), (1, 3, 1), (2, 3, 1)]⟩
theorem k65 : TyOk Tryd.prog 65 y65 where
  info := ⟨_, _, i65, rfl, rfl, fun _ _ => ⟨.flat rfl (.flat rfl (.flat rfl (.nil _))), .flat rfl (.flat rfl (.flat rfl (.nil _)))⟩⟩
  kind := ⟨_, [(0, 1), (1, 1), (2, 1)], Tryd.underlying65, by simp only [List.mapM_cons, List.mapM_nil, i3]; rfl, fun i off ft sz h => match i, h with
    | 0, h => by cases h; exact ⟨rfl, by decide, _, rfl, rfl, rfl, _, i3, rfl⟩
    | 1, h => by cases h; exact ⟨rfl, by decide, _, rfl, rfl, rfl, _, i3, rfl⟩
    | 2, h => by cases h; exact ⟨rfl, by decide, _, rfl, rfl, rfl, _, i3, rfl⟩
    | n + 3, h => by cases h⟩
def y66 : TyI S := ⟨1, [.nilf], .func⟩
theorem k66 : TyOk Tryd.prog 66 y66 where
  info := ⟨_, _, i66, rfl, rfl, fun _ _ => ⟨.flat rfl (.nil _), .flat rfl (.nil _)⟩⟩
  kind := ⟨_, _, _, Tryd.underlying66⟩
def y67 : TyI S := ⟨1, [.nilf], .func⟩
theorem k67 : TyOk Tryd.prog 67 y67 where
  info := ⟨_, _, i67, rfl, rfl, fun _ _ => ⟨.flat rfl (.nil _), .flat rfl (.nil _)⟩⟩
  kind := ⟨_, _, _, Tryd.underlying67⟩
def y68 : TyI S := ⟨1, [.nilf], .func⟩
theorem k68 : TyOk Tryd.prog 68 y68 where
  info := ⟨_, _, i68, rfl, rfl, fun _ _ => ⟨.flat rfl (.nil _), .flat rfl (.nil _)⟩⟩
  kind := ⟨_, _, _, Tryd.underlying68⟩
def y69 : TyI S := ⟨1, [.int .u16 0], .int .u16⟩
theorem k69 : TyOk Tryd.prog 69 y69 where
  info := ⟨_, _, i69, rfl, rfl, fun _ _ => ⟨.flat rfl (.nil _), .flat rfl (.nil _)⟩⟩
  kind := Tryd.underlying69
def y70 : TyI S := ⟨1, [.nilf], .func⟩
theorem k70 : TyOk Tryd.prog 70 y70 where
  info := ⟨_, _, i70, rfl, rfl, fun _ _ => ⟨.flat rfl (.nil _), .flat rfl (.nil _)⟩⟩
  kind := ⟨_, _, _, Tryd.underlying70⟩
def y71 : TyI S := ⟨1, [.nilf], .func⟩
theorem k71 : TyOk Tryd.prog 71 y71 where
  info := ⟨_, _, i71, rfl, rfl, fun _ _ => ⟨.flat rfl (.nil _), .flat rfl (.nil _)⟩⟩
  kind := ⟨_, _, _, Tryd.underlying71⟩
def y72 : TyI S := ⟨1, [.nilf], .func⟩
theorem k72 : TyOk Tryd.prog 72 y72 where
  info := ⟨_, _, i72, rfl, rfl, fun _ _ => ⟨.flat rfl (.nil _), .flat rfl (.nil _)⟩⟩
  kind := ⟨_, _, _, Tryd.underlying72⟩
def y73 : TyI S := ⟨2, [.arr (S := S) U.u8 2 [0, 0]], .array U.u8 2⟩
theorem k73 : TyOk Tryd.prog 73 y73 where
  info := ⟨_, _, i73, rfl, rfl, fun _ _ => ⟨Reps.arr (ws := [.int .u8 0, .int .u8 0]) rfl (.flat rfl (.flat rfl (.nil _))) (.nil _), Reps.arr (ws := [.int .u8 0, .int .u8 0]) rfl (.flat rfl (.flat rfl (.nil _))) (.nil _)⟩⟩
  kind := ⟨_, _, Tryd.underlying73, i5, rfl, by decide⟩
def y74 : TyI S := ⟨1, [.nilf], .func⟩
theorem k74 : TyOk Tryd.prog 74 y74 where
  info := ⟨_, _, i74, rfl, rfl, fun _ _ => ⟨.flat rfl (.nil _), .flat rfl (.nil _)⟩⟩
  kind := ⟨_, _, _, Tryd.underlying74⟩
def y75 : TyI S := ⟨1, [.nilf], .func⟩
theorem k75 : TyOk Tryd.prog 75 y75 where
  info := ⟨_, _, i75, rfl, rfl, fun _ _ => ⟨.flat rfl (.nil _), .flat rfl (.nil _)⟩⟩
  kind := ⟨_, _, _, Tryd.underlying75⟩
def y76 : TyI S := ⟨1, [.nilf], .func⟩
theorem k76 : TyOk Tryd.prog 76 y76 where
  info := ⟨_, _, i76, rfl, rfl, fun _ _ => ⟨.flat rfl (.nil _), .flat rfl (.nil _)⟩⟩
  kind := ⟨_, _, _, Tryd.underlying76⟩
def y77 : TyI S := ⟨1, [.nilf], .func⟩
theorem k77 : TyOk Tryd.prog 77 y77 where
  info := ⟨_, _, i77, rfl, rfl, fun _ _ => ⟨.flat rfl (.nil _), .flat rfl (.nil _)⟩⟩
  kind := ⟨_, _, _, Tryd.underlying77⟩
def y78 : TyI S := ⟨1, [.nilf], .func⟩
theorem k78 : TyOk Tryd.prog 78 y78 where
  info := ⟨_, _, i78, rfl, rfl, fun _ _ => ⟨.flat rfl (.nil _), .flat rfl (.nil _)⟩⟩
  kind := ⟨_, _, _, Tryd.underlying78⟩
def y79 : TyI S := ⟨1, [.nilf], .func⟩
theorem k79 : TyOk Tryd.prog 79 y79 where
  info := ⟨_, _, i79, rfl, rfl, fun _ _ => ⟨.flat rfl (.nil _), .flat rfl (.nil _)⟩⟩
  kind := ⟨_, _, _, Tryd.underlying79⟩
def y80 : TyI S := ⟨1, [.nilf], .func⟩
theorem k80 : TyOk Tryd.prog 80 y80 where
  info := ⟨_, _, i80, rfl, rfl, fun _ _ => ⟨.flat rfl (.nil _), .flat rfl (.nil _)⟩⟩
  kind := ⟨_, _, _, Tryd.underlying80⟩
def y81 : TyI S := ⟨1, [.nilf], .func⟩
theorem k81 : TyOk Tryd.prog 81 y81 where
  info := ⟨_, _, i81, rfl, rfl, fun _ _ => ⟨.flat rfl (.nil _), .flat rfl (.nil _)⟩⟩
  kind := ⟨_, _, _, Tryd.underlying81⟩
def y82 : TyI S := ⟨1, [.nilf], .func⟩
theorem k82 : TyOk Tryd.prog 82 y82 where
  info := ⟨_, _, i82, rfl, rfl, fun _ _ => ⟨.flat rfl (.nil _), .flat rfl (.nil _)⟩⟩
  kind := ⟨_, _, _, Tryd.underlying82⟩
def y83 : TyI S := ⟨1, [.nilf], .func⟩
theorem k83 : TyOk Tryd.prog 83 y83 where
  info := ⟨_, _, i83, rfl, rfl, fun _ _ => ⟨.flat rfl (.nil _), .flat rfl (.nil _)⟩⟩
  kind := ⟨_, _, _, Tryd.underlying83⟩
def y84 : TyI S := ⟨1, [.nilf], .func⟩
theorem k84 : TyOk Tryd.prog 84 y84 where
  info := ⟨_, _, i84, rfl, rfl, fun _ _ => ⟨.flat rfl (.nil _), .flat rfl (.nil _)⟩⟩
  kind := ⟨_, _, _, Tryd.underlying84⟩
def y85 : TyI S := ⟨1, [.nilf], .func⟩
theorem k85 : TyOk Tryd.prog 85 y85 where
  info := ⟨_, _, i85, rfl, rfl, fun _ _ => ⟨.flat rfl (.nil _), .flat rfl (.nil _)⟩⟩
  kind := ⟨_, _, _, Tryd.underlying85⟩
def y86 : TyI S := ⟨1, [.nilf], .func⟩
theorem k86 : TyOk Tryd.prog 86 y86 where
  info := ⟨_, _, i86, rfl, rfl, fun _ _ => ⟨.flat rfl (.nil _), .flat rfl (.nil _)⟩⟩
  kind := ⟨_, _, _, Tryd.underlying86⟩
def y87 : TyI S := ⟨1, [.nilf], .func⟩
theorem k87 : TyOk Tryd.prog 87 y87 where
  info := ⟨_, _, i87, rfl, rfl, fun _ _ => ⟨.flat rfl (.nil _), .flat rfl (.nil _)⟩⟩
  kind := ⟨_, _, _, Tryd.underlying87⟩
def y88 : TyI S := ⟨1, [.nilf], .func⟩
theorem k88 : TyOk Tryd.prog 88 y88 where
  info := ⟨_, _, i88, rfl, rfl, fun _ _ => ⟨.flat rfl (.nil _), .flat rfl (.nil _)⟩⟩
  kind := ⟨_, _, _, Tryd.underlying88⟩
def y89 : TyI S := ⟨1, [.nilf], .func⟩
theorem k89 : TyOk Tryd.prog 89 y89 where
  info := ⟨_, _, i89, rfl, rfl, fun _ _ => ⟨.flat rfl (.nil _), .flat rfl (.nil _)⟩⟩
  kind := ⟨_, _, _, Tryd.underlying89⟩
def y90 : TyI S := ⟨1, [.nilf], .func⟩
theorem k90 : TyOk Tryd.prog 90 y90 where
  info := ⟨_, _, i90, rfl, rfl, fun _ _ => ⟨.flat rfl (.nil _), .flat rfl (.nil _)⟩⟩
  kind := ⟨_, _, _, Tryd.underlying90⟩
def y91 : TyI S := ⟨1, [.nilf], .func⟩
theorem k91 : TyOk Tryd.prog 91 y91 where
  info := ⟨_, _, i91, rfl, rfl, fun _ _ => ⟨.flat rfl (.nil _), .flat rfl (.nil _)⟩⟩
  kind := ⟨_, _, _, Tryd.underlying91⟩
def y92 : TyI S := ⟨1, [.nilf], .func⟩
theorem k92 : TyOk Tryd.prog 92 y92 where
  info := ⟨_, _, i92, rfl, rfl, fun _ _ => ⟨.flat rfl (.nil _), .flat rfl (.nil _)⟩⟩
  kind := ⟨_, _, _, Tryd.underlying92⟩
def y93 : TyI S := ⟨1, [.nilf], .func⟩
theorem k93 : TyOk Tryd.prog 93 y93 where
  info := ⟨_, _, i93, rfl, rfl, fun _ _ => ⟨.flat rfl (.nil _), .flat rfl (.nil _)⟩⟩
  kind := ⟨_, _, _, Tryd.underlying93⟩
def y94 : TyI S := ⟨1, [.nilf], .func⟩
theorem k94 : TyOk Tryd.prog 94 y94 where
  info := ⟨_, _, i94, rfl, rfl, fun _ _ => ⟨.flat rfl (.nil _), .flat rfl (.nil _)⟩⟩
  kind := ⟨_, _, _, Tryd.underlying94⟩
def y95 : TyI S := ⟨1, [.nilp], .ptr⟩
theorem k95 : TyOk Tryd.prog 95 y95 where
  info := ⟨_, _, i95, rfl, rfl, fun _ _ => ⟨.flat rfl (.nil _), .flat rfl (.nil _)⟩⟩
  kind := ⟨_, Tryd.underlying95⟩
def y97 : TyI S := ⟨1, [.nilf], .func⟩
theorem k97 : TyOk Tryd.prog 97 y97 where
  info := ⟨_, _, i97, rfl, rfl, fun _ _ => ⟨.flat rfl (.nil _), .flat rfl (.nil _)⟩⟩
  kind := ⟨_, _, _, Tryd.underlying97⟩
def y98 : TyI S := ⟨8, [.arr (S := S) U.int 8 [0, 0, 0, 0, 0, 0, 0, 0]], .array U.int 8⟩
theorem k98 : TyOk Tryd.prog 98 y98 where
  info := ⟨_, _, i98, rfl, rfl, fun _ _ => ⟨Reps.arr (ws := [.int .i64 0, .int .i64 0, .int .i64 0, .int .i64 0, .int .i64 0, .int .i64 0, .int .i64 0, .int .i64 0]) rfl (.flat rfl (.flat rfl (.flat rfl (.flat rfl (.flat rfl (.flat rfl (.flat rfl (.flat rfl (.nil _))))))))) (.nil _), Reps.arr (ws := [.int .i64 0, .int .i64 0, .int .i64 0, .int .i64 0, .int .i64 0, .int .i64 0, .int .i64 0, .int .i64 0]) rfl (.flat rfl (.flat rfl (.flat rfl (.flat rfl (.flat rfl (.flat rfl (.flat rfl (.flat rfl (.nil _))))))))) (.nil _)⟩⟩
  kind := ⟨_, _, Tryd.underlying98, i3, rfl, by decide⟩
def y99 : TyI S := ⟨8, [.arr (S := S) U.int 8 [0, 0, 0, 0, 0, 0, 0, 0]], .array U.int 8⟩
theorem k99 : TyOk Tryd.prog 99 y99 where
  info := ⟨_, _, i99, rfl, rfl, fun _ _ => ⟨Reps.arr (ws := [.int .i64 0, .int .i64 0, .int .i64 0, .int .i64 0, .int .i64 0, .int .i64 0, .int .i64 0, .int .i64 0]) rfl (.flat rfl (.flat rfl (.flat rfl (.flat rfl (.flat rfl (.flat rfl (.flat rfl (.flat rfl (.nil _))))))))) (.nil _), Reps.arr (ws := [.int .i64 0, .int .i64 0, .int .i64 0, .int .i64 0, .int .i64 0, .int .i64 0, .int .i64 0, .int .i64 0]) rfl (.flat rfl (.flat rfl (.flat rfl (.flat rfl (.flat rfl (.flat rfl (.flat rfl (.flat rfl (.nil _))))))))) (.nil _)⟩⟩
  kind := ⟨_, _, Tryd.underlying99, i3, rfl, by decide⟩
def y100 : TyI S := ⟨19, [.sl (S := S) U.str [] none, .sl (S := S) U.forme [] none, .sl (S := S) U.sight [] none, .arr (S := S) U.int 8 [0, 0, 0, 0, 0, 0, 0, 0], .arr (S := S) U.int 8 [0, 0, 0, 0, 0, 0, 0, 0]], .struct [(0, 26, 3), (3, 99, 8), (11, 99, 8)]⟩
theorem k100 : TyOk Tryd.prog 100 y100 where
  info := ⟨_, _, i100, rfl, rfl, fun _ _ => ⟨.flat ⟨rfl, none, 0, rfl⟩ (.flat ⟨rfl, none, 0, rfl⟩ (.flat ⟨rfl, none, 0, rfl⟩ (Reps.arr (ws := [.int .i64 0, .int .i64 0, .int .i64 0, .int .i64 0, .int .i64 0, .int .i64 0, .int .i64 0, .int .i64 0]) rfl (.flat rfl (.flat rfl (.flat rfl (.flat rfl (.flat rfl (.flat rfl (.flat rfl (.flat rfl (.nil _))))))))) (Reps.arr (ws := [.int .i64 0, .int .i64 0, .int .i64 0, .int .i64 0, .int .i64 0, .int .i64 0, .int .i64 0, .int .i64 0]) rfl (.flat rfl (.flat rfl (.flat rfl (.flat rfl (.flat rfl (.flat rfl (.flat rfl (.flat rfl (.nil _))))))))) (.nil _))))), .flat ⟨none, rfl⟩ (.flat ⟨none, rfl⟩ (.flat ⟨none, rfl⟩ (Reps.arr (ws := [.int .i64 0, .int .i64 0, .int .i64 0, .int .i64 0, .int .i64 0, .int .i64 0, .int .i64 0, .int .i64 0]) rfl (.flat rfl (.flat rfl (.flat rfl (.flat rfl (.flat rfl (.flat rfl (.flat rfl (.flat rfl (.nil _))))))))) (Reps.arr (ws := [.int .i64 0, .int .i64 0, .int .i64 0, .int .i64 0, .int .i64 0, .int .i64 0, .int .i64 0, .int .i64 0]) rfl (.flat rfl (.flat rfl (.flat rfl (.flat rfl (.flat rfl (.flat rfl (.flat rfl (.flat rfl (.nil _))))))))) (.nil _)))))⟩⟩
  kind := ⟨_, [(0, 3), (3, 8), (11, 8)], Tryd.underlying100, by simp only [List.mapM_cons, List.mapM_nil, i26, i99]; rfl, fun i off ft sz h => match i, h with
    | 0, h => by cases h; exact ⟨rfl, by decide, _, rfl, rfl, rfl, _, i26, rfl⟩
    | 1, h => by cases h; exact ⟨rfl, by decide, _, rfl, rfl, rfl, _, i99, rfl⟩
    | 2, h => by cases h; exact ⟨rfl, by decide, _, rfl, rfl, rfl, _, i99, rfl⟩
    | n + 3, h => by cases h⟩
def y101 : TyI S := ⟨19, [.sl (S := S) U.str [] none, .sl (S := S) U.forme [] none, .sl (S := S) U.sight [] none, .arr (S := S) U.int 8 [0, 0, 0, 0, 0, 0, 0, 0], .arr (S := S) U.int 8 [0, 0, 0, 0, 0, 0, 0, 0]], .struct [(0, 26, 3), (3, 99, 8), (11, 99, 8)]⟩
theorem k101 : TyOk Tryd.prog 101 y101 where
  info := ⟨_, _, i101, rfl, rfl, fun _ _ => ⟨.flat ⟨rfl, none, 0, rfl⟩ (.flat ⟨rfl, none, 0, rfl⟩ (.flat ⟨rfl, none, 0, rfl⟩ (Reps.arr (ws := [.int .i64 0, .int .i64 0, .int .i64 0, .int .i64 0, .int .i64 0, .int .i64 0, .int .i64 0, .int .i64 0]) rfl (.flat rfl (.flat rfl (.flat rfl (.flat rfl (.flat rfl (.flat rfl (.flat rfl (.flat rfl (.nil _))))))))) (Reps.arr (ws := [.int .i64 0, .int .i64 0, .int .i64 0, .int .i64 0, .int .i64 0, .int .i64 0, .int .i64 0, .int .i64 0]) rfl (.flat rfl (.flat rfl (.flat rfl (.flat rfl (.flat rfl (.flat rfl (.flat rfl (.flat rfl (.nil _))))))))) (.nil _))))), .flat ⟨none, rfl⟩ (.flat ⟨none, rfl⟩ (.flat ⟨none, rfl⟩ (Reps.arr (ws := [.int .i64 0, .int .i64 0, .int .i64 0, .int .i64 0, .int .i64 0, .int .i64 0, .int .i64 0, .int .i64 0]) rfl (.flat rfl (.flat rfl (.flat rfl (.flat rfl (.flat rfl (.flat rfl (.flat rfl (.flat rfl (.nil _))))))))) (Reps.arr (ws := [.int .i64 0, .int .i64 0, .int .i64 0, .int .i64 0, .int .i64 0, .int .i64 0, .int .i64 0, .int .i64 0]) rfl (.flat rfl (.flat rfl (.flat rfl (.flat rfl (.flat rfl (.flat rfl (.flat rfl (.flat rfl (.nil _))))))))) (.nil _)))))⟩⟩
  kind := ⟨_, [(0, 3), (3, 8), (11, 8)], Tryd.underlying101, by simp only [List.mapM_cons, List.mapM_nil, i26, i99]; rfl, fun i off ft sz h => match i, h with
    | 0, h => by cases h; exact ⟨rfl, by decide, _, rfl, rfl, rfl, _, i26, rfl⟩
    | 1, h => by cases h; exact ⟨rfl, by decide, _, rfl, rfl, rfl, _, i99, rfl⟩
    | 2, h => by cases h; exact ⟨rfl, by decide, _, rfl, rfl, rfl, _, i99, rfl⟩
    | n + 3, h => by cases h⟩
def y102 : TyI S := ⟨1, [.nilf], .func⟩
theorem k102 : TyOk Tryd.prog 102 y102 where
  info := ⟨_, _, i102, rfl, rfl, fun _ _ => ⟨.flat rfl (.nil _), .flat rfl (.nil _)⟩⟩
  kind := ⟨_, _, _, Tryd.underlying102⟩
def y103 : TyI S := ⟨1, [.int .u64 0], .int .u64⟩
theorem k103 : TyOk Tryd.prog 103 y103 where
  info := ⟨_, _, i103, rfl, rfl, fun _ _ => ⟨.flat rfl (.nil _), .flat rfl (.nil _)⟩⟩
  kind := Tryd.underlying103
def y104 : TyI S := ⟨1, [.nilf], .func⟩
theorem k104 : TyOk Tryd.prog 104 y104 where
  info := ⟨_, _, i104, rfl, rfl, fun _ _ => ⟨.flat rfl (.nil _), .flat rfl (.nil _)⟩⟩
  kind := ⟨_, _, _, Tryd.underlying104⟩
def y106 : TyI S := ⟨1, [.nilf], .func⟩
theorem k106 : TyOk Tryd.prog 106 y106 where
  info := ⟨_, _, i106, rfl, rfl, fun _ _ => ⟨.flat rfl (.nil _), .flat rfl (.nil _)⟩⟩
  kind := ⟨_, _, _, Tryd.underlying106⟩
def y108 : TyI S := ⟨1, [.nilf], .func⟩
theorem k108 : TyOk Tryd.prog 108 y108 where
  info := ⟨_, _, i108, rfl, rfl, fun _ _ => ⟨.flat rfl (.nil _), .flat rfl (.nil _)⟩⟩
  kind := ⟨_, _, _, Tryd.underlying108⟩
def y109 : TyI S := ⟨1, [.nilf], .func⟩
theorem k109 : TyOk Tryd.prog 109 y109 where
  info := ⟨_, _, i109, rfl, rfl, fun _ _ => ⟨.flat rfl (.nil _), .flat rfl (.nil _)⟩⟩
  kind := ⟨_, _, _, Tryd.underlying109⟩
def y110 : TyI S := ⟨1, [.nilf], .func⟩
theorem k110 : TyOk Tryd.prog 110 y110 where
  info := ⟨_, _, i110, rfl, rfl, fun _ _ => ⟨.flat rfl (.nil _), .flat rfl (.nil _)⟩⟩
  kind := ⟨_, _, _, Tryd.underlying110⟩
def y111 : TyI S := ⟨1, [.nilf], .func⟩
theorem k111 : TyOk Tryd.prog 111 y111 where
  info := ⟨_, _, i111, rfl, rfl, fun _ _ => ⟨.flat rfl (.nil _), .flat rfl (.nil _)⟩⟩
  kind := ⟨_, _, _, Tryd.underlying111⟩
def y112 : TyI S := ⟨1, [.nilf], .func⟩
theorem k112 : TyOk Tryd.prog 112 y112 where
  info := ⟨_, _, i112, rfl, rfl, fun _ _ => ⟨.flat rfl (.nil _), .flat rfl (.nil _)⟩⟩
  kind := ⟨_, _, _, Tryd.underlying112⟩
def y113 : TyI S := ⟨1, [.sl (S := S) U.ints [] none], .slice U.ints 24 [.sl (S := S) U.int [] none]⟩
theorem k113 : TyOk Tryd.prog 113 y113 where
  info := ⟨_, _, i113, rfl, rfl, fun _ _ => ⟨.flat ⟨rfl, none, 0, rfl⟩ (.nil _), .flat ⟨none, rfl⟩ (.nil _)⟩⟩
  kind := ⟨_, _, _, Tryd.underlying113, i30, rfl, rfl, by decide, by decide, rfl, fun _ _ => ⟨.flat ⟨rfl, none, 0, rfl⟩ (.nil _), .flat ⟨none, rfl⟩ (.nil _)⟩, rfl⟩
def y114 : TyI S := ⟨1, [.nilf], .func⟩
theorem k114 : TyOk Tryd.prog 114 y114 where
  info := ⟨_, _, i114, rfl, rfl, fun _ _ => ⟨.flat rfl (.nil _), .flat rfl (.nil _)⟩⟩
  kind := ⟨_, _, _, Tryd.underlying114⟩
def y115 : TyI S := ⟨8, [.arr (S := S) U.int 8 [0, 0, 0, 0, 0, 0, 0, 0]], .array U.int 8⟩
theorem k115 : TyOk Tryd.prog 115 y115 where
  info := ⟨_, _, i115, rfl, rfl, fun _ _ => ⟨Reps.arr (ws := [.int .i64 0, .int .i64 0, .int .i64 0, .int .i64 0, .int .i64 0, .int .i64 0, .int .i64 0, .int .i64 0]) rfl (.flat rfl (.flat rfl (.flat rfl (.flat rfl (.flat rfl (.flat rfl (.flat rfl (.flat rfl (.nil _))))))))) (.nil _), Reps.arr (ws := [.int .i64 0, .int .i64 0, .int .i64 0, .int .i64 0, .int .i64 0, .int .i64 0, .int .i64 0, .int .i64 0]) rfl (.flat rfl (.flat rfl (.flat rfl (.flat rfl (.flat rfl (.flat rfl (.flat rfl (.flat rfl (.nil _))))))))) (.nil _)⟩⟩
  kind := ⟨_, _, Tryd.underlying115, i3, rfl, by decide⟩
def y117 : TyI S := ⟨1, [.nilf], .func⟩
theorem k117 : TyOk Tryd.prog 117 y117 where
  info := ⟨_, _, i117, rfl, rfl, fun _ _ => ⟨.flat rfl (.nil _), .flat rfl (.nil _)⟩⟩
  kind := ⟨_, _, _, Tryd.underlying117⟩
def y118 : TyI S := ⟨1, [.nilf], .func⟩
theorem k118 : TyOk Tryd.prog 118 y118 where
  info := ⟨_, _, i118, rfl, rfl, fun _ _ => ⟨.flat rfl (.nil _), .flat rfl (.nil _)⟩⟩
  kind := ⟨_, _, _, Tryd.underlying118⟩
def y119 : TyI S := ⟨1, [.nilf], .func⟩
theorem k119 : TyOk Tryd.prog 119 y119 where
  info := ⟨_, _, i119, rfl, rfl, fun _ _ => ⟨.flat rfl (.nil _), .flat rfl (.nil _)⟩⟩
  kind := ⟨_, _, _, Tryd.underlying119⟩
def y120 : TyI S := ⟨1, [.nilf], .func⟩
theorem k120 : TyOk Tryd.prog 120 y120 where
  info := ⟨_, _, i120, rfl, rfl, fun _ _ => ⟨.flat rfl (.nil _), .flat rfl (.nil _)⟩⟩
  kind := ⟨_, _, _, Tryd.underlying120⟩
def y121 : TyI S := ⟨1, [.undef], .map⟩
theorem k121 : TyOk Tryd.prog 121 y121 where
  info := ⟨_, _, i121, rfl, rfl, fun _ _ => ⟨.flat trivial (.nil _), .flat trivial (.nil _)⟩⟩
  kind := ⟨_, _, Tryd.underlying121⟩
def y122 : TyI S := ⟨1, [.nilf], .func⟩
theorem k122 : TyOk Tryd.prog 122 y122 where
  info := ⟨_, _, i122, rfl, rfl, fun _ _ => ⟨.flat rfl (.nil _), .flat rfl (.nil _)⟩⟩
  kind := ⟨_, _, _, Tryd.underlying122⟩
def y123 : TyI S := ⟨1, [.nilf], .func⟩
theorem k123 : TyOk Tryd.prog 123 y123 where
  info := ⟨_, _, i123, rfl, rfl, fun _ _ => ⟨.flat rfl (.nil _), .flat rfl (.nil _)⟩⟩
  kind := ⟨_, _, _, Tryd.underlying123⟩
def y124 : TyI S := ⟨1, [.nilf], .func⟩
theorem k124 : TyOk Tryd.prog 124 y124 where
  info := ⟨_, _, i124, rfl, rfl, fun _ _ => ⟨.flat rfl (.nil _), .flat rfl (.nil _)⟩⟩
  kind := ⟨_, _, _, Tryd.underlying124⟩
def y125 : TyI S := ⟨1, [.nilf], .func⟩
theorem k125 : TyOk Tryd.prog 125 y125 where
  info := ⟨_, _, i125, rfl, rfl, fun _ _ => ⟨.flat rfl (.nil _), .flat rfl (.nil _)⟩⟩
  kind := ⟨_, _, _, Tryd.underlying125⟩
def y126 : TyI S := ⟨1, [.nilf], .func⟩
theorem k126 : TyOk Tryd.prog 126 y126 where
  info := ⟨_, _, i126, rfl, rfl, fun _ _ => ⟨.flat rfl (.nil _), .flat rfl (.nil _)⟩⟩
  kind := ⟨_, _, _, Tryd.underlying126⟩
def y127 : TyI S := ⟨1, [.nilf], .func⟩
theorem k127 : TyOk Tryd.prog 127 y127 where
  info := ⟨_, _, i127, rfl, rfl, fun _ _ => ⟨.flat rfl (.nil _), .flat rfl (.nil _)⟩⟩
  kind := ⟨_, _, _, Tryd.underlying127⟩
def y128 : TyI S := ⟨1, [.sl (S := S) U.bools [] none], .slice U.bools 24 [.sl (S := S) U.bool [] none]⟩
theorem k128 : TyOk Tryd.prog 128 y128 where
  info := ⟨_, _, i128, rfl, rfl, fun _ _ => ⟨.flat ⟨rfl, none, 0, rfl⟩ (.nil _), .flat ⟨none, rfl⟩ (.nil _)⟩⟩
  kind := ⟨_, _, _, Tryd.underlying128, i136, rfl, rfl, by decide, by decide, rfl, fun _ _ => ⟨.flat ⟨rfl, none, 0, rfl⟩ (.nil _), .flat ⟨none, rfl⟩ (.nil _)⟩, rfl⟩
def y129 : TyI S := ⟨1, [.nilf], .func⟩
theorem k129 : TyOk Tryd.prog 129 y129 where
  info := ⟨_, _, i129, rfl, rfl, fun _ _ => ⟨.flat rfl (.nil _), .flat rfl (.nil _)⟩⟩
  kind := ⟨_, _, _, Tryd.underlying129⟩
def y130 : TyI S := ⟨1, [.nilf], .func⟩
theorem k130 : TyOk Tryd.prog 130 y130 where
  info := ⟨_, _, i130, rfl, rfl, fun _ _ => ⟨.flat rfl (.nil _), .flat rfl (.nil _)⟩⟩
  kind := ⟨_, _, _, Tryd.underlying130⟩
def y131 : TyI S := ⟨1, [.nilf], .func⟩
theorem k131 : TyOk Tryd.prog 131 y131 where
  info := ⟨_, _, i131, rfl, rfl, fun _ _ => ⟨.flat rfl (.nil _), .flat rfl (.nil _)⟩⟩
  kind := ⟨_, _, _, Tryd.underlying131⟩
def y132 : TyI S := ⟨1, [.nilf], .func⟩
theorem k132 : TyOk Tryd.prog 132 y132 where
  info := ⟨_, _, i132, rfl, rfl, fun _ _ => ⟨.flat rfl (.nil _), .flat rfl (.nil _)⟩⟩
  kind := ⟨_, _, _, Tryd.underlying132⟩
def y133 : TyI S := ⟨2, [.nilf, .nilf], .struct [(0, 132, 1), (1, 132, 1)]⟩
theorem k133 : TyOk Tryd.prog 133 y133 where
  info := ⟨_, _, i133, rfl, rfl, fun _ _ => ⟨.flat rfl (.flat rfl (.nil _)), .flat rfl (.flat rfl (.nil _))⟩⟩
  kind := ⟨_, [(0, 1), (1, 1)], Tryd.underlying133, by simp only [List.mapM_cons, List.mapM_nil, i132]; rfl, fun i off ft sz h => match i, h with
    | 0, h => by cases h; exact ⟨rfl, by decide, _, rfl, rfl, rfl, _, i132, rfl⟩
    | 1, h => by cases h; exact ⟨rfl, by decide, _, rfl, rfl, rfl, _, i132, rfl⟩
    | n + 2, h => by cases h⟩
def y134 : TyI S := ⟨2, [.nilf, .nilf], .struct [(0, 132, 1), (1, 132, 1)]⟩
theorem k134 : TyOk Tryd.prog 134 y134 where
  info := ⟨_, _, i134, rfl, rfl, fun _ _ => ⟨.flat rfl (.flat rfl (.nil _)), .flat rfl (.flat rfl (.nil _))⟩⟩
  kind := ⟨_, [(0, 1), (1, 1)], Tryd.underlying134, by simp only [List.mapM_cons, List.mapM_nil, i132]; rfl, fun i off ft sz h => match i, h with
    | 0, h => by cases h; exact ⟨rfl, by decide, _, rfl, rfl, rfl, _, i132, rfl⟩
    | 1, h => by cases h; exact ⟨rfl, by decide, _, rfl, rfl, rfl, _, i132, rfl⟩
    | n + 2, h => by cases h⟩
def y135 : TyI S := ⟨1, [.nilf], .func⟩
theorem k135 : TyOk Tryd.prog 135 y135 where
  info := ⟨_, _, i135, rfl, rfl, fun _ _ => ⟨.flat rfl (.nil _), .flat rfl (.nil _)⟩⟩
  kind := ⟨_, _, _, Tryd.underlying135⟩
def y136 : TyI S := ⟨1, [.sl (S := S) U.bool [] none], .slice U.bool 1 [.bool false]⟩
theorem k136 : TyOk Tryd.prog 136 y136 where
  info := ⟨_, _, i136, rfl, rfl, fun _ _ => ⟨.flat ⟨rfl, none, 0, rfl⟩ (.nil _), .flat ⟨none, rfl⟩ (.nil _)⟩⟩
  kind := ⟨_, _, _, Tryd.underlying136, i4, rfl, rfl, by decide, by decide, rfl, fun _ _ => ⟨.flat rfl (.nil _), .flat rfl (.nil _)⟩, rfl⟩
def y137 : TyI S := ⟨1, [.nilf], .func⟩
theorem k137 : TyOk Tryd.prog 137 y137 where
  info := ⟨_, _, i137, rfl, rfl, fun _ _ => ⟨.flat rfl (.nil _), .flat rfl (.nil _)⟩⟩
  kind := ⟨_, _, _, Tryd.underlying137⟩
def y138 : TyI S := ⟨1, [.nilf], .func⟩
theorem k138 : TyOk Tryd.prog 138 y138 where
  info := ⟨_, _, i138, rfl, rfl, fun _ _ => ⟨.flat rfl (.nil _), .flat rfl (.nil _)⟩⟩
  kind := ⟨_, _, _, Tryd.underlying138⟩
def y139 : TyI S := ⟨1, [.nilf], .func⟩
theorem k139 : TyOk Tryd.prog 139 y139 where
  info := ⟨_, _, i139, rfl, rfl, fun _ _ => ⟨.flat rfl (.nil _), .flat rfl (.nil _)⟩⟩
  kind := ⟨_, _, _, Tryd.underlying139⟩
def y140 : TyI S := ⟨1, [.nilf], .func⟩
theorem k140 : TyOk Tryd.prog 140 y140 where
  info := ⟨_, _, i140, rfl, rfl, fun _ _ => ⟨.flat rfl (.nil _), .flat rfl (.nil _)⟩⟩
  kind := ⟨_, _, _, Tryd.underlying140⟩
def y141 : TyI S := ⟨1, [.nilp], .ptr⟩
theorem k141 : TyOk Tryd.prog 141 y141 where
  info := ⟨_, _, i141, rfl, rfl, fun _ _ => ⟨.flat rfl (.nil _), .flat rfl (.nil _)⟩⟩
  kind := ⟨_, Tryd.underlying141⟩
def y142 : TyI S := ⟨1, [.nilf], .func⟩
theorem k142 : TyOk Tryd.prog 142 y142 where
  info := ⟨_, _, i142, rfl, rfl, fun _ _ => ⟨.flat rfl (.nil _), .flat rfl (.nil _)⟩⟩
  kind := ⟨_, _, _, Tryd.underlying142⟩
def y143 : TyI S := ⟨1, [.nilf], .func⟩
theorem k143 : TyOk Tryd.prog 143 y143 where
  info := ⟨_, _, i143, rfl, rfl, fun _ _ => ⟨.flat rfl (.nil _), .flat rfl (.nil _)⟩⟩
  kind := ⟨_, _, _, Tryd.underlying143⟩
def y144 : TyI S := ⟨1, [.nilf], .func⟩
theorem k144 : TyOk Tryd.prog 144 y144 where
  info := ⟨_, _, i144, rfl, rfl, fun _ _ => ⟨.flat rfl (.nil _), .flat rfl (.nil _)⟩⟩
  kind := ⟨_, _, _, Tryd.underlying144⟩
def y145 : TyI S := ⟨1, [.int .u32 0], .int .u32⟩
theorem k145 : TyOk Tryd.prog 145 y145 where
  info := ⟨_, _, i145, rfl, rfl, fun _ _ => ⟨.flat rfl (.nil _), .flat rfl (.nil _)⟩⟩
  kind := Tryd.underlying145
def y146 : TyI S := ⟨1, [.nilf], .func⟩
theorem k146 : TyOk Tryd.prog 146 y146 where
  info := ⟨_, _, i146, rfl, rfl, fun _ _ => ⟨.flat rfl (.nil _), .flat rfl (.nil _)⟩⟩
  kind := ⟨_, _, _, Tryd.underlying146⟩
def y147 : TyI S := ⟨1, [.int .u64 0], .int .u64⟩
theorem k147 : TyOk Tryd.prog 147 y147 where
  info := ⟨_, _, i147, rfl, rfl, fun _ _ => ⟨.flat rfl (.nil _), .flat rfl (.nil _)⟩⟩
  kind := Tryd.underlying147
def y148 : TyI S := ⟨1, [.nilf], .func⟩
theorem k148 : TyOk Tryd.prog 148 y148 where
  info := ⟨_, _, i148, rfl, rfl, fun _ _ => ⟨.flat rfl (.nil _), .flat rfl (.nil _)⟩⟩
  kind := ⟨_, _, _, Tryd.underlying148⟩
def y149 : TyI S := ⟨1, [.nilf], .func⟩
theorem k149 : TyOk Tryd.prog 149 y149 where
  info := ⟨_, _, i149, rfl, rfl, fun _ _ => ⟨.flat rfl (.nil _), .flat rfl (.nil _)⟩⟩
  kind := ⟨_, _, _, Tryd.underlying149⟩
def y150 : TyI S := ⟨1, [.nilf], .func⟩
theorem k150 : TyOk Tryd.prog 150 y150 where
  info := ⟨_, _, i150, rfl, rfl, fun _ _ => ⟨.flat rfl (.nil _), .flat rfl (.nil _)⟩⟩
  kind := ⟨_, _, _, Tryd.underlying150⟩
def y151 : TyI S := ⟨6, [.arr (S := S) U.int 6 [0, 0, 0, 0, 0, 0]], .array U.int 6⟩
theorem k151 : TyOk Tryd.prog 151 y151 where
  info := ⟨_, _, i151, rfl, rfl, fun _ _ => ⟨Reps.arr (ws := [.int .i64 0, .int .i64 0, .int .i64 0, .int .i64 0, .int .i64 0, .int .i64 0]) rfl (.flat rfl (.flat rfl (.flat rfl (.flat rfl (.flat rfl (.flat rfl (.nil _))))))) (.nil _), Reps.arr (ws := [.int .i64 0, .int .i64 0, .int .i64 0, .int .i64 0, .int .i64 0, .int .i64 0]) rfl (.flat rfl (.flat rfl (.flat rfl (.flat rfl (.flat rfl (.flat rfl (.nil _))))))) (.nil _)⟩⟩
  kind := ⟨_, _, Tryd.underlying151, i3, rfl, by decide⟩
def y152 : TyI S := ⟨1, [.nilf], .func⟩
theorem k152 : TyOk Tryd.prog 152 y152 where
  info := ⟨_, _, i152, rfl, rfl, fun _ _ => ⟨.flat rfl (.nil _), .flat rfl (.nil _)⟩⟩
  kind := ⟨_, _, _, Tryd.underlying152⟩
def y153 : TyI S := ⟨1, [.nilf], .func⟩
theorem k153 : TyOk Tryd.prog 153 y153 where
  info := ⟨_, _, i153, rfl, rfl, fun _ _ => ⟨.flat rfl (.nil _), .flat rfl (.nil _)⟩⟩
  kind := ⟨_, _, _, Tryd.underlying153⟩
def y154 : TyI S := ⟨1, [.nilf], .func⟩
theorem k154 : TyOk Tryd.prog 154 y154 where
  info := ⟨_, _, i154, rfl, rfl, fun _ _ => ⟨.flat rfl (.nil _), .flat rfl (.nil _)⟩⟩
  kind := ⟨_, _, _, Tryd.underlying154⟩
def y155 : TyI S := ⟨1, [.nilf], .func⟩
theorem k155 : TyOk Tryd.prog 155 y155 where
  info := ⟨_, _, i155, rfl, rfl, fun _ _ => ⟨.flat rfl (.nil _), .flat rfl (.nil _)⟩⟩
  kind := ⟨_, _, _, Tryd.underlying155⟩
def y156 : TyI S := ⟨1, [.nilf], .func⟩
theorem k156 : TyOk Tryd.prog 156 y156 where
  info := ⟨_, _, i156, rfl, rfl, fun _ _ => ⟨.flat rfl (.nil _), .flat rfl (.nil _)⟩⟩
  kind := ⟨_, _, _, Tryd.underlying156⟩
def y159 : TyI S := ⟨1, [.nilf], .func⟩
theorem k159 : TyOk Tryd.prog 159 y159 where
  info := ⟨_, _, i159, rfl, rfl, fun _ _ => ⟨.flat rfl (.nil _), .flat rfl (.nil _)⟩⟩
  kind := ⟨_, _, _, Tryd.underlying159⟩
def y160 : TyI S := ⟨1, [.nilf], .func⟩
theorem k160 : TyOk Tryd.prog 160 y160 where
  info := ⟨_, _, i160, rfl, rfl, fun _ _ => ⟨.flat rfl (.nil _), .flat rfl (.nil _)⟩⟩
  kind := ⟨_, _, _, Tryd.underlying160⟩
def y161 : TyI S := ⟨4, [.nilp, .nilp, .nilp, .str ByteArray.empty], .struct [(0, 17, 1), (1, 17, 1), (2, 17, 1), (3, 9, 1)]⟩
theorem k161 : TyOk Tryd.prog 161 y161 where
  info := ⟨_, _, i161, rfl, rfl, fun _ _ => ⟨.flat rfl (.flat rfl (.flat rfl (.flat rfl (.nil _)))), .flat rfl (.flat rfl (.flat rfl (.flat rfl (.nil _))))⟩⟩
  kind := ⟨_, [(0, 1), (1, 1), (2, 1), (3, 1)], Tryd.underlying161, by simp only [List.mapM_cons, List.mapM_nil, i17, i9]; rfl, fun i off ft sz h => match i, h with
    | 0, h => by cases h; exact ⟨rfl, by decide, _, rfl, rfl, rfl, _, i17, rfl⟩
    | 1, h => by cases h; exact ⟨rfl, by decide, _, rfl, rfl, rfl, _, i17, rfl⟩
    | 2, h => by cases h; exact ⟨rfl, by decide, _, rfl, rfl, rfl, _, i17, rfl⟩
    | 3, h => by cases h; exact ⟨rfl, by decide, _, rfl, rfl, rfl, _, i9, rfl⟩
    | n + 4, h => by cases h⟩
def y166 : TyI S := ⟨1, [.nilf], .func⟩
theorem k166 : TyOk Tryd.prog 166 y166 where
  info := ⟨_, _, i166, rfl, rfl, fun _ _ => ⟨.flat rfl (.nil _), .flat rfl (.nil _)⟩⟩
  kind := ⟨_, _, _, Tryd.underlying166⟩
def y169 : TyI S := ⟨1, [.nilf], .func⟩
theorem k169 : TyOk Tryd.prog 169 y169 where
  info := ⟨_, _, i169, rfl, rfl, fun _ _ => ⟨.flat rfl (.nil _), .flat rfl (.nil _)⟩⟩
  kind := ⟨_, _, _, Tryd.underlying169⟩
def y170 : TyI S := ⟨1, [.nilp], .ptr⟩
theorem k170 : TyOk Tryd.prog 170 y170 where
  info := ⟨_, _, i170, rfl, rfl, fun _ _ => ⟨.flat rfl (.nil _), .flat rfl (.nil _)⟩⟩
  kind := ⟨_, Tryd.underlying170⟩
def y173 : TyI S := ⟨11, [.int .u64 0, .int .u64 0, .int .u32 0, .int .u8 0, .int .u8 0, .int .u8 0, .int .u8 0, .nilf, .nilp, .int .i32 0, .int .i32 0], .struct [(0, 12, 1), (1, 12, 1), (2, 145, 1), (3, 167, 1), (4, 5, 1), (5, 5, 1), (6, 168, 1), (7, 169, 1), (8, 170, 1), (9, 171, 1), (10, 172, 1)]⟩
theorem k173 : TyOk Tryd.prog 173 y173 where
  info := ⟨_, _, i173, rfl, rfl, fun _ _ => ⟨.flat rfl (.flat rfl (.flat rfl (.flat rfl (.flat rfl (.flat rfl (.flat rfl (.flat rfl (.flat rfl (.flat rfl (.flat rfl (.nil _))))))))))), .flat rfl (.flat rfl (.flat rfl (.flat rfl (.flat rfl (.flat rfl (.flat rfl (.flat rfl (.flat rfl (.flat rfl (.flat rfl (.nil _)))))))))))⟩⟩
  kind := ⟨_, [(0, 1), (1, 1), (2, 1), (3, 1), (4, 1), (5, 1), (6, 1), (7, 1), (8, 1), (9, 1), (10, 1)], Tryd.underlying173, by simp only [List.mapM_cons, List.mapM_nil, i12, i145, i167, i168, i169, i170, i171, i172, i5]; rfl, fun i off ft sz h => match i, h with
    | 0, h => by cases h; exact ⟨rfl, by decide, _, rfl, rfl, rfl, _, i12, rfl⟩
    | 1, h => by cases h; exact ⟨rfl, by decide, _, rfl, rfl, rfl, _, i12, rfl⟩
    | 2, h => by cases h; exact ⟨rfl, by decide, _, rfl, rfl, rfl, _, i145, rfl⟩
    | 3, h => by cases h; exact ⟨rfl, by decide, _, rfl, rfl, rfl, _, i167, rfl⟩
    | 4, h => by cases h; exact ⟨rfl, by decide, _, rfl, rfl, rfl, _, i5, rfl⟩
    | 5, h => by cases h; exact ⟨rfl, by decide, _, rfl, rfl, rfl, _, i5, rfl⟩
    | 6, h => by cases h; exact ⟨rfl, by decide, _, rfl, rfl, rfl, _, i168, rfl⟩
    | 7, h => by cases h; exact ⟨rfl, by decide, _, rfl, rfl, rfl, _, i169, rfl⟩
    | 8, h => by cases h; exact ⟨rfl, by decide, _, rfl, rfl, rfl, _, i170, rfl⟩
    | 9, h => by cases h; exact ⟨rfl, by decide, _, rfl, rfl, rfl, _, i171, rfl⟩
    | 10, h => by cases h; exact ⟨rfl, by decide, _, rfl, rfl, rfl, _, i172, rfl⟩
    | n + 11, h => by cases h⟩

def ti : List (Nat × TyI S) := [(1, y1), (2, y2), (3, y3), (4, y4), (5, y5), (7, y7), (9, y9), (12, y12), (13, y13), (18, y18), (19, y19), (21, y21), (22, y22), (23, y23), (24, y24), (25, y25), (26, y26), (27, y27), (29, y29), (30, y30), (32, y32), (33, y33), (34, y34), (35, y35), (37, y37), (38, y38), (39, y39), (40, y40), (42, y42), (44, y44), (45, y45), (46, y46), (48, y48), (49, y49), (50, y50), (51, y51), (52, y52), (53, y53), (54, y54), (55, y55), (56, y56), (57, y57), (58, y58), (59, y59), (60, y60), (61, y61), (62, y62), (63, y63), (64, y64), (65, y65), (66, y66), (67, y67), (68, y68), (69, y69), (70, y70), (71, y71), (72, y72), (73, y73), (74, y74), (75, y75), (76, y76), (77, y77), (78, y78), (79, y79), (80, y80), (81, y81), (82, y82), (83, y83), (84, y84), (85, y85), (86, y86), (87, y87), (88, y88), (89, y89), (90, y90), (91, y91), (92, y92), (93, y93), (94, y94), (95, y95), (97, y97), (98, y98), (99, y99), (100, y100), (101, y101), (102, y102), (103, y103), (104, y104), (106, y106), (108, y108), (109, y109), (110, y110), (111, y111), (112, y112), (113, y113), (114, y114), (115, y115), (117, y117), (118, y118), (119, y119), (120, y120), (121, y121), (122, y122), (123, y123), (124, y124), (125, y125), (126, y126), (127, y127), (128, y128), (129, y129), (130, y130), (131, y131), (132, y132), (133, y133), (134, y134), (135, y135), (136, y136), (137, y137), (138, y138), (139, y139), (140, y140), (141, y141), (142, y142), (143, y143), (144, y144), (145, y145), (146, y146), (147, y147), (148, y148), (149, y149), (150, y150), (151, y151), (152, y152), (153, y153), (154, y154), (155, y155), (156, y156), (159, y159), (160, y160), (161, y161), (166, y166), (169, y169), (170, y170), (173, y173)]

theorem ti_ok : TisOk Tryd.prog ti := tis_cons k1 <| tis_cons k2 <| tis_cons k3 <| tis_cons k4 <| tis_cons k5 <| tis_cons k7 <| tis_cons k9 <| tis_cons k12 <| tis_cons k13 <| tis_cons k18 <| tis_cons k19 <| tis_cons k21 <| tis_cons k22 <| tis_cons k23 <| tis_cons k24 <| tis_cons k25 <| tis_cons k26 <| tis_cons k27 <| tis_cons k29 <| tis_cons k30 <| tis_cons k32 <| tis_cons k33 <| tis_cons k34 <| tis_cons k35 <| tis_cons k37 <| tis_cons k38 <| tis_cons k39 <| tis_cons k40 <| tis_cons k42 <| tis_cons k44 <| tis_cons k45 <| tis_cons k46 <| tis_cons k48 <| tis_cons k49 <| tis_cons k50 <| tis_cons k51 <| tis_cons k52 <| tis_cons k53 <| tis_cons k54 <| tis_cons k55 <| tis_cons k56 <| tis_cons k57 <| tis_cons k58 <| tis_cons k59 <| tis_cons k60 <| tis_cons k61 <| tis_cons k62 <| tis_cons k63 <| tis_cons k64 <| tis_cons k65 <| tis_cons k66 <| tis_cons k67 <| tis_cons k68 <| tis_cons k69 <| tis_cons k70 <| tis_cons k71 <| tis_cons k72 <| tis_cons k73 <| tis_cons k74 <| tis_cons k75 <| tis_cons k76 <| tis_cons k77 <| tis_cons k78 <| tis_cons k79 <| tis_cons k80 <| tis_cons k81 <| tis_cons k82 <| tis_cons k83 <| tis_cons k84 <| tis_cons k85 <| tis_cons k86 <| tis_cons k87 <| tis_cons k88 <| tis_cons k89 <| tis_cons k90 <| tis_cons k91 <| tis_cons k92 <| tis_cons k93 <| tis_cons k94 <| tis_cons k95 <| tis_cons k97 <| tis_cons k98 <| tis_cons k99 <| tis_cons k100 <| tis_cons k101 <| tis_cons k102 <| tis_cons k103 <| tis_cons k104 <| tis_cons k106 <| tis_cons k108 <| tis_cons k109 <| tis_cons k110 <| tis_cons k111 <| tis_cons k112 <| tis_cons k113 <| tis_cons k114 <| tis_cons k115 <| tis_cons k117 <| tis_cons k118 <| tis_cons k119 <| tis_cons k120 <| tis_cons k121 <| tis_cons k122 <| tis_cons k123 <| tis_cons k124 <| tis_cons k125 <| tis_cons k126 <| tis_cons k127 <| tis_cons k128 <| tis_cons k129 <| tis_cons k130 <| tis_cons k131 <| tis_cons k132 <| tis_cons k133 <| tis_cons k134 <| tis_cons k135 <| tis_cons k136 <| tis_cons k137 <| tis_cons k138 <| tis_cons k139 <| tis_cons k140 <| tis_cons k141 <| tis_cons k142 <| tis_cons k143 <| tis_cons k144 <| tis_cons k145 <| tis_cons k146 <| tis_cons k147 <| tis_cons k148 <| tis_cons k149 <| tis_cons k150 <| tis_cons k151 <| tis_cons k152 <| tis_cons k153 <| tis_cons k154 <| tis_cons k155 <| tis_cons k156 <| tis_cons k159 <| tis_cons k160 <| tis_cons k161 <| tis_cons k166 <| tis_cons k169 <| tis_cons k170 <| tis_cons k173 <| tis_nil
end Go.Ab.SkF

namespace Go.Ab.SkF
open Go Go.Ab Go.Proofs
set_option maxRecDepth 100000
set_option maxHeartbeats 1000000

theorem eq65 (a b c a' b' c' : Int) (w : World) : (Op.equalIn 10000 65 (.agg #[.int .i64 a, .int .i64 b, .int .i64 c]) (.agg #[.int .i64 a', .int .i64 b', .int .i64 c'])).run Tryd.prog w = .ok (a == a' && (b == b' && c == c')) w := by
  have u3 := Tryd.underlying3
  have a3 := Tryd.isAgg3
  have z3 := Tryd.sizeOf3
  have hS : Tryd.prog.underlying 65 = some (.struct (Tryd.prog.fieldsOf 65)) := by kernel_rfl
  have hp : Tryd.prog.stoodInHeld 65 = false := by kernel_rfl
  rw [show (10000 : Nat) = 9999 + 1 from rfl, run_equalIn_agg w 9999 65 _ _ hS hp]
  simp only [Program.fieldsOf, Tryd.underlying65]
  go_simp
  by_cases h1 : a = a' <;> by_cases h2 : b = b' <;> by_cases h3 : c = c' <;> simp [h1, h2, h3]

theorem eq35 (a b a' b' : Int) (w : World) : (Op.equalIn 10000 35 (.agg #[.int .i64 a, .int .i64 b]) (.agg #[.int .i64 a', .int .i64 b'])).run Tryd.prog w = .ok (a == a' && b == b') w := by
  have u3 := Tryd.underlying3
  have a3 := Tryd.isAgg3
  have z3 := Tryd.sizeOf3
  have hS : Tryd.prog.underlying 35 = some (.struct (Tryd.prog.fieldsOf 35)) := by kernel_rfl
  have hp : Tryd.prog.stoodInHeld 35 = false := by kernel_rfl
  rw [show (10000 : Nat) = 9999 + 1 from rfl, run_equalIn_agg w 9999 35 _ _ hS hp]
  simp only [Program.fieldsOf, Tryd.underlying35]
  go_simp
  by_cases h1 : a = a' <;> by_cases h2 : b = b' <;> simp [h1, h2]

def arrE : List Int → List Int → Bool
  | a :: x, b :: y => a == b && arrE x y
  | _, _ => true

theorem eq115 (a b c d e f g h a' b' c' d' e' f' g' h' : Int) (w : World) : (Op.equalIn 10000 115 (.agg #[.int .i64 a, .int .i64 b, .int .i64 c, .int .i64 d, .int .i64 e, .int .i64 f, .int .i64 g, .int .i64 h]) (.agg #[.int .i64 a', .int .i64 b', .int .i64 c', .int .i64 d', .int .i64 e', .int .i64 f', .int .i64 g', .int .i64 h'])).run Tryd.prog w = .ok (a == a' && (b == b' && (c == c' && (d == d' && (e == e' && (f == f' && (g == g' && h == h'))))))) w := by
  have u3 := Tryd.underlying3
  have a3 := Tryd.isAgg3
  have z3 := Tryd.sizeOf3
  rw [show (10000 : Nat) = 9999 + 1 from rfl, Op.equalIn]
  simp only [Sem.run_bind, run_underlying Tryd.underlying115, Result.andThen_ok]
  simp only [Std.Legacy.Range.forIn_eq_forIn_range', Std.Legacy.Range.size, Nat.sub_zero, Nat.add_sub_cancel, Nat.div_one, List.range'_succ, List.range'_zero, List.forIn_cons, List.forIn_nil]
  go_simp
  by_cases h1 : a = a'
  · by_cases h2 : b = b'
    · by_cases h3 : c = c'
      · by_cases h4 : d = d'
        · by_cases h5 : e = e'
          · by_cases h6 : f = f'
            · by_cases h7 : g = g'
              · by_cases h8 : h = h' <;> simp [h1, h2, h3, h4, h5, h6, h7, h8]
              · simp [h1, h2, h3, h4, h5, h6, h7]
            · simp [h1, h2, h3, h4, h5, h6]
          · simp [h1, h2, h3, h4, h5]
        · simp [h1, h2, h3, h4]
      · simp [h1, h2, h3]
    · simp [h1, h2]
  · simp [h1]

def triE : List (AV S) → List (AV S) → Option Bool
  | [.int .i64 a, .int .i64 b, .int .i64 c], [.int .i64 a', .int .i64 b', .int .i64 c'] => some (a == a' && (b == b' && c == c'))
  | _, _ => none

def twoE : List (AV S) → List (AV S) → Option Bool
  | [.int .i64 a, .int .i64 b], [.int .i64 a', .int .i64 b'] => some (a == a' && b == b')
  | _, _ => none

def octE : List (AV S) → List (AV S) → Option Bool
  | [.arr u 8 xs], [.arr v 8 ys] => match u, xs, v, ys with
    | .int, xs, .int, ys => some (xs == ys)
    | _, _, _, _ => none
  | _, _ => none

def eqtS (t : TypeId) (xs ys : List (AV S)) : Option Bool := match Nat.beq t 65 with
  | true => triE xs ys
  | false => match Nat.beq t 115 with
    | true => octE xs ys
    | false => match Nat.beq t 35 with
      | true => twoE xs ys
      | false => none

theorem agg3 {w : World} {V : Nat → Nat → Prop} {l : Loc} {v : Value} {i j k : IntKind} {a b c : Int} (h : Rep w V l v (.agg [.int i a, .int j b, .int k c] : AV S)) : v = .agg #[.int i a, .int j b, .int k c] := by
  obtain ⟨d, rfl, h'⟩ := Rep.agg h
  obtain ⟨v1, vs, h1, h2, h3⟩ := h'.head trivial
  obtain ⟨v2, vs', rfl, h4, h5⟩ := h3.head trivial
  obtain ⟨v3, vs'', rfl, h6, h7⟩ := h5.head trivial
  obtain rfl := h7.nil_inv
  congr 1
  apply Array.ext'
  rw [h1, h2.int, h4.int, h6.int]

theorem agg2 {w : World} {V : Nat → Nat → Prop} {l : Loc} {v : Value} {i j : IntKind} {a b : Int} (h : Rep w V l v (.agg [.int i a, .int j b] : AV S)) : v = .agg #[.int i a, .int j b] := by
  obtain ⟨d, rfl, h'⟩ := Rep.agg h
  obtain ⟨v1, vs, h1, h2, h3⟩ := h'.head trivial
  obtain ⟨v2, vs', rfl, h4, h5⟩ := h3.head trivial
  obtain rfl := h5.nil_inv
  congr 1
  apply Array.ext'
  rw [h1, h2.int, h4.int]

/-- The numbers of an array of eight. -/
theorem agg8 {w : World} {V : Nat → Nat → Prop} {l : Loc} {v : Value} {xs : List Int} (h : Rep w V l v (.agg [.arr (S := S) U.int 8 xs] : AV S)) : ∃ a b c d e f g k, xs = [a, b, c, d, e, f, g, k] ∧ v = .agg #[.int .i64 a, .int .i64 b, .int .i64 c, .int .i64 d, .int .i64 e, .int .i64 f, .int .i64 g, .int .i64 k] := by
  obtain ⟨c, rfl, h'⟩ := Rep.agg h
  obtain ⟨va, vb, h1, h2, h3⟩ := h'.uncons
  obtain rfl := h3.nil_inv
  rw [List.append_nil] at h1
  generalize hcs : va = vs at h2
  generalize hcs2 : ([AV.arr (S := S) U.int 8 xs] : List (AV S)) = cs at h2
  cases h2 with
  | flat h t => cases hcs2; exact h.elim
  | arr hn r t =>
    cases hcs2
    obtain rfl := t.nil_inv
    match xs, hn, r with
    | [a, b, d, e, f, g, i, j], _, r =>
      refine ⟨a, b, d, e, f, g, i, j, rfl, ?_⟩
      obtain ⟨v1, vs1, e1, g1, r⟩ := r.head trivial
      obtain ⟨v2, vs2, rfl, g2, r⟩ := r.head trivial
      obtain ⟨v3, vs3, rfl, g3, r⟩ := r.head trivial
      obtain ⟨v4, vs4, rfl, g4, r⟩ := r.head trivial
      obtain ⟨v5, vs5, rfl, g5, r⟩ := r.head trivial
      obtain ⟨v6, vs6, rfl, g6, r⟩ := r.head trivial
      obtain ⟨v7, vs7, rfl, g7, r⟩ := r.head trivial
      obtain ⟨v8, vs8, rfl, g8, r⟩ := r.head trivial
      obtain rfl := r.nil_inv
      congr 1
      apply Array.ext'
      rw [h1, hcs, List.append_nil, e1, g1.int, g2.int, g3.int, g4.int, g5.int, g6.int, g7.int, g8.int]
  | _ => cases hcs2

theorem eqtS_ok : EqtOk (S := S) Tryd.prog eqtS := by
  intro t xs ys b h w V l v u y z hv hu
  unfold eqtS at h
  cases ht : Nat.beq t 65 with
  | true =>
    rw [ht] at h
    simp only at h
    have := Nat.eq_of_beq_eq_true ht
    subst this
    unfold triE at h
    split at h
    · cases h
      rw [agg3 hv, agg3 hu]
      have hg : ∀ op x y xs ys, (eqGuard op 65 x y (.agg xs) (.agg ys)).run Tryd.prog w = .ok () w := fun op x y xs ys => run_eqGuard_agg w op 65 x y xs ys (by kernel_rfl)
      constructor
      · rw [Sem.run_bind, hg]; simp only [Result.andThen_ok]; rw [run_eql_struct, eq65]; rfl
      · rw [Sem.run_bind, hg]; simp only [Result.andThen_ok]; rw [run_neq_struct, eq65]; rfl
    · cases h
  | false =>
    rw [ht] at h
    simp only at h
    cases ht2 : Nat.beq t 115 with
    | false =>
      rw [ht2] at h
      simp only at h
      cases ht3 : Nat.beq t 35 with
      | false => rw [ht3] at h; cases h
      | true =>
        rw [ht3] at h
        simp only at h
        have := Nat.eq_of_beq_eq_true ht3
        subst this
        unfold twoE at h
        split at h
        · cases h
          rw [agg2 hv, agg2 hu]
          have hg : ∀ op x y xs ys, (eqGuard op 35 x y (.agg xs) (.agg ys)).run Tryd.prog w = .ok () w := fun op x y xs ys => run_eqGuard_agg w op 35 x y xs ys (by kernel_rfl)
          constructor
          · rw [Sem.run_bind, hg]; simp only [Result.andThen_ok]; rw [run_eql_struct, eq35]; rfl
          · rw [Sem.run_bind, hg]; simp only [Result.andThen_ok]; rw [run_neq_struct, eq35]; rfl
        · cases h
    | true =>
      rw [ht2] at h
      simp only at h
      have := Nat.eq_of_beq_eq_true ht2
      subst this
      unfold octE at h
      split at h
      · rename_i u1 xs u2 ys
        split at h
        · cases h
          obtain ⟨a, b, c, d, e, f, g, k, rfl, rfl⟩ := agg8 hv
          obtain ⟨a', b', c', d', e', f', g', k', rfl, rfl⟩ := agg8 hu
          have hg : ∀ op x y xs ys, (eqGuard op 115 x y (.agg xs) (.agg ys)).run Tryd.prog w = .ok () w := fun op x y xs ys => run_eqGuard_agg w op 115 x y xs ys (by kernel_rfl)
          have hb : (([a, b, c, d, e, f, g, k] : List Int) == [a', b', c', d', e', f', g', k']) = (a == a' && (b == b' && (c == c' && (d == d' && (e == e' && (f == f' && (g == g' && k == k'))))))) := by
            rw [Bool.eq_iff_iff]; simp
          constructor
          · rw [Sem.run_bind, hg]; simp only [Result.andThen_ok]; rw [run_eql_struct, eq115, hb]; rfl
          · rw [Sem.run_bind, hg]; simp only [Result.andThen_ok]; rw [run_neq_struct, eq115, hb]; rfl
        · cases h
      · cases h

def keqI (c c' : AV S) : Option Bool := match c with
  | .int .i64 a => match c' with
    | .int .i64 b => some (a == b)
    | _ => none
  | _ => none

def miS : List (Nat × MapI S) := [(121, ⟨keqI, 3⟩)]

theorem miS_ok : ∀ t m, lookA miS t = some m → MapOk (S := S) Tryd.prog t m := by
  intro t m h
  simp only [miS, lookA] at h
  by_cases ht : 121 = t
  · subst ht
    rw [if_pos rfl] at h
    cases h
    refine ⟨3, _, Tryd.underlying121, Tryd.underlying3, ⟨_, _, i3, rfl, rfl⟩, fun k k' b hb w V V' l l' v v' hv hv' => ?_⟩
    change keqI k k' = some b at hb
    unfold keqI at hb
    split at hb
    · split at hb
      · cases hb
        obtain rfl := Rep.int hv
        obtain rfl := Rep.int hv'
        refine ⟨fun e => ?_, ?_, .inl (by simp [Instr.sameNow])⟩
        · rw [show (10000 : Nat) = 9999 + 1 from rfl, Instr.checkKey, Sem.run_bind, run_underlying Tryd.underlying3]; rfl
        · show (Op.equalIn 10000 3 _ _).run Tryd.prog w = _
          exact run_equalIn_int w 9999 3 .i64 .i64 _ _ Tryd.underlying3
      · cases hb
    · cases hb
  · rw [if_neg ht] at h; cases h
end Go.Ab.SkF

namespace Go.Ab.SkF
open Go Go.Ab Go.Ab.Pln Go.Proofs

noncomputable abbrev PR : Program := Tryd.prog

/-- The local closures that share boxes, and what calls them. -/
def locB (f : FuncId) : Bool := match Nat.beq f 115 with
  | true => true
  | false => match Nat.beq f 78 with
    | true => true
    | false => match Nat.beq f 79 with
      | true => true
      | false => Nat.beq f 88

/-- The elements of arrays. -/
def aiS : List (Nat × Nat) := [(98, 3), (99, 3), (115, 3), (151, 3), (40, 3), (73, 5)]
theorem aiS_ok : ∀ t e, lookA aiS t = some e → ∃ n, PR.underlying t = some (.array n e) := by
  intro t e h
  simp only [aiS, lookA] at h
  by_cases h98 : 98 = t
  · subst h98; rw [if_pos rfl] at h; cases h; exact ⟨_, Tryd.underlying98⟩
  rw [if_neg h98] at h
  by_cases h99 : 99 = t
  · subst h99; rw [if_pos rfl] at h; cases h; exact ⟨_, Tryd.underlying99⟩
  rw [if_neg h99] at h
  by_cases h115 : 115 = t
  · subst h115; rw [if_pos rfl] at h; cases h; exact ⟨_, Tryd.underlying115⟩
  rw [if_neg h115] at h
  by_cases h151 : 151 = t
  · subst h151; rw [if_pos rfl] at h; cases h; exact ⟨_, Tryd.underlying151⟩
  rw [if_neg h151] at h
  by_cases h40 : 40 = t
  · subst h40; rw [if_pos rfl] at h; cases h; exact ⟨_, Tryd.underlying40⟩
  rw [if_neg h40] at h
  by_cases h73 : 73 = t
  · subst h73; rw [if_pos rfl] at h; cases h; exact ⟨_, Tryd.underlying73⟩
  rw [if_neg h73] at h
  cases h

noncomputable abbrev pb (gl : Gl) (Y : Type) (B : List (AV S) → Y → (AV S → Y → Prop) → Prop) : Par S Y := stdPar PR gl ti eqtS miS aiS locB B
noncomputable abbrev par (gl : Gl) : Par S Unit := pb gl Unit noB

theorem pb_ok (gl : Gl) (Y : Type) (B : List (AV S) → Y → (AV S → Y → Prop) → Prop) (En : Env Y) (hB : CbOk PR gl En B) : ParOk PR gl (pb gl Y B) En := stdPar_ok eqtS_ok miS_ok aiS_ok ti_ok rfl hB
theorem par_ok (gl : Gl) (En : Env Unit) : ParOk PR gl (par gl) En := pb_ok gl Unit noB En noB_ok

abbrev vI (n : Int) : AV S := .int .i64 n
abbrev vB (b : Bool) : AV S := .bool b
abbrev vL (xs : List Int) : AV S := .sl (S := S) U.int xs none
abbrev strsV (l : List ByteArray) : AV S := .sl (S := S) U.str l none
abbrev fmsV (l : List Fm) : AV S := .sl (S := S) U.forme l none
abbrev sgsV (l : List Sg) : AV S := .sl (S := S) U.sight l none
/-- The cells of a job. -/
abbrev jobC (ts : List ByteArray) (fs : List Fm) (ss : List Sg) : List (AV S) := [strsV ts, fmsV fs, sgsV ss]
abbrev jobV (ts : List ByteArray) (fs : List Fm) (ss : List Sg) : AV S := .agg (jobC ts fs ss)
abbrev intsV (l : List (List Int)) : AV S := .sl (S := S) U.ints l none
end Go.Ab.SkF

namespace Go.Ab.SkF
open Go Go.Ab Go.Ab.Pln Go.Proofs
set_option maxHeartbeats 1000000
set_option maxRecDepth 100000

/-- Things are handed on; did all go through? -/
def eachR {Y : Type} (B : List (AV S) → Y → (AV S → Y → Prop) → Prop) : List (List (AV S)) → Y → (Bool → Y → Prop) → Prop
  | [], y, K => K true y
  | v :: vs, y, K => B v y fun r y' => match r with
    | .bool b => match b with
      | true => eachR B vs y' K
      | false => K false y'
    | _ => False

def BMono {Y : Type} (B : List (AV S) → Y → (AV S → Y → Prop) → Prop) : Prop := ∀ args y K K', (∀ r y, K r y → K' r y) → B args y K → B args y K'

theorem eachR_mono {Y : Type} {B : List (AV S) → Y → (AV S → Y → Prop) → Prop} (hB : BMono B) : ∀ (vss : List (List (AV S))) (y : Y) (K K' : Bool → Y → Prop), (∀ b y, K b y → K' b y) → eachR B vss y K → eachR B vss y K'
  | [], y, K, K', h, hh => h _ _ hh
  | v :: vss, y, K, K', h, hh => hB _ _ _ _ (fun r y' hr => by
    cases r with
    | bool b => cases b with
      | true => exact eachR_mono hB vss y' K K' h hr
      | false => exact h _ _ hr
    | _ => exact hr.elim) hh

theorem eachR_append {Y : Type} {B : List (AV S) → Y → (AV S → Y → Prop) → Prop} (hB : BMono B) : ∀ (a b : List (List (AV S))) (y : Y) (K : Bool → Y → Prop), eachR B (a ++ b) y K → eachR B a y fun r y' => match r with
    | true => eachR B b y' K
    | false => K false y'
  | [], b, y, K, h => h
  | v :: a, b, y, K, h => hB _ _ _ _ (fun r y' hr => by
    cases r with
    | bool r => cases r with
      | true => exact eachR_append hB a b y' K hr
      | false => exact hr
    | _ => exact hr.elim) h

theorem eachR_of_B {Y : Type} {B : List (AV S) → Y → (AV S → Y → Prop) → Prop} (hB : BMono B) : ∀ (vss : List (List (AV S))) (y : Y) (Q : Y → Prop), eachB B vss y Q → eachR B vss y fun _ y' => Q y'
  | [], y, Q, h => h
  | v :: vss, y, Q, h => hB _ _ _ _ (fun r y' hr => by
    cases r with
    | bool b => cases b with
      | true => exact eachR_of_B hB vss y' Q hr
      | false => exact hr
    | _ => exact hr.elim) h

theorem uc2 {gl : Gl} {Y : Type} {En : Env Y} {g : FuncId} {a b c d : Int} {r : List (AV S)} {ups : List (Nat × AO S)} {y : Y} {Q : AV S → List (Nat × AO S) → Y → Prop} (e1 : a = b) (e2 : c = d)
    (h : UCalls PR gl En g (vI b :: vI d :: r) ups y Q) : UCalls PR gl En g (vI a :: vI c :: r) ups y Q := by rw [e1, e2]; exact h

/-- A call by contract, as the evaluator asks for it. -/
theorem byC {gl : Gl} {f : FuncId} {args : List (AV S)} {v : AV S} {Q : AV S → Prop} (h : PCalls PR gl f args fun r => r = v) (ho : Opens PR f) (hQ : Q v) : PCalls PR gl f args Q ∧ Opens PR f ∧ ∃ r, Q r :=
  ⟨h.mono fun r e => by rw [e]; exact hQ, ho, v, hQ⟩

theorem bitB {a i : Nat} (ha : a < 2 ^ 63) (h : i < 64) : (bitsI .and .i64 (shrI .i64 (a : Int) (i : Int)) 1 == 1) = a.testBit i := by
  rw [bit_eq ha h]
  cases a.testBit i <;> rfl

theorem uc3 {gl : Gl} {Y : Type} {En : Env Y} {g : FuncId} {args : List (AV S)} {ups ups' : List (Nat × AO S)} {y : Y} {Q : AV S → List (Nat × AO S) → Y → Prop} (e : ups = ups')
    (h : UCalls PR gl En g args ups' y Q) : UCalls PR gl En g args ups y Q := by rw [e]; exact h

theorem eachW_ind {A : Type} {X : Type} {pin params : List Nat} {Bd : (AExit → St S → X → Prop) → St S → X → Prop} {Q : AExit → St S → X → Prop} (enc : A → List (AV S)) (ts : List (AV S)) (sg up : List (Nat × AO S)) (R : List A → X → Prop)
    (hnil : ∀ x, R [] x → Q .normal { tmps := ts, seg := sg, up := up } x)
    (hcons : ∀ a l x, R (a :: l) x → ∀ Z : List (Nat × AO S) → List (Nat × AO S) → X → Prop, (∀ x', R l x' → Z sg up x') → eachW.setsK params (enc a) ts fun ts' => Bd (fun e st' x' => match e with
      | .normal => ∃ m, wkP pin m st' fun s => match (boxesOf s.seg []).all (memb pin) with
        | true => Z s.seg s.up x'
        | false => False
      | e => Q e { tmps := ts, seg := st'.seg, up := st'.up } x') { tmps := ts', seg := sg, up := up } x) :
    ∀ (l : List A) (x : X), R l x → eachW pin params ts Bd Q (l.map enc) sg up x
  | [], x, h => hnil x h
  | a :: l, x, h => hcons a l x h (fun sg' up' x' => eachW pin params ts Bd Q (l.map enc) sg' up' x') fun x' hR => eachW_ind enc ts sg up R hnil hcons l x' hR

theorem bitZ {a i : Nat} (ha : a < 2 ^ 63) (h : i < 64) : (bitsI .and .i64 (shrI .i64 (a : Int) (i : Int)) 1 == 0) = !a.testBit i := by
  rw [bit_eq ha h]
  cases a.testBit i <;> rfl

theorem c104 (gl : Gl) (x lo hi : Int) : PCalls PR gl 104 [vI x, .ref [vI lo], .ref [vI hi]] fun r => r = vB (outB lo hi x) := by
  refine fnW_sound (par_ok gl) Tryd.func104 ?_
  conv => whnf
  refine bcase_iff.2 ⟨fun h => ?_, fun h => ?_⟩
  · conv => whnf
    show vB _ = _
    simp [outB, of_decide_eq_true h]
  · conv => whnf
    show vB _ = _
    have := of_decide_eq_false h
    simp [outB, this]

theorem op104 : Opens PR 104 := ⟨_, Tryd.func104, rfl, rfl⟩

theorem idx_any {α : Type} (p : α → Bool) : ∀ (xs : List α) (i : Nat), decide (idx p xs i ≥ 0) = xs.any p
  | [], i => rfl
  | x :: xs, i => by
    simp only [idx, List.any_cons]
    by_cases h : p x = true
    · simp [h]
    · simp only [h, Bool.false_eq_true, if_false, Bool.false_or]
      exact idx_any p xs (i + 1)

def fr119 (xs : List Int) (f : AV S) (m : Int) (i : Nat) : St S := { tmps := [vL xs, f, .undef, .undef, .undef, .undef, .undef, vI m, vI i, .undef, .undef, .undef, .undef, .undef, .undef, .undef, .undef, .undef, .undef], seg := [], up := [] }

theorem c119 (gl : Gl) (xs : List Int) (hx : xs.length ≤ 9223372036854775807) (lo hi : Int) : PCalls PR gl 119 [vL xs, .clo (.func 104) [] [.ref [vI lo], .ref [vI hi]]] fun r => r = vI (idx (outB lo hi) xs 0) := by
  refine fnW_sound (par_ok gl) Tryd.func119 ?_
  conv => whnf
  refine ⟨⟨387, [], []⟩, ?_⟩
  refine LoopW_ind _ (fun i : Nat => fr119 xs (.clo (.func 104) [] [.ref [vI lo], .ref [vI hi]]) xs.length i) (fun i => i ≤ xs.length ∧ idx (outB lo hi) (xs.drop i) i = idx (outB lo hi) xs 0) (fun i => xs.length - i) () ?_ 0 ⟨Nat.zero_le _, rfl⟩
  rintro i ⟨hi', h⟩ Z hZ
  conv => whnf
  refine bcase_iff.2 ⟨fun h1 => ?_, fun h1 => ?_⟩
  · have hlt : i < xs.length := by have := of_decide_eq_true h1; omega
    have hw : IntKind.i64.wrap ((i : Int) + 1) = ((i + 1 : Nat) : Int) := wrap_nat (by omega)
    rw [List.drop_eq_getElem_cons hlt, idx] at h
    conv => whnf
    refine ⟨_, getI_nat hlt, ?_⟩
    conv => whnf
    refine byC (c104 gl _ lo hi) op104 ?_
    conv => whnf
    refine bcase_iff.2 ⟨fun h2 => ?_, fun h2 => ?_⟩
    · rw [if_pos h2] at h
      conv => whnf
      rw [← h]
    · rw [if_neg (by rw [h2]; simp)] at h
      conv => whnf
      refine ⟨⟨387, [], []⟩, ?_⟩
      have := hZ (i + 1) ⟨hlt, h⟩ (by omega)
      unfold fr119 at this
      rw [← hw] at this
      exact this
  · have hge : i = xs.length := by have := of_decide_eq_false h1; omega
    rw [List.drop_eq_nil_of_le (by omega), idx] at h
    conv => whnf
    rw [← h]

theorem op119 : Opens PR 119 := ⟨_, Tryd.func119, rfl, rfl⟩

theorem c103 (gl : Gl) (xs : List Int) (hx : xs.length ≤ 9223372036854775807) (lo hi : Int) : PCalls PR gl 103 [vL xs, .clo (.func 104) [] [.ref [vI lo], .ref [vI hi]]] fun r => r = vB (xs.any (outB lo hi)) := by
  refine fnW_sound (par_ok gl) Tryd.func103 ?_
  conv => whnf
  refine byC (c119 gl xs hx lo hi) op119 ?_
  conv => whnf
  show vB (decide (idx (outB lo hi) xs 0 ≥ 0)) = _
  rw [idx_any]

theorem op103 : Opens PR 103 := ⟨_, Tryd.func103, rfl, rfl⟩

theorem c60 (gl : Gl) (xs : List Int) (hx : xs.length ≤ 9223372036854775807) (lo hi : Int) : PCalls PR gl 60 [vI lo, vI hi, vL xs] fun r => r = vB (xs.any (outB lo hi)) := by
  refine fnW_sound (par_ok gl) Tryd.func60 ?_
  conv => whnf
  refine byC (c103 gl xs hx lo hi) op103 ?_
  conv => whnf

theorem op60 : Opens PR 60 := ⟨_, Tryd.func60, rfl, rfl⟩

theorem c68 (gl : Gl) (n lo hi : Int) : PCalls PR gl 68 [vI n, vI lo, vI hi] fun r => r = vB (inB n lo hi) := by
  refine fnW_sound (par_ok gl) Tryd.func68 ?_
  conv => whnf
  refine bcase_iff.2 ⟨fun h => ?_, fun h => ?_⟩
  · conv => whnf
    show vB _ = _
    simp [inB, of_decide_eq_true h]
  · conv => whnf
    show vB _ = _
    have := of_decide_eq_false h
    simp [inB, this]

theorem c100 (gl : Gl) (n lo hi : Int) : PCalls PR gl 100 [vI n, vI lo, vI hi] fun r => r = vB (inB n lo hi) := by
  refine fnW_sound (par_ok gl) Tryd.func100 ?_
  conv => whnf
  refine bcase_iff.2 ⟨fun h => ?_, fun h => ?_⟩
  · conv => whnf
    show vB _ = _
    simp [inB, of_decide_eq_true h]
  · conv => whnf
    show vB _ = _
    have := of_decide_eq_false h
    simp [inB, this]

theorem op68 : Opens PR 68 := ⟨_, Tryd.func68, rfl, rfl⟩

theorem op100 : Opens PR 100 := ⟨_, Tryd.func100, rfl, rfl⟩

def fr99 (xs : List Int) (n : Int) (i : Nat) : St S := { tmps := [vL xs, vI n, .undef, .undef, .undef, vI i, .undef, .undef, .undef, .undef, .undef, .undef, .undef, .undef, .undef, .undef, .undef, .undef], seg := [], up := [] }

theorem c99 (gl : Gl) (xs : List Int) (hx : xs.length ≤ 9223372036854775807) (n : Int) : PCalls PR gl 99 [vL xs, vI n] fun r => r = vB (xs.any fun x => x == n) := by
  refine fnW_sound (par_ok gl) Tryd.func99 ?_
  conv => whnf
  refine ⟨⟨35, [], []⟩, ?_⟩
  refine LoopW_ind _ (fun i : Nat => fr99 xs n i) (fun i => i ≤ xs.length ∧ ((xs.drop i).any fun x => x == n) = xs.any fun x => x == n) (fun i => xs.length - i) () ?_ 0 ⟨Nat.zero_le _, rfl⟩
  rintro i ⟨hi', h⟩ Z hZ
  conv => whnf
  refine bcase_iff.2 ⟨fun h1 => ?_, fun h1 => ?_⟩
  · have hlt : i < xs.length := by have := of_decide_eq_true h1; omega
    have hw : IntKind.i64.wrap ((i : Int) + 1) = ((i + 1 : Nat) : Int) := wrap_nat (by omega)
    rw [List.drop_eq_getElem_cons hlt, List.any_cons] at h
    conv => whnf
    refine ⟨_, getI_nat hlt, ?_⟩
    conv => whnf
    refine bcase_iff.2 ⟨fun h2 => ?_, fun h2 => ?_⟩
    · rw [h2, Bool.true_or] at h
      conv => whnf
      rw [← h]
    · rw [h2, Bool.false_or] at h
      conv => whnf
      refine ⟨⟨35, [], []⟩, ?_⟩
      have := hZ (i + 1) ⟨hlt, h⟩ (by omega)
      unfold fr99 at this
      rw [← hw] at this
      exact this
  · have hge : i = xs.length := by have := of_decide_eq_false h1; omega
    rw [List.drop_eq_nil_of_le (by omega), List.any_nil] at h
    conv => whnf
    rw [← h]

theorem op99 : Opens PR 99 := ⟨_, Tryd.func99, rfl, rfl⟩

theorem c120 (gl : Gl) (b : Int) : PCalls PR gl 120 [.int .u8 b] fun r => r = vB (letterB b) := by
  refine fnW_sound (par_ok gl) Tryd.func120 ?_
  conv => whnf
  refine bcase_iff.2 ⟨fun h => ?_, fun h => ?_⟩
  · conv => whnf
    show vB _ = _
    simp only [letterB, h, Bool.true_and]
    rfl
  · conv => whnf
    show vB _ = _
    simp only [letterB, h, Bool.false_and]

theorem c121 (gl : Gl) (b : Int) : PCalls PR gl 121 [.int .u8 b] fun r => r = vB (digitB b) := by
  refine fnW_sound (par_ok gl) Tryd.func121 ?_
  conv => whnf
  refine bcase_iff.2 ⟨fun h => ?_, fun h => ?_⟩
  · conv => whnf
    show vB _ = _
    simp only [digitB, h, Bool.true_and]
    rfl
  · conv => whnf
    show vB _ = _
    simp only [digitB, h, Bool.false_and]

theorem op120 : Opens PR 120 := ⟨_, Tryd.func120, rfl, rfl⟩

theorem op121 : Opens PR 121 := ⟨_, Tryd.func121, rfl, rfl⟩

def fr106 (s : ByteArray) (i : Nat) : St S := { tmps := [.str s, .undef, .undef, vI i, .undef, .undef, .undef, .undef, .undef, .undef, .undef, .undef, .undef, .undef, .undef, .undef, .undef, .undef, .undef, .undef, .undef, .undef, .undef, .undef, .undef, .undef, .undef, .undef, .undef, .undef, .undef, .undef, .undef, .undef, .undef, .undef, .undef, .undef, .undef, .undef], seg := [], up := [] }

theorem c106 (gl : Gl) (s : ByteArray) (hs : s.size ≤ 9223372036854775807) : PCalls PR gl 106 [.str s] fun r => r = vB (nameB s) := by
  have hlen : s.data.toList.length = s.size := rfl
  refine fnW_sound (par_ok gl) Tryd.func106 ?_
  conv => whnf
  refine bcase_iff.2 ⟨fun h => ?_, fun h => ?_⟩
  · conv => whnf
    have h : s.size = 0 := by have : ((s.size : Int) == 0) = true := h; simpa using this
    show vB false = _
    simp [nameB, h]
  · have h : s.size ≠ 0 := by have : ((s.size : Int) == 0) = false := h; simpa using this
    conv => whnf
    refine bcase_iff.2 ⟨fun h2 => ?_, fun h2 => ?_⟩
    · have h2 : s.size > 16 := by have : decide ((s.size : Int) > 16) = true := h2; have := of_decide_eq_true this; omega
      conv => whnf
      show vB false = _
      simp [nameB, h2]
    · have h2 : ¬ s.size > 16 := by have : decide ((s.size : Int) > 16) = false := h2; have := of_decide_eq_false this; omega
      have hn : nameB s = namesFrom s.data.toList 0 := by simp [nameB, h, h2]
      conv => whnf
      refine ⟨⟨9, [], []⟩, ?_⟩
      refine LoopW_ind _ (fun i : Nat => fr106 s i) (fun i => i ≤ s.size ∧ namesFrom (s.data.toList.drop i) i = nameB s) (fun i => s.size - i) () ?_ 0 ⟨Nat.zero_le _, hn.symm⟩
      rintro i ⟨hi, h3⟩ Z hZ
      conv => whnf
      refine bcase_iff.2 ⟨fun h4 => ?_, fun h4 => ?_⟩
      · have hlt : i < s.data.toList.length := by have := of_decide_eq_true h4; omega
        have hw : IntKind.i64.wrap ((i : Int) + 1) = ((i + 1 : Nat) : Int) := wrap_nat (by omega)
        rw [List.drop_eq_getElem_cons hlt, namesFrom] at h3
        have hg : getI s.data.toList (i : Int) = some (s.data.toList[i]) := getI_nat hlt
        generalize s.data.toList[i] = b at hg h3
        -- the two ways to go on
        have hno : chB i b.toNat = false → vB false = vB (nameB s) := fun hc => by rw [hc, Bool.false_and] at h3; rw [h3]
        have hyes : chB i b.toNat = true → Z (fr106 s (i + 1)) () := fun hc => by
          rw [hc, Bool.true_and] at h3
          exact hZ (i + 1) ⟨by omega, h3⟩ (by omega)
        conv => whnf
        refine ⟨b, hg, ?_⟩
        conv => whnf
        refine byC (c120 gl _) op120 ?_
        conv => whnf
        refine bcase_iff.2 ⟨fun h5 => ?_, fun h5 => ?_⟩
        · have h5 : letterB b.toNat = false := by simpa using h5
          conv => whnf
          refine bcase_iff.2 ⟨fun h6 => ?_, fun h6 => ?_⟩
          · have h6 : i = 0 := by have : ((i : Int) == 0) = true := h6; simpa using this
            conv => whnf
            exact hno (by simp [chB, h5, h6])
          · have h6 : i ≠ 0 := by have : ((i : Int) == 0) = false := h6; simpa using this
            conv => whnf
            refine ⟨b, hg, ?_⟩
            conv => whnf
            refine byC (c121 gl _) op121 ?_
            conv => whnf
            refine bcase_iff.2 ⟨fun h7 => ?_, fun h7 => ?_⟩
            · have h7 : digitB b.toNat = false := by simpa using h7
              conv => whnf
              refine ⟨b, hg, ?_⟩
              conv => whnf
              refine bcase_iff.2 ⟨fun h8 => ?_, fun h8 => ?_⟩
              · have h8 : ((b.toNat : Int) != 46) = true := h8
                conv => whnf
                have h8' : ((b.toNat : Int) == 46) = false := by simpa [bne] using h8
                exact hno (by simp [chB, h5, h6, h7]; simpa using h8')
              · have h8 : ((b.toNat : Int) != 46) = false := h8
                have h8' : ((b.toNat : Int) == 46) = true := by simpa [bne] using h8
                conv => whnf
                refine ⟨⟨9, [], []⟩, ?_⟩
                have := hyes (by simp only [chB, h5, h7, h8']; simp [h6])
                unfold fr106 at this
                rw [← hw] at this
                exact this
            · have h7 : digitB b.toNat = true := by simpa using h7
              conv => whnf
              refine ⟨⟨9, [], []⟩, ?_⟩
              have := hyes (by simp [chB, h5, h6, h7])
              unfold fr106 at this
              rw [← hw] at this
              exact this
        · have h5 : letterB b.toNat = true := by simpa using h5
          conv => whnf
          refine ⟨⟨9, [], []⟩, ?_⟩
          have := hyes (by simp [chB, h5])
          unfold fr106 at this
          rw [← hw] at this
          exact this
      · have hge : i = s.size := by have := of_decide_eq_false h4; omega
        rw [List.drop_eq_nil_of_le (by omega), namesFrom] at h3
        conv => whnf
        rw [← h3]

/-- May a rune stand in a name, there? -/
def chR (i c : Int) : Bool := (decide (c ≥ 97) && decide (c ≤ 122)) || (decide (i > 0) && ((decide (c ≥ 48) && decide (c ≤ 57)) || c == 46))

def nmR (s : ByteArray) : Nat → Nat → Bool
  | 0, _ => true
  | b + 1, pos => if pos < s.size then chR pos (Utf8.decode s pos).1 && nmR s b (pos + (Utf8.decode s pos).2) else true

def nameR (s : ByteArray) : Bool := nmR s s.size 0 && (!(s.size == 0) && decide (s.size ≤ 16))

theorem width_pos (s : ByteArray) (pos : Nat) (h : pos < s.size) : 1 ≤ (Utf8.decode s pos).2 := by
  by_cases ha : (s[pos]'h).toNat < 128
  · rw [decode_ascii s pos h ha]
    exact Nat.le_refl _
  · exact (decode_high s pos h (by omega)).2

theorem nm_end (s : ByteArray) (b pos : Nat) (h : ¬ pos < s.size) : nmR s b pos = true := by
  cases b with
  | zero => rfl
  | succ b => simp [nmR, h]

theorem size_zero_iff (s : ByteArray) : s.toList = [] ↔ s.size = 0 := by
  rw [ByteArray.toList_eq]
  have h : s.data.toList.length = s.size := rfl
  constructor
  · intro e; rw [← h, e]; rfl
  · intro e; exact List.eq_nil_of_length_eq_zero (h.trans e)

def R58 (s : ByteArray) (w : World) (e : Ending) (w' : World) : Prop := e = .returned (.bool (nameR s)) ∧ ∃ pos, w' = w.iter s pos

theorem walk58 (s : ByteArray) (w : World) :
    Calls Tryd.prog 58 #[.string s] w (R58 s w) := by
  go_enter Tryd.func58, Tryd.ntmps58
  go_wp2
  go_loopw [] (fun w' => ∃ (pos b : Nat), w' = w.iter s pos ∧ nmR s b pos = nmR s s.size 0 ∧ s.size ≤ pos + b) (fun w' => s.size - w'.iterPos w.heap.size)
  case atStart => exact ⟨0, s.size, rfl, rfl, by omega⟩
  case round =>
    obtain ⟨pos, b, rfl, hc, hb⟩ := hrel
    by_cases hp : pos < s.size
    · have hnx : ∀ ty, (Instr.next (.pointer (some ⟨w.heap.size, 0, none⟩)) true ty).run Tryd.prog (w.iter s pos) = _ := fun ty => run_next_any w s pos ty hp
      have hwd := width_pos s pos hp
      cases b with
      | zero => omega
      | succ b =>
        simp only [nmR, hp, if_true] at hc
        go_wp2
        all_goals first
          | (refine ⟨⟨pos + (Utf8.decode s pos).2, b, rfl, ?_, by omega⟩, by simp; omega⟩
             have hq : chR pos (Utf8.decode s pos).1 = true := by
               clear hc hnx
               simp only [chR, Bool.or_eq_true, Bool.and_eq_true, decide_eq_true_eq, beq_iff_eq] at *
               omega
             rw [hq, Bool.true_and] at hc
             exact hc)
          | (have hq : chR pos (Utf8.decode s pos).1 = false := by
               clear hc hnx
               rw [Bool.eq_false_iff]
               intro hf
               simp only [chR, Bool.or_eq_true, Bool.and_eq_true, decide_eq_true_eq, beq_iff_eq, beq_eq_false_iff_ne, ne_eq] at *
               omega
             rw [hq, Bool.false_and] at hc
             go_ret
             have hn : nameR s = false := by rw [nameR, ← hc, Bool.false_and]
             exact ⟨by rw [hn]; rfl, _, rfl⟩)
    · have hnx : ∀ ty, (Instr.next (.pointer (some ⟨w.heap.size, 0, none⟩)) true ty).run Tryd.prog (w.iter s pos) = _ := fun ty => run_next_end w s pos ty hp
      rw [nm_end s b pos hp] at hc
      replace hc := hc.symm
      go_wp2
      · rename_i h
        have h0 : s.size = 0 := (size_zero_iff s).1 h
        have hn : nameR s = false := by simp [nameR, h0]
        go_ret
        exact ⟨by rw [hn]; rfl, _, rfl⟩
      · rename_i h
        have h0 : s.size ≠ 0 := fun e => h ((size_zero_iff s).2 e)
        have h1 : s.toList.isEmpty = false := by
          cases hl : s.toList with
          | nil => exact absurd hl h
          | cons a b => rfl
        have hn : nameR s = (!s.toList.isEmpty && decide ((s.size : Int) ≤ 16)) := by
          rw [nameR, hc, h1, Bool.true_and, Bool.not_false]
          have : (s.size == 0) = false := by simpa using h0
          rw [this, Bool.not_false, Bool.true_and, Bool.true_and]
          exact decide_eq_decide.2 (by omega)
        go_ret
        exact ⟨by rw [hn]; rfl, _, rfl⟩

theorem nmR_eq (s : ByteArray) : ∀ (b pos : Nat), s.size ≤ pos + b → nmR s b pos = namesFrom (s.data.toList.drop pos) pos
  | 0, pos, h => by
    have hl : s.data.toList.length = s.size := rfl
    rw [List.drop_eq_nil_of_le (by omega)]; rfl
  | b + 1, pos, h => by
    have hl : s.data.toList.length = s.size := rfl
    by_cases hp : pos < s.size
    · rw [List.drop_eq_getElem_cons (by omega : pos < s.data.toList.length)]
      simp only [nmR, hp, if_true, namesFrom]
      have hb : s.data.toList[pos] = s[pos]'hp := rfl
      rw [hb]
      by_cases ha : (s[pos]'hp).toNat < 128
      · rw [decode_ascii s pos hp ha]
        simp only
        rw [nmR_eq s b (pos + 1) (by omega)]
        congr 1
        rw [Bool.eq_iff_iff]
        simp only [chR, chB, letterB, digitB, Bool.or_eq_true, Bool.and_eq_true, decide_eq_true_eq, beq_iff_eq, Bool.not_eq_true', beq_eq_false_iff_ne, ne_eq]
        omega
      · obtain ⟨h1, h2⟩ := decode_high s pos hp (by omega)
        have hf : chR pos (Utf8.decode s pos).1 = false := by
          rw [Bool.eq_false_iff]
          simp only [chR, ne_eq, Bool.or_eq_true, Bool.and_eq_true, decide_eq_true_eq, beq_iff_eq]
          omega
        have hg : chB pos (s[pos]'hp).toNat = false := by
          rw [Bool.eq_false_iff]
          simp only [chB, letterB, digitB, ne_eq, Bool.or_eq_true, Bool.and_eq_true, decide_eq_true_eq, beq_iff_eq, Bool.not_eq_true', beq_eq_false_iff_ne]
          omega
        rw [hf, hg, Bool.false_and, Bool.false_and]
    · rw [nm_end s _ pos hp, List.drop_eq_nil_of_le (by omega)]; rfl

theorem nameR_eq (s : ByteArray) : nameR s = nameB s := by
  rw [nameR, nameB, nmR_eq s s.size 0 (by omega), List.drop_zero]
  have : decide (s.size ≤ 16) = !decide (s.size > 16) := by
    rw [Bool.eq_iff_iff]; simp
  rw [this, Bool.and_comm]

theorem c58 (gl : Gl) (s : ByteArray) : PCalls PR gl 58 [.str s] fun r => r = vB (nameB s) := by
  intro w V vs hG hlt hr
  have hvs : vs = [.string s] := by
    cases hr with
    | flat h t => rw [t.nil_inv, show _ = _ from h]
  rw [hvs]
  refine (walk58 s w).mono ?_
  rintro e w' ⟨he, pos, rfl⟩
  refine ⟨_, he, _, rfl, Grow.alloc _ _, ?_⟩
  rw [nameR_eq]
  exact Rep.flat1 rfl

theorem op58 : Opens PR 58 := ⟨_, Tryd.func58, rfl, rfl⟩

theorem wrap_sub1 {n : Nat} (h1 : 1 ≤ n) (h2 : n < 2 ^ 62) : IntKind.i64.wrap ((n : Int) - 1) = ((n - 1 : Nat) : Int) := by
  rw [wrap_int (by omega) (by have : (2 : Nat) ^ 62 = 4611686018427387904 := rfl; omega)]; omega

/-- The table in its variable. -/
def TabAt (g : Nat) (tab : List Nat) (w : World) : Prop := ∀ j, j < tab.length → w.cell? ⟨g, j, none⟩ = some (.int .u8 (tab.getD j 0))

/-- What the program's variables hold. -/
def glT : Gl where
  g0 := 2
  G w := 2 ≤ w.heap.size ∧ TabAt 1 Lib.deBruijn64tab w
  le _ h := h.1
  st w w' h hs hc := ⟨Nat.le_trans h.1 hs, fun j hj => (hc 1 (by decide) j).trans (h.2 j hj)⟩

theorem tz_core (x k idx : Nat) (w : World) (hx0 : ((x : Int) == 0) = false)
    (key : IntKind.u64.wrap (bits BinOp.and IntKind.u64 (x : Int) (IntKind.u64.wrap (-(x : Int))) * 285870213051353865) / 288230376151711744 = (idx : Int))
    (hi : idx < 64) (hk : k < 64) (hcell : w.cell? ⟨1, idx, none⟩ = some (.int .u8 k)) :
    Calls Tryd.prog 108 #[.int .u64 x] w fun e w' => e = .returned (.int .i64 k) ∧ w' = w := by
  go_enter Tryd.func108, Tryd.ntmps108
  go_wp2_with (simp only [key])
  go_ret
  exact ⟨rfl, rfl⟩

theorem tz_zero (w : World) : Calls Tryd.prog 108 #[.int .u64 0] w fun e w' => e = .returned (.int .i64 64) ∧ w' = w := by
  go_enter Tryd.func108, Tryd.ntmps108
  go_wp2
  go_ret
  exact ⟨rfl, rfl⟩

theorem tz_key (x a : Nat) (hx : x < 18446744073709551616) (hx0 : x ≠ 0) (hlow : x &&& (18446744073709551616 - x) = a) :
    IntKind.u64.wrap (bits BinOp.and IntKind.u64 (x : Int) (IntKind.u64.wrap (-(x : Int))) * 285870213051353865) / 288230376151711744 = ((a * 285870213051353865 % 18446744073709551616 / 288230376151711744 : Nat) : Int) := by
  have e1 : IntKind.u64.wrap (-(x : Int)) = ((18446744073709551616 - x : Nat) : Int) := by rw [IntKind.wrap_u64]; omega
  rw [e1, bits_and_u64_nat x _ hx (by omega), hlow, IntKind.wrap_u64]
  omega

theorem c108 (x : Nat) (hx : x < 18446744073709551616) : PCalls PR glT 108 [.int .u64 x] fun r => r = vI (Lib.ctz 64 x) := by
  intro w V vs hG hlt hr
  have hvs : vs = [.int .u64 x] := by
    cases hr with
    | flat h t => rw [t.nil_inv, show _ = _ from h]
  rw [hvs]
  have h : Calls Tryd.prog 108 #[.int .u64 x] w fun e w' => e = .returned (.int .i64 (Lib.ctz 64 x)) ∧ w' = w := by
    by_cases hx0 : x = 0
    · subst hx0; exact tz_zero w
    · obtain ⟨hlow, hk⟩ := Lib.lowest_bit 64 x hx0 hx
      obtain ⟨hi, htab⟩ := Lib.deBruijn64_at _ hk
      have hcell := hG.2 _ hi
      rw [htab] at hcell
      exact tz_core x _ _ w (by simp; omega) (tz_key x _ hx hx0 hlow) hi hk hcell
  refine h.mono ?_
  rintro e w' ⟨he, rfl⟩
  exact ⟨_, he, _, rfl, Keep.refl _ _, Rep.flat1 rfl⟩

theorem op108 : Opens PR 108 := ⟨_, Tryd.func108, rfl, rfl⟩

theorem c72 (x : Nat) (hx : x < 18446744073709551616) : PCalls PR glT 72 [.int .u64 x] fun r => r = vI (Lib.ctz 64 x) := by
  refine fnW_sound (par_ok glT) Tryd.func72 ?_
  conv => whnf
  refine byC (c108 x hx) op108 ?_
  conv => whnf

theorem op72 : Opens PR 72 := ⟨_, Tryd.func72, rfl, rfl⟩

def fr111 (n : Nat) (l : List Int) : St S := { tmps := [vI n, .undef, .sl (S := S) U.int l (some 2), .undef, .undef, .undef, .undef, .undef, .undef, .undef, .undef, .undef, .undef, .undef, .undef, .undef], seg := [(2, .row U.int false)], up := [] }

theorem c111 (n : Nat) (hn : n < 1099511627776) : PCalls PR glT 111 [vI n] fun r => r = vL (natsV (bitsL n)) := by
  refine fnW_sound (par_ok glT) Tryd.func111 ?_
  conv => whnf
  refine ⟨⟨5, [], [2]⟩, ?_⟩
  refine LoopW_ind _ (fun s : Nat × List Int => fr111 s.1 s.2) (fun s => s.1 ≤ n ∧ s.2.length + s.1 ≤ n ∧ s.2 ++ natsV (bitsL s.1) = natsV (bitsL n)) (fun s => s.1) () ?_ (n, []) ⟨Nat.le_refl _, by simp, rfl⟩
  rintro ⟨m, l⟩ ⟨hm, hl, h⟩ Z hZ
  simp only at hm hl h
  conv => whnf
  refine bcase_iff.2 ⟨fun h1 => ?_, fun h1 => ?_⟩
  · have h1 : m ≠ 0 := by
      have : ((m : Int) != 0) = true := h1
      intro e; subst e; simp at this
    have hlt := and_pred_lt h1
    have hm63 : m < 2 ^ 63 := by omega
    rw [bitsL_pos h1] at h
    have hwr : IntKind.u64.wrap (m : Int) = m := by rw [IntKind.wrap_u64]; omega
    have hand : bitsI .and .i64 (m : Int) (IntKind.i64.wrap ((m : Int) - 1)) = ((m &&& (m - 1) : Nat) : Int) := by
      rw [wrap_sub1 (by omega) (by omega), and_nat hm63 (by omega)]
    conv => whnf
    rw [hwr]
    refine byC (c72 m (by omega)) op72 ?_
    conv => whnf
    refine ⟨_, rfl, ?_⟩
    conv => whnf
    refine ⟨?_, ?_⟩
    · show l.length + 1 ≤ 1099511627776
      omega
    conv => whnf
    refine ⟨⟨5, [13], []⟩, ?_⟩
    have := hZ (m &&& (m - 1), l ++ [((Lib.ctz 64 m : Nat) : Int)]) ⟨by omega, by simp; omega, by rw [List.append_assoc]; exact h⟩ hlt
    unfold fr111 at this
    simp only at this
    rw [← hand] at this
    exact this
  · have h1 : m = 0 := by
      have : ((m : Int) != 0) = false := h1
      simpa using this
    subst h1
    rw [bitsL_zero] at h
    conv => whnf
    rw [← h]; simp

theorem op111 : Opens PR 111 := ⟨_, Tryd.func111, rfl, rfl⟩

theorem c125 (gl : Gl) (x : Int) : PCalls PR gl 125 [vI x] fun r => r = vB false := by
  refine fnW_sound (par_ok gl) Tryd.func125 ?_
  conv => whnf
  have : (x != x) = false := by simp
  rw [this]

theorem op125 : Opens PR 125 := ⟨_, Tryd.func125, rfl, rfl⟩

theorem c123 (gl : Gl) (a b : Int) : PCalls PR gl 123 [vI a, vI b] fun r => r = vI (cmpI a b) := by
  refine fnW_sound (par_ok gl) Tryd.func123 ?_
  conv => whnf
  refine byC (c125 gl a) op125 ?_
  conv => whnf
  refine byC (c125 gl b) op125 ?_
  conv => whnf
  refine bcase_iff.2 ⟨fun h => ?_, fun h => ?_⟩
  · have h : a < b := of_decide_eq_true h
    conv => whnf
    unfold cmpI; rw [if_pos h]
  · have h : ¬ a < b := of_decide_eq_false h
    conv => whnf
    refine bcase_iff.2 ⟨fun h2 => ?_, fun h2 => ?_⟩
    · have h2 : a > b := of_decide_eq_true h2
      conv => whnf
      unfold cmpI; rw [if_neg h, if_pos h2]
    · have h2 : ¬ a > b := of_decide_eq_false h2
      conv => whnf
      unfold cmpI; rw [if_neg h, if_neg h2]

theorem op123 : Opens PR 123 := ⟨_, Tryd.func123, rfl, rfl⟩

def fr112 (xs ys : List Int) (m : Int) (i : Nat) : St S := { tmps := [vL xs, vL ys, .undef, .undef, .undef, .undef, .undef, .undef, .undef, vL xs, vI m, vI i, .undef, .undef, .undef, .undef, .undef, .undef, .undef, .undef, .undef, .undef, .undef, .undef, .undef, .undef, .undef, .undef, .undef, .undef, .undef, .undef, .undef, .undef, .undef, .undef], seg := [], up := [] }

theorem c112 (gl : Gl) (xs ys : List Int) (hx : xs.length ≤ 9223372036854775807) (_hy : ys.length ≤ 9223372036854775807) : PCalls PR gl 112 [vL xs, vL ys] fun r => r = vI (cmpL cmpI xs ys) := by
  refine fnW_sound (par_ok gl) Tryd.func112 ?_
  conv => whnf
  refine ⟨⟨3587, [], []⟩, ?_⟩
  refine LoopW_ind _ (fun i : Nat => fr112 xs ys xs.length i) (fun i => i ≤ xs.length ∧ i ≤ ys.length ∧ cmpL cmpI (xs.drop i) (ys.drop i) = cmpL cmpI xs ys) (fun i => xs.length - i) () ?_ 0 ⟨Nat.zero_le _, Nat.zero_le _, rfl⟩
  rintro i ⟨hi, hiy, h⟩ Z hZ
  conv => whnf
  refine bcase_iff.2 ⟨fun h1 => ?_, fun h1 => ?_⟩
  · have hlt : i < xs.length := by have := of_decide_eq_true h1; omega
    have hw : IntKind.i64.wrap ((i : Int) + 1) = ((i + 1 : Nat) : Int) := wrap_nat (by omega)
    rw [List.drop_eq_getElem_cons hlt] at h
    conv => whnf
    refine ⟨_, getI_nat hlt, ?_⟩
    conv => whnf
    refine bcase_iff.2 ⟨fun h2 => ?_, fun h2 => ?_⟩
    · have h2 : i ≥ ys.length := by have := of_decide_eq_true h2; omega
      rw [List.drop_eq_nil_of_le h2, cmpL] at h
      conv => whnf
      rw [← h]
    · have h2 : i < ys.length := by have := of_decide_eq_false h2; omega
      rw [List.drop_eq_getElem_cons h2, cmpL] at h
      conv => whnf
      refine ⟨_, getI_nat h2, ?_⟩
      conv => whnf
      refine byC (c123 gl xs[i] ys[i]) op123 ?_
      conv => whnf
      refine bcase_iff.2 ⟨fun h3 => ?_, fun h3 => ?_⟩
      · have h3 : cmpI xs[i] ys[i] ≠ 0 := by
          have : (cmpI xs[i] ys[i] != 0) = true := h3
          simpa using this
        rw [if_pos h3] at h
        conv => whnf
        rw [← h]
      · have h3 : cmpI xs[i] ys[i] = 0 := by
          have : (cmpI xs[i] ys[i] != 0) = false := h3
          simpa using this
        rw [if_neg (by rw [h3]; simp)] at h
        conv => whnf
        refine ⟨⟨3587, [], []⟩, ?_⟩
        have := hZ (i + 1) ⟨hlt, h2, h⟩ (by omega)
        unfold fr112 at this
        rw [← hw] at this
        exact this
  · have hge : i = xs.length := by have := of_decide_eq_false h1; omega
    rw [List.drop_eq_nil_of_le (by omega)] at h
    conv => whnf
    refine bcase_iff.2 ⟨fun h2 => ?_, fun h2 => ?_⟩
    · have h2 : xs.length < ys.length := by have := of_decide_eq_true h2; omega
      rw [List.drop_eq_getElem_cons (by omega : i < ys.length), cmpL] at h
      conv => whnf
      rw [← h]
    · have h2 : ¬ xs.length < ys.length := by have := of_decide_eq_false h2; omega
      rw [List.drop_eq_nil_of_le (by omega), cmpL] at h
      conv => whnf
      rw [← h]

theorem op112 : Opens PR 112 := ⟨_, Tryd.func112, rfl, rfl⟩

/-- What comes behind a loop, under another name. -/
theorem loop_q {P : Par S Unit} {body : Code} {pin : Bool × List Nat} {Q : AExit → St S → Unit → Prop} {st : St S} {x : Unit}
    (h : ∀ Q' : AExit → St S → Unit → Prop, (∀ e s y, Q' e s y = Q e s y) → ∃ m, wkR P.rs pin m st fun st0 => LoopW (fun Z s y => aWp P body pin (fun e s' y' => match e with
      | .normal => ∃ m, wkR P.rs pin m s' fun s'' => Z s'' y'
      | e => Q' e s' y') s y) st0 x) : ∃ m, wkR P.rs pin m st fun st0 => LoopW (fun Z s y => aWp P body pin (fun e s' y' => match e with
      | .normal => ∃ m, wkR P.rs pin m s' fun s'' => Z s'' y'
      | e => Q e s' y') s y) st0 x := h Q fun _ _ _ => rfl

def eqUp (xs ys : List Int) : Nat → Bool
  | 0 => (xs.length : Int) == ys.length
  | i + 1 => xs.getD i 0 == ys.getD i 0

theorem getD_el {α : Type} {xs : List α} {d : α} {i : Nat} (h : i < xs.length) : xs.getD i d = xs[i] := by
  rw [List.getD_eq_getElem?_getD, List.getElem?_eq_getElem h]; rfl

theorem eqUp_all {xs ys : List Int} (hl : xs.length = ys.length) : ∀ i, i ≤ xs.length → (∀ j, j ≤ i → eqUp xs ys j = true) → xs.take i = ys.take i
  | 0, _, _ => by simp
  | i + 1, hi, h => by
    have h1 := eqUp_all hl i (by omega) fun j hj => h j (by omega)
    have h2 : xs.getD i 0 = ys.getD i 0 := by simpa [eqUp] using h (i + 1) (Nat.le_refl _)
    have hx : i < xs.length := by omega
    have hy : i < ys.length := by omega
    rw [getD_el hx, getD_el hy] at h2
    rw [List.take_succ_eq_append_getElem hx, List.take_succ_eq_append_getElem hy, h1, h2]

abbrev fr20 (xs ys : List Int) (i : Nat) : St S := { tmps := [vL xs, vL ys, .undef, .undef, .undef, vB (eqUp xs ys i), vI i, .undef, .undef, .undef, .undef, .undef, .undef, .undef, .undef, .undef, .undef, .undef, .undef, .undef, .undef, .undef, .undef, .undef, .undef, .undef, .undef, .undef, .undef, .undef, .undef], seg := [], up := [] }

theorem c20 (gl : Gl) (xs ys : List Int) (hx : xs.length ≤ 9223372036854775807) : PCalls PR gl 20 [vL xs, vL ys] fun r => r = vB (decide (xs = ys)) := by
  refine fnW_sound (par_ok gl) Tryd.func20 ?_
  conv => whnf
  refine ⟨⟨99, [], []⟩, ?_⟩
  refine LoopW_ind _ (fun i : Nat => fr20 xs ys i) (fun i => i ≤ xs.length ∧ ∀ j, j < i → eqUp xs ys j = true) (fun i => xs.length - i) () ?_ 0 ⟨Nat.zero_le _, fun j hj => absurd hj (Nat.not_lt_zero _)⟩
  rintro i ⟨hi, h⟩ Z hZ
  conv => whnf
  have fin : (eqUp xs ys i && decide ((i : Int) < xs.length)) = false → eqUp xs ys i = decide (xs = ys) := fun h1 => by
    by_cases he : eqUp xs ys i = true
    · rw [he, Bool.true_and] at h1
      have h1 := of_decide_eq_false h1
      have hi2 : i = xs.length := by omega
      have h' : ∀ j, j ≤ i → eqUp xs ys j = true := fun j hj => by
        by_cases hji : j = i
        · rw [hji]; exact he
        · exact h j (by omega)
      have hl : xs.length = ys.length := by simpa [eqUp, Int.natCast_inj] using h' 0 (by omega)
      have := eqUp_all hl i hi h'
      rw [hi2, List.take_length, hl, List.take_length] at this
      rw [he, this]; simp
    · have he : eqUp xs ys i = false := by simpa using he
      have : xs ≠ ys := fun hxy => by
        subst hxy
        cases i <;> simp [eqUp] at he
      rw [he]; simp [this]
  refine bcase_iff.2 ⟨fun h0 => ?_, fun h0 => ?_⟩
  · have h0 : eqUp xs ys i = true := h0
    conv => whnf
    refine bcase_iff.2 ⟨fun h1 => ?_, fun h1 => ?_⟩
    · have h1 := of_decide_eq_true h1
      have hlt : i < xs.length := by omega
      have h' : ∀ j, j < i + 1 → eqUp xs ys j = true := fun j hj => by
        by_cases hji : j = i
        · rw [hji]; exact h0
        · exact h j (by omega)
      have hl : xs.length = ys.length := by simpa [eqUp, Int.natCast_inj] using h' 0 (by omega)
      have hw : IntKind.i64.wrap ((i : Int) + 1) = ((i + 1 : Nat) : Int) := wrap_nat (by omega)
      have he : eqUp xs ys (i + 1) = (xs[i] == (ys[i]'(by omega))) := by show (xs.getD i 0 == ys.getD i 0) = _; rw [getD_el hlt, getD_el]
      conv => whnf
      refine ⟨[0, 1, 2, 3, 4, 5, 6, 7, 8, 9], [], [], [], ⟨2147483647, [], []⟩, by decide +kernel, ?_⟩
      conv => whnf
      refine ⟨_, getI_nat hlt, ?_⟩
      conv => whnf
      refine ⟨_, getI_nat (show i < ys.length by omega), ?_⟩
      conv => whnf
      refine ⟨⟨99, [], []⟩, ?_⟩
      have := hZ (i + 1) ⟨hlt, h'⟩ (by omega)
      unfold fr20 at this
      rw [← hw, he] at this
      exact this
    · have h1 : decide ((i : Int) < xs.length) = false := h1
      have := fin (by rw [h0, h1]; rfl)
      conv => whnf
      rw [this]
  · have h0 : eqUp xs ys i = false := h0
    have := fin (by rw [h0]; rfl)
    conv => whnf
    rw [this]

theorem op20 : Opens PR 20 := ⟨_, Tryd.func20, rfl, rfl⟩

theorem to {gl : Gl} {f : FuncId} {args : List (AV S)} {v w : AV S} (h : PCalls PR gl f args fun r => r = v) (e : v = w) : PCalls PR gl f args fun r => r = w := e ▸ h

theorem c101 (gl : Gl) (l : List ByteArray) (hl : l.length ≤ 9223372036854775807) (w : ByteArray) : PCalls PR gl 101 [strsV l, .str w] fun r => r = vI (idx (fun x => strEq x w) l 0) := by
  refine fnW_sound (par_ok gl) Tryd.func101 ?_
  conv => whnf
  rw [wrap_m1 hl]
  refine ⟨⟨35, [], []⟩, ?_⟩
  refine LoopW_ind _ (fun m : Nat => (({ tmps := [strsV l, .str w, .undef, .undef, .undef, vI ((m : Int) - 1), .undef, .undef, .undef, .undef, .undef, .undef, .undef, .undef, .undef, .undef, .undef, .undef, .undef, .undef, .undef, .undef, .undef, .undef, .undef, .undef, .undef, .undef, .undef, .undef, .undef, .undef, .undef, .undef, .undef], seg := [], up := [] } : St S))) (fun m : Nat => (m ≤ l.length ∧ ∀ j (hj : j < l.length), m ≤ j → strEq l[j] w = false)) (fun m : Nat => (m)) () ?_ l.length ⟨Nat.le_refl _, fun j hj h => absurd h (by omega)⟩
  intro m hinv Z1 hZ1
  obtain ⟨hm, hj⟩ := hinv
  conv => whnf
  refine bcase_iff.2 ⟨fun g2_2 => ?_, fun g2_2 => ?_⟩
  · skip
    have hm1 : 1 ≤ m := by have := of_decide_eq_true g2_2; omega
    conv => whnf
    refine ⟨l[m - 1]'(by omega), (by rw [show ((m : Int) - 1) = ((m - 1 : Nat) : Int) by omega]; exact getI_nat (show m - 1 < l.length by omega)), ?_⟩
    conv => whnf
    refine bcase_iff.2 ⟨fun h2 => ?_, fun h2 => ?_⟩
    · skip
      have h2 : strEq (l[m - 1]'(by omega)) w = false := by have h2 : (!strEq (l[m - 1]'(by omega)) w) = true := h2; simpa using h2
      -- Z2:TT
      conv => whnf
      refine ⟨⟨35, [], []⟩, ?_⟩
      conv => whnf
      rw [show IntKind.i64.wrap ((m : Int) - 1 - 1) = ((m - 1 : Nat) : Int) - 1 by rw [wrap_int (by omega) (by omega)]; omega]
      exact hZ1 (m - 1) ⟨by omega, fun j hj2 h => by
        by_cases e : j = m - 1
        · subst e; exact h2
        · exact hj j hj2 (by omega)⟩ (by omega)
    · skip
      have h2 : strEq (l[m - 1]'(by omega)) w = true := by have h2 : (!strEq (l[m - 1]'(by omega)) w) = false := h2; simpa using h2
      have hR : (∀ j (hj : j < l.length), (j : Int) < (m : Int) - 1 → strEq l[j] w = false) → idx (fun x => strEq x w) l 0 = (m : Int) - 1 := fun hn => by
        rw [idx_at _ l (m - 1) 0 (by omega) (fun j hj2 => hn j (by omega) (by omega)) h2]
        omega
      conv => whnf
      refine ⟨⟨99, [], []⟩, ?_⟩
      refine LoopW_ind _ (fun i : Nat => (({ tmps := [strsV l, .str w, .undef, .undef, .undef, vI ((m : Int) - 1), vI i, .undef, .undef, .undef, .undef, .undef, .undef, .undef, .undef, .undef, .undef, .undef, .undef, .undef, .undef, .undef, .undef, .undef, .undef, .undef, .undef, .undef, .undef, .undef, .undef, .undef, .undef, .undef, .undef], seg := [], up := [] } : St S))) (fun i : Nat => (i ≤ l.length ∧ ∀ j (hj : j < l.length), j < i → strEq l[j] w = false)) (fun i : Nat => (l.length - i)) () ?_ 0 ⟨Nat.zero_le _, fun j hj h => absurd h (by omega)⟩
      intro i hinv Z2 hZ2
      obtain ⟨hi, hn⟩ := hinv
      conv => whnf
      refine bcase_iff.2 ⟨fun h5 => ?_, fun h5 => ?_⟩
      · skip
        have hlt : (i : Int) < (m : Int) - 1 := of_decide_eq_true h5
        have hil : i < l.length := by omega
        have hw : IntKind.i64.wrap ((i : Int) + 1) = ((i + 1 : Nat) : Int) := wrap_nat (by omega)
        conv => whnf
        refine ⟨_, getI_nat hil, ?_⟩
        conv => whnf
        refine bcase_iff.2 ⟨fun h7 => ?_, fun h7 => ?_⟩
        · skip
          have h7 : strEq l[i] w = true := h7
          -- R:TFTT
          conv => whnf
          rw [idx_at _ l i 0 hil (fun j hj2 => hn j (by omega) hj2) h7, Nat.zero_add]
        · skip
          have h7 : strEq l[i] w = false := h7
          -- Z5:TF
          conv => whnf
          refine ⟨⟨99, [], []⟩, ?_⟩
          conv => whnf
          rw [hw]
          exact hZ2 (i + 1) ⟨hil, fun j hj2 h => by
            by_cases e : j = i
            · subst e; exact h7
            · exact hn j hj2 (by omega)⟩ (by omega)
      · skip
        have hge : ¬ (i : Int) < (m : Int) - 1 := of_decide_eq_false h5
        -- R:TFF
        conv => whnf
        rw [hR fun j hj2 h => hn j hj2 (by omega)]
  · skip
    have hm0 : m = 0 := by have := of_decide_eq_false g2_2; omega
    have hR : (∀ j (hj : j < l.length), (j : Int) < (m : Int) - 1 → strEq l[j] w = false) → idx (fun x => strEq x w) l 0 = (m : Int) - 1 := fun _ => by
      rw [idx_no _ _ _ fun x hx => ?_, hm0]
      · rfl
      · obtain ⟨j, hj2, rfl⟩ := List.mem_iff_getElem.1 hx
        exact hj j hj2 (by omega)
    conv => whnf
    refine ⟨⟨99, [], []⟩, ?_⟩
    refine LoopW_ind _ (fun i : Nat => (({ tmps := [strsV l, .str w, .undef, .undef, .undef, vI ((m : Int) - 1), vI i, .undef, .undef, .undef, .undef, .undef, .undef, .undef, .undef, .undef, .undef, .undef, .undef, .undef, .undef, .undef, .undef, .undef, .undef, .undef, .undef, .undef, .undef, .undef, .undef, .undef, .undef, .undef, .undef], seg := [], up := [] } : St S))) (fun i : Nat => (i ≤ l.length ∧ ∀ j (hj : j < l.length), j < i → strEq l[j] w = false)) (fun i : Nat => (l.length - i)) () ?_ 0 ⟨Nat.zero_le _, fun j hj h => absurd h (by omega)⟩
    intro i hinv Z2 hZ2
    obtain ⟨hi, hn⟩ := hinv
    conv => whnf
    refine bcase_iff.2 ⟨fun h5 => ?_, fun h5 => ?_⟩
    · skip
      have hlt : (i : Int) < (m : Int) - 1 := of_decide_eq_true h5
      have hil : i < l.length := by omega
      have hw : IntKind.i64.wrap ((i : Int) + 1) = ((i + 1 : Nat) : Int) := wrap_nat (by omega)
      conv => whnf
      refine ⟨_, getI_nat hil, ?_⟩
      conv => whnf
      refine bcase_iff.2 ⟨fun h7 => ?_, fun h7 => ?_⟩
      · skip
        have h7 : strEq l[i] w = true := h7
        -- R:FTT
        conv => whnf
        rw [idx_at _ l i 0 hil (fun j hj2 => hn j (by omega) hj2) h7, Nat.zero_add]
      · skip
        have h7 : strEq l[i] w = false := h7
        -- Z5:TF
        conv => whnf
        refine ⟨⟨99, [], []⟩, ?_⟩
        conv => whnf
        rw [hw]
        exact hZ2 (i + 1) ⟨hil, fun j hj2 h => by
          by_cases e : j = i
          · subst e; exact h7
          · exact hn j hj2 (by omega)⟩ (by omega)
    · skip
      have hge : ¬ (i : Int) < (m : Int) - 1 := of_decide_eq_false h5
      -- R:FF
      conv => whnf
      rw [hR fun j hj2 h => hn j hj2 (by omega)]

theorem op101 : Opens PR 101 := ⟨_, Tryd.func101, rfl, rfl⟩

theorem op106 : Opens PR 106 := ⟨_, Tryd.func106, rfl, rfl⟩

/-- The error of a word that has to be new. -/
def freE (w : ByteArray) (l : List ByteArray) : Int := if !nameB w then 6 else if l.any fun x => strEq x w then 5 else 0

theorem c67 (gl : Gl) (w : ByteArray) (hw1 : w.size ≤ 9223372036854775807) (l : List ByteArray) (hl : l.length ≤ 9223372036854775807) : PCalls PR gl 67 [.str w, strsV l] fun r => r = vI (freE w l) := by
  refine fnW_sound (par_ok gl) Tryd.func67 ?_
  conv => whnf
  refine byC (c101 gl l hl w) op101 ?_
  conv => whnf
  refine bcase_iff.2 ⟨fun h2 => ?_, fun h2 => ?_⟩
  · skip
    have h2 : l.any (fun x => strEq x w) = true := by rw [← idx_any]; exact h2
    conv => whnf
    refine byC (c106 gl w hw1) op106 ?_
    conv => whnf
    refine bcase_iff.2 ⟨fun h4 => ?_, fun h4 => ?_⟩
    · skip
      have h4 : (!nameB w) = true := h4
      -- R:TT
      conv => whnf
      unfold freE; rw [h4]; rfl
    · skip
      have h4 : (!nameB w) = false := h4
      -- R:TF
      conv => whnf
      unfold freE; rw [h4, h2]; rfl
  · skip
    have h2 : l.any (fun x => strEq x w) = false := by rw [← idx_any]; exact h2
    conv => whnf
    refine byC (c106 gl w hw1) op106 ?_
    conv => whnf
    refine bcase_iff.2 ⟨fun h4 => ?_, fun h4 => ?_⟩
    · skip
      have h4 : (!nameB w) = true := h4
      -- R:FT
      conv => whnf
      unfold freE; rw [h4]; rfl
    · skip
      have h4 : (!nameB w) = false := h4
      -- R:FF
      conv => whnf
      unfold freE; rw [h4, h2]; rfl

theorem op67 : Opens PR 67 := ⟨_, Tryd.func67, rfl, rfl⟩

theorem join {T G : Prop} (main : T → G) (tail : T) : G := main tail

end Go.Ab.SkF

namespace Go.Ab.SkF
open Go Go.Ab Go.Ab.Pln Go.Proofs
set_option maxHeartbeats 1000000
set_option maxRecDepth 100000

end Go.Ab.SkF
