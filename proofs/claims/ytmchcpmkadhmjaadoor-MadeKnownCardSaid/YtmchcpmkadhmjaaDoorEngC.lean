/-
  THE ENGINE, PART UC: 'copy', slices that are made, maps.
  THE ENGINE, PART UD: maps.
  THE ENGINE, PART V: what 'opW' asks is enough for the machine's operation.
  THE ENGINE, PART W: regions; marks.
  THE ENGINE, PART Z: regions whose operations may be carried out in any order that the edges allow.
  THE ENGINE, PART ZB: regions whose operations may be carried out in any order that the edges allow: each order, on our values, is enough for the machine.
  THE ENGINE, PART ZC: operations that change places.
  THE ENGINE, PART ZD: what the operations of a drawn region turn: some rows and objects, and one slot.
  THE ENGINE, PART ZE: operations of a drawn region change places.
-/
import Derived.RangeFuncRecord
import Derived.RangeFuncLeaves
import Derived.OrdersIn
import Derived.Test.YtmchcpmkadhmjaaDoorEngB
namespace Go.Ab
open Go
variable {S : Sig} [Cod S]
variable {X : Type} {gl : Gl} {En : Env X} {x : X} {w w1 w' : World} {V V' : Nat → Nat → Prop} {l l0 : Loc} {ts : Array Value} {st : St S}
variable {P : Program} {par : Par S X} {a : Act} {K : AV S → St S → X → Prop} {ro : Option Nat} {n : Nat} {o : Oper}
variable [LawCod S]

/-! ### Slices that are made -/

theorem flat_rep (zs : List Value) : ∀ (c k : Nat), k < c * zs.length → (List.replicate c zs).flatten[k]? = zs[k % zs.length]?
  | 0, k, h => by simp at h
  | c + 1, k, h => by
    rw [List.replicate_succ, List.flatten_cons]
    by_cases hk : k < zs.length
    · rw [List.getElem?_append_left hk, Nat.mod_eq_of_lt hk]
    · rw [List.getElem?_append_right (by omega), flat_rep zs c (k - zs.length) (by rw [Nat.succ_mul] at h; omega)]
      congr 1
      conv => rhs; rw [show k = (k - zs.length) + zs.length by omega, Nat.add_mod_right]

theorem cyc (z : Array Value) (c : Nat) : ((Array.range (c * z.size)).map fun k => z[k % z.size]!).toList = (List.replicate c z.toList).flatten := by
  apply List.ext_getElem?
  intro k
  by_cases hk : k < c * z.size
  · rw [flat_rep z.toList c k (by simpa using hk)]
    have hz : 0 < z.size := by
      rcases Nat.eq_zero_or_pos z.size with h | h
      · rw [h] at hk; simp at hk
      · exact h
    have hm : k % z.size < z.size := Nat.mod_lt _ hz
    simp [hk, hm]
  · rw [List.getElem?_eq_none (by simpa using hk), List.getElem?_eq_none (by simpa using hk)]

omit [LawCod S] in
theorem reps_rep {vs : List Value} {u : S.U} {z : S.T u} (h : Reps w V l vs (Cod.enc u z)) : ∀ c, Reps w V l (List.replicate c vs).flatten ((List.replicate c z).flatMap (Cod.enc u))
  | 0 => .nil _
  | c + 1 => by rw [List.replicate_succ, List.flatten_cons, List.replicate_succ, List.flatMap_cons]; exact h.append (reps_rep h c)

theorem run_asInt {P : Program} {w : World} (k : IntKind) (i : Int) : (asInt (.int k i)).run P w = .ok i w := rfl

theorem makeSlice_ok (htis : TisOk P par.ti) {d t : Nat} {y z : Operand} (hs : SR gl En x w V l a.tmps st)
    (h : tyK par t fun ty => evK st.tmps y fun nv => evK st.tmps z fun mv => match ty.kind with
    | .slice u _ ez => match nv with
      | .int _ a => match mv with
        | .int _ b => (0 ≤ a ∧ a ≤ b ∧ b ≤ 1048576) ∧ optK (Cod.dec u ez) fun z => findK st.seg d (putK st.seg d (.row u true) fun sg => K (.sl u (List.replicate a.toNat z) (some d)) { st with seg := sg } x) fun _ => False
        | _ => False
      | _ => False
    | _ => False) : VOK P gl En a w (Instr.makeSlice t (a.eval y) (a.eval z)) K := by
  obtain ⟨ty, h, hty⟩ := tyK_elim htis h
  obtain ⟨nv, h, hnv⟩ := evK_elim hs h
  obtain ⟨mv, h, hmv⟩ := evK_elim hs h
  cases hk : ty.kind with
  | slice u bytes ez =>
    rw [hk] at h
    cases nv with
    | int k1 i =>
     cases mv with
     | int k2 j =>
      obtain ⟨⟨h0, hij, hlim⟩, zz, hzz, h⟩ := h
      rw [findK_eq] at h
      cases hl : lookA st.seg d with
      | some ao => rw [hl] at h; exact h.elim
      | none =>
        rw [hl] at h
        simp only [putK_eq] at h
        have hkind := hty.kind
        rw [hk] at hkind
        obtain ⟨e, ie, zv, h1, h2, h3, h4, h5, h6, h7, h8, h9⟩ := hkind
        rw [hnv.int, hmv.int]
        have hrz := LawCod.back _ _ _ hzz _ _ _ _ (h8 w V).1
        have hzs : zv.cells.size = Cod.size u := by rw [← Array.length_toList, hrz.length, LawCod.width]
        have hpos := LawCod.pos (S := S) u
        obtain ⟨a', rfl⟩ : ∃ a' : Nat, i = a' := ⟨i.toNat, by omega⟩
        obtain ⟨b', rfl⟩ : ∃ b' : Nat, j = b' := ⟨j.toNat, by omega⟩
        have hw1 : IntKind.i64.wrap (a' : Int) = a' := by
          have h : IntKind.i64.wrap (a' : Int) = if (a' : Int) % 18446744073709551616 ≥ 9223372036854775808 then (a' : Int) % 18446744073709551616 - 18446744073709551616 else (a' : Int) % 18446744073709551616 := by
            simp [IntKind.wrap, IntKind.bits, IntKind.signed]
          rw [h]; split <;> omega
        have hw2 : IntKind.i64.wrap (b' : Int) = b' := by
          have h : IntKind.i64.wrap (b' : Int) = if (b' : Int) % 18446744073709551616 ≥ 9223372036854775808 then (b' : Int) % 18446744073709551616 - 18446744073709551616 else (b' : Int) % 18446744073709551616 := by
            simp [IntKind.wrap, IntKind.bits, IntKind.signed]
          rw [h]; split <;> omega
        have hab : a' ≤ b' := by omega
        have hby : bytes * b' ≤ 128 * 1048576 := Nat.mul_le_mul h6.1 (by omega)
        have hby' : (bytes : Int) * (b' : Int) ≤ 2 ^ 48 := by
          have : ((bytes * b' : Nat) : Int) ≤ ((128 * 1048576 : Nat) : Int) := Int.ofNat_le.2 hby
          rw [Int.natCast_mul] at this
          have h2 : ((128 * 1048576 : Nat) : Int) ≤ (2 : Int) ^ 48 := by decide
          omega
        let c : Array Value := (Array.range (b' * Cod.size u)).map fun k => (if b' * Cod.size u = 0 then #[] else zv.cells)[k % (if b' * Cod.size u = 0 then #[] else zv.cells).size]!
        have hct : c.toList = (List.replicate b' zv.cells.toList).flatten := by
          by_cases hz : b' * Cod.size u = 0
          · have hb0 : b' = 0 := by
              rcases Nat.mul_eq_zero.1 hz with h | h
              · exact h
              · omega
            subst hb0; simp [c]
          · simp only [c, if_neg hz]; rw [← hzs]; exact cyc zv.cells b'
        have hrun : (Instr.makeSlice t (.int k1 a') (.int k2 b')).run P w = .ok (.slice (some ⟨w.heap.size, 0, none⟩) a' b') (w.alloc (.cells c e)) := by
          have e1 : ¬ ((b' : Int) < 0) := by omega
          have e2 : ¬ ((a' : Int) < 0) := by omega
          have e3 : ¬ ((a' : Int) > (b' : Int)) := by omega
          have e4 : ¬ ((bytes : Int) * (b' : Int) > 2 ^ 48) := by omega
          have e5 : ¬ (b' * bytes > roomBytes) := by
            have : roomBytes = 2 ^ 47 := rfl
            rw [this, Nat.mul_comm]; omega
          have hif : (decide ((b' : Int) < 0) || decide ((bytes : Int) * (b' : Int) > 2 ^ 48)) = false := by simp only [e1, e4, decide_false, Bool.or_self]
          have hsz0 : (b' * ie.size = 0) = (b' * Cod.size u = 0) := by rw [h3]
          simp only [Instr.makeSlice, Sem.run_bind, run_underlying h1, Result.andThen, run_asInt, run_typeInfo h2, h4]
          simp only [hw1, hw2, hif, e2, e3, decide_false, Bool.or_self, Bool.false_eq_true, if_false, Int.toNat_natCast, askRoom, e5]
          simp only [Sem.run_bind, Pure.pure, run_sizeOf h2, Result.andThen, Sem.run]
          by_cases hz : b' * Cod.size u = 0
          · have hc : c = (Array.range (b' * ie.size)).map fun k => (#[] : Array Value)[k % (#[] : Array Value).size]! := by
              simp only [c, if_pos hz, h3]
            rw [if_pos (by rw [h3]; exact hz)]
            refine Eq.trans (b := ((newRow e c).run P w).andThen fun ad w2 => .ok (.slice (some ad) a' b') w2) ?_ (by rw [run_newRow]; rfl)
            rw [hc]; simp only [Sem.run_bind]; rfl
          · have hc : c = (Array.range (b' * ie.size)).map fun k => zv.cells[k % zv.cells.size]! := by
              simp only [c, if_neg hz, h3]
            rw [if_neg (by rw [h3]; exact hz)]
            refine Eq.trans (b := ((newRow e c).run P w).andThen fun ad w2 => .ok (.slice (some ad) a' b') w2) ?_ (by rw [run_newRow]; rfl)
            rw [hc]; simp only [Sem.run_bind, run_zeroValue h2 h7]; rfl
        have hrow := reps_rep hrz a'
        obtain ⟨V2, hs2, hrep⟩ := hs.newRow (Grow.alloc _ _) (heap_alloc_new w (.cells c e)) (.inl hl) (hs.own_none hl).2 (u := u) (xs := List.replicate a' zz) true (cap := b') (ws := (List.replicate a' zv.cells.toList).flatten)
          (tail := (List.replicate (b' - a') zv.cells.toList).flatten) (by
            rw [hct, ← List.flatten_append, List.replicate_append_replicate]; congr 2; omega) hrow
          (by rw [← Array.length_toList, hct]; simp [hzs]) (by simpa using hab)
        refine ⟨_, _, hrun, _, _, x, V2, _, h, hs2, ?_⟩
        simpa using hrep
     | _ => exact h.elim
    | _ => exact h.elim
  | _ => rw [hk] at h; exact h.elim

/-! ### 'copy' -/

theorem run_first {P : Program} {w : World} {u : S.U} {ys : List (S.T u)} {size m mcap : Nat} {xb : Option Addr} {ws : List Value} (hsz : size = Cod.size u) (hr : Reps w V Loc.none ws (ys.flatMap (Cod.enc u)))
    (hm : (ys = [] ∧ ws = []) ∨ ∃ b off, xb = some ⟨b, off, none⟩ ∧ ∀ k v, ws[k]? = some v → w.cell? ⟨b, off + k, none⟩ = some v) (hle : m ≤ ys.length) :
    ∃ wa wb, ws = wa ++ wb ∧ wa.length = m * size ∧ Reps w V Loc.none wa ((ys.take m).flatMap (Cod.enc u)) ∧ (Builtin.firstCells size m (.slice xb ys.length mcap)).run P w = .ok wa.toArray w := by
  subst hsz
  have hsp : ys.flatMap (Cod.enc u) = (ys.take m).flatMap (Cod.enc u) ++ (ys.drop m).flatMap (Cod.enc u) := by rw [← List.flatMap_append, List.take_append_drop]
  rw [hsp] at hr
  obtain ⟨wa, wb, rfl, h1, h2⟩ := Reps.split _ hr
  have hl : wa.length = m * Cod.size u := by rw [h1.length, widths_flatMap, List.length_take, Nat.min_eq_left hle]
  refine ⟨wa, wb, rfl, hl, h1, ?_⟩
  have : (Builtin.firstCells (Cod.size u) m (.slice xb ys.length mcap)) = Builtin.firstCells (Cod.size u) m (.slice xb m mcap) := by cases xb <;> rfl
  rw [this]
  refine run_firstCells' hl ?_
  rcases hm with ⟨rfl, h⟩ | ⟨b, off, rfl, h⟩
  · have hm0 : m = 0 := by simpa using hle
    subst hm0
    cases xb with
    | none => exact .inl ⟨rfl, rfl⟩
    | some a => exact .inr (.inl ⟨rfl, _, rfl⟩)
  · exact .inr (.inr ⟨b, off, rfl, fun k v hk => h k v (by rw [List.getElem?_append_left (List.getElem?_eq_some_iff.1 hk).1]; exact hk)⟩)

theorem copy_ok {t : TypeId} {rest : List TypeId} {type : TypeId} {s y : AV S} {v0 vy : Value} {K : AV S → St S → Prop} (htis : TisOk P par.ti) (hs : SR gl En x w V l ts st)
    (h : tyK par t fun ty => match ty.kind with
    | .slice u _ _ => match s with
      | .sl v xs (some e) => castL v u xs fun xs => moreK u y fun ys => findK st.seg e False fun
        | .row u' f => match f with
          | true => match Cod.ueq u' u with
            | .isTrue _ => repAllK u e (ovl ys) st fun st' => K (.int .i64 (min xs.length ys.length : Nat)) st'
            | .isFalse _ => False
          | false => False
        | _ => False
      | _ => False
    | _ => False) (h1 : Rep w V l v0 s) (h2 : Rep w V l vy y) : ∃ v w' c st' V' l', (Builtin.copy_ (t :: rest).toArray type #[v0, vy]).run P w = .ok v w' ∧ K c st' ∧ SR gl En x w' V' l' ts st' ∧ Rep w' V' l' v c := by
  obtain ⟨ty, h, hty⟩ := tyK_elim htis h
  cases hk : ty.kind with
  | slice u bytes ez =>
    rw [hk] at h
    cases s with
    | sl v xs o =>
      cases o with
      | none => exact h.elim
      | some e =>
        simp only at h
        obtain ⟨zs, hq, he⟩ := castL_elim' h
        cases he
        obtain ⟨ys, h, hy⟩ := moreK_elim hq
        rw [findK_eq] at h
        cases hl : lookA st.seg e with
        | none => rw [hl] at h; exact h.elim
        | some ao =>
          rw [hl] at h
          cases ao with
          | row u' f =>
            cases f with
            | false => exact h.elim
            | true =>
              simp only at h
              cases hu : Cod.ueq u' u with
              | isFalse hne => rw [hu] at h; exact h.elim
              | isTrue he =>
                rw [hu] at h
                subst he
                have hkind := hty.kind
                rw [hk] at hkind
                obtain ⟨el, ie, zv, g1, g2, g3, g4, g5, g6, g7, g8, g9⟩ := hkind
                obtain ⟨xb, mcap, wsy, rfl, hyr, hyc⟩ := hy _ _ _ _ h2
                obtain ⟨wa, wb, rfl, hwl, hwr, hrun⟩ := run_first (P := P) (mcap := mcap) (m := min zs.length ys.length) g3 hyr hyc (Nat.min_le_right _ _)
                have hgo : Nat.min ys.length zs.length = min zs.length ys.length := Nat.min_comm _ _
                obtain ⟨vs, hvs, h1'⟩ : ∃ vs, [v0] = vs ∧ Reps w V l vs [.sl u' zs (some e)] := ⟨_, rfl, h1⟩
                cases h1' with
                | flat h0 tt =>
                  have hv := (List.cons.inj hvs).1
                  obtain ⟨h3, h4, base, h5⟩ := h0
                  rw [← hv] at h5
                  subst h5
                  have hz : zs = [] := h3
                  subst hz
                  have hwa : wa = [] := by simpa using hwl
                  subst hwa
                  obtain ⟨st', hK, hs'⟩ := SR.rowRep0 hs h h4 (by simp [ovl])
                  refine ⟨.int .i64 0, w, _, st', V, l, ?_, hK, hs', Rep.flat1 rfl⟩
                  simp only [List.length_nil, Nat.zero_min] at hrun
                  cases base <;> simp [Builtin.copy_, Sem.run_bind, run_underlying g1, Result.andThen, Builtin.lenOf, run_sizeOf g2, hrun, Sem.run, Pure.pure, storeCells, goInt]
                | @tok _ _ _ _ b cap wsx _ _ ht hc r hcp tt =>
                  have hv := (List.cons.inj hvs).1
                  subst hv
                  obtain ⟨t', ht', hro⟩ := hs.seg e _ hl
                  rw [ht] at ht'; cases ht'
                  obtain ⟨c0, el0, k1, k2, k3, k4⟩ := hro
                  have hsz' := lay_size c0 0 wa
                  have hxl : wsx.length = zs.length * Cod.size u' := by rw [r.length, widths_flatMap]
                  have hfit : wa.length ≤ c0.size := by
                    have : min zs.length ys.length * ie.size ≤ zs.length * Cod.size u' := by rw [g3]; exact Nat.mul_le_mul_right _ (Nat.min_le_left _ _)
                    omega
                  have hpl : ∀ v ∈ wa, Plain v := plain_of hwr (append_held.all_flatMap_cell _)
                  have hst := run_storeCells (P := P) (b := b) (o := 0) (el := el0) wa 0 w c0 k1 (by simpa using hfit) hpl
                  obtain ⟨st', hK, hs'⟩ := SR.rowRep hs h hl ht k1 hsz' (fun xs2 ws2 hwl2 hwr2 hwc2 => by
                    have hx2 : xs2.length = zs.length := by
                      have e1 : ws2.length = xs2.length * Cod.size u' := by rw [hwr2.length, widths_flatMap]
                      have e2 : xs2.length * Cod.size u' = zs.length * Cod.size u' := by omega
                      exact Nat.mul_right_cancel (LawCod.pos u') e2
                    have hsp : xs2.flatMap (Cod.enc u') = (xs2.take (min zs.length ys.length)).flatMap (Cod.enc u') ++ (xs2.drop (min zs.length ys.length)).flatMap (Cod.enc u') := by rw [← List.flatMap_append, List.take_append_drop]
                    rw [hsp] at hwr2
                    obtain ⟨wc, wd, rfl, q1, q2⟩ := Reps.split _ hwr2
                    have hwcl : wc.length = wa.length := by
                      rw [q1.length, widths_flatMap, List.length_take, Nat.min_eq_left (by omega), hwl, g3]
                    have hov : ovl ys xs2 = ys.take (min zs.length ys.length) ++ xs2.drop (min zs.length ys.length) := by
                      simp only [ovl, hx2]
                      congr 1
                      · rw [List.take_eq_take_iff]; omega
                      · by_cases hle : ys.length ≤ zs.length
                        · rw [Nat.min_eq_right hle]
                        · rw [List.drop_eq_nil_of_le (by omega), List.drop_eq_nil_of_le (by omega)]
                    refine ⟨wa ++ wd, by rw [← hwl2]; simp [hwcl], by rw [hov]; simp; omega, by rw [hov, List.flatMap_append]; exact hwr.append q2, fun k u hk => ?_⟩
                    have hct : c0.toList = [] ++ wc ++ (wd ++ c0.toList.drop wsx.length) := by
                      have : wc ++ wd = c0.toList.take wsx.length := by
                        apply List.ext_getElem?
                        intro k
                        by_cases hkn : k < wsx.length
                        · have h7 := hwc2 k (wc ++ wd)[k] (by rw [List.getElem?_eq_getElem (by omega)])
                          rw [cell_of_heap k1] at h7
                          rw [List.getElem?_take, if_pos hkn]; simp only [Array.getElem?_toList]; rw [h7, List.getElem?_eq_getElem (by omega)]
                        · rw [List.getElem?_eq_none (by omega), List.getElem?_eq_none (by rw [List.length_take]; omega)]
                      rw [List.nil_append, ← List.append_assoc, this, List.take_append_drop]
                    have hlay := lay_toList c0 [] wc (wd ++ c0.toList.drop wsx.length) wa hct hwcl.symm
                    rw [List.length_nil, List.nil_append] at hlay
                    have : (lay c0 0 wa).toList[k]? = some u := by
                      rw [hlay, ← List.append_assoc, List.getElem?_append_left (List.getElem?_eq_some_iff.1 hk).1]; exact hk
                    simpa using this)
                  refine ⟨.int .i64 (min zs.length ys.length : Nat), _, _, st', V, l, ?_, hK, hs', Rep.flat1 rfl⟩
                  simp only [Nat.add_zero] at hst
                  simp [Builtin.copy_, Sem.run_bind, run_underlying g1, Result.andThen, Builtin.lenOf, run_sizeOf g2, hgo, hrun, hst, Sem.run, Pure.pure, goInt]
          | _ => exact h.elim
    | _ => exact h.elim
  | _ => rw [hk] at h; exact h.elim
end Go.Ab

namespace Go.Ab
open Go
variable {S : Sig} [Cod S]
variable {X : Type} {gl : Gl} {En : Env X} {x : X} {w w1 w' : World} {V V' : Nat → Nat → Prop} {l l0 : Loc} {ts : Array Value} {st : St S}
variable {P : Program} {par : Par S X} {a : Act} {K : AV S → St S → X → Prop} {ro : Option Nat} {n : Nat} {o : Oper}

omit [Cod S] in
theorem modify_map {f : MapEntry → MapEntry} (hf : ∀ e, (f e).born = e.born) : ∀ (l : List MapEntry) (j : Nat), (l.modify j f).map (fun e => e.born) = l.map fun e => e.born
  | [], j => by simp
  | e :: l, 0 => by simp [hf]
  | e :: l, j + 1 => by simp [List.modify_succ_cons, modify_map hf l j]

theorem Stamps.modify {es : Array MapEntry} {ck : Nat} (h : Stamps es ck) {j : Nat} {f : MapEntry → MapEntry} (hf : ∀ e, (f e).born = e.born) : Stamps (es.modify j f) ck := by
  have hm : (es.modify j f).toList.map (fun e => e.born) = es.toList.map fun e => e.born := by rw [Array.toList_modify]; exact modify_map hf _ _
  refine ⟨fun e he => ?_, by rw [hm]; exact h.2⟩
  have h1 : e.born ∈ (es.modify j f).toList.map fun e => e.born := List.mem_map.2 ⟨e, he, rfl⟩
  rw [hm] at h1
  obtain ⟨e', he', h2⟩ := List.mem_map.1 h1
  rw [← h2]; exact h.1 e' he'

theorem Stamps.push {es : Array MapEntry} {ck : Nat} (h : Stamps es ck) {e : MapEntry} (he : e.born = ck) : Stamps (es.push e) (ck + 1) := by
  refine ⟨fun e' he' => ?_, ?_⟩
  · rw [Array.toList_push] at he'
    rcases List.mem_append.1 he' with h1 | h1
    · have := h.1 e' h1; omega
    · rw [List.mem_singleton] at h1; subst h1; omega
  · rw [Array.toList_push, List.map_append]
    refine List.nodup_append.2 ⟨h.2, by simp, fun a ha b hb e1 => ?_⟩
    simp only [List.map_cons, List.map_nil, List.mem_singleton] at hb
    obtain ⟨x, hx, rfl⟩ := List.mem_map.1 ha
    have := h.1 x hx
    omega

/-- A map is written. -/
theorem SR.mapWrite (h : SR gl En x w V l ts st) {d b : Nat} {kvs kvs' : List (AV S × AV S)} (hd : lookA st.seg d = some (.mp kvs)) (ho : l.own d = some b) {es : Array MapEntry} {ck : Nat}
    (hr : All2 (fun (e : MapEntry) (p : AV S × AV S) => Rep w V Loc.none e.key p.1 ∧ Rep w V Loc.none e.val p.2) es.toList kvs') (hstp : Stamps es ck) : SR gl En x (w.putObj b (.map es ck)) V l ts { st with seg := putA st.seg d (.mp kvs') } := by
  have hm : Mut l st false d b := ⟨_, hd, ho⟩
  obtain ⟨b', hb', es0, ck0, h1, h2, h3⟩ := h.seg _ _ hd
  rw [ho] at hb'; cases hb'
  have hb := lt_of_heap h1
  have hVb : ∀ b' o, V b' o → b' ≠ b := fun b' o hv e => h3 o (e ▸ hv)
  have hblk : ∀ b', b' ≠ b → (w.putObj b (.map es ck)).heap[b']? = w.heap[b']? := fun b' hne => World.putObj_heap_other hne
  have hc : ∀ b' o, V b' o → eye (w.putObj b (.map es ck)) b' o = eye w b' o := fun b' o hv => cell_congr (hblk _ (hVb b' o hv)) o
  have hsz : (w.putObj b (.map es ck)).heap.size = w.heap.size := by simp [World.putObj]
  have htk : ∀ d' b' n cap, l.tok d' = some (.at b' n cap) → b' ≠ b := fun d' b' n cap ht e => by
    obtain ⟨u, f, hreg⟩ := h.regt _ _ ht
    have := h.dis false d' false d b ⟨_, hreg, n, cap, e ▸ ht⟩ hm
    rw [this.2, hd] at hreg; cases hreg
  have hrep : ∀ {l1 : Loc} {vs : List Value} {es' : List (AV S)}, (∀ d t, l1.tok d = some t → l.tok d = some t) → Reps w V l1 vs es' → Reps (w.putObj b (.map es ck)) V l1 vs es' := fun hl1 hr =>
    hr.mono (fun _ _ h => h) hc _ (Loc.le_refl _) fun d' b' n cap ht o _ => cell_congr (hblk _ (htk d' b' n cap (hl1 _ _ ht))) o
  have hat : ∀ {b' o : Nat} {ws : List Value}, CellsAt w V b' o ws → CellsAt (w.putObj b (.map es ck)) V b' o ws := fun h => h.mono (fun _ _ h => h) hc
  have hno : ∀ d t, Loc.none.tok d = some t → l.tok d = some t := fun d t e => by simp [Loc.none] at e
  have hnk : ∀ d t, l.notok.tok d = some t → l.tok d = some t := fun d t e => by simp [Loc.notok] at e
  have hk : Keep (En.E x) w (w.putObj b (.map es ck)) := ⟨rfl, rfl, rfl, by rw [hsz]; exact Nat.le_refl _, fun b' hE => hblk _ fun e => (h.mine _ _ _ hm).1 (e ▸ hE)⟩
  have hMM : ∀ {k d' b'}, Mut l { st with seg := putA st.seg d (.mp kvs') } k d' b' → Mut l st k d' b' := by
    intro k d' b' hm'
    cases k with
    | false =>
      obtain ⟨ao', h4, h5⟩ := hm'
      simp only [lookA_putA] at h4
      by_cases hdd : d = d'
      · subst hdd; rw [if_pos rfl] at h4; cases h4; exact ⟨_, hd, h5⟩
      · rw [if_neg hdd] at h4; exact ⟨_, h4, h5⟩
    | true => exact hm'
  refine ⟨h.le, h.cb.world (fun _ _ h => h) hc, En.stable _ _ _ h.inv hk, gl.st _ _ h.g hk.size fun b' hb' o => cell_congr (hblk b' fun e => by have := (h.mine _ _ _ hm).2; omega) o,
    fun b' o hv => by rw [hsz]; exact h.vlt b' o hv, h.vem, h.sz, fun i c' hi => hrep (fun _ _ h => h) (h.tmps i c' hi), fun d' ao' hd' => ?_, fun d' ao' hd' => ?_, fun d' b' hb' => ?_, fun d' t ht => ?_,
    fun k d' b' hm' => h.mine k d' b' (hMM hm'), fun k d1 k' d2 b' h4 h5 => h.dis k d1 k' d2 b' (hMM h4) (hMM h5)⟩
  · simp only [lookA_putA] at hd'
    by_cases hdd : d = d'
    · subst hdd; rw [if_pos rfl] at hd'; cases hd'
      refine ⟨b, ho, es, ck, World.putObj_heap_same hb, ⟨?_, hstp⟩, h3⟩
      have hgo : ∀ {L : List MapEntry} {M : List (AV S × AV S)}, All2 (fun (e : MapEntry) (p : AV S × AV S) => Rep w V Loc.none e.key p.1 ∧ Rep w V Loc.none e.val p.2) L M →
          All2 (fun (e : MapEntry) (p : AV S × AV S) => Rep (w.putObj b (.map es ck)) V Loc.none e.key p.1 ∧ Rep (w.putObj b (.map es ck)) V Loc.none e.val p.2) L M := fun h => by
        induction h with
        | nil => exact .nil
        | cons h _ ih => exact .cons ⟨hrep hno h.1, hrep hno h.2⟩ ih
      exact hgo hr
    · rw [if_neg hdd] at hd'
      have := h.seg d' ao' hd'
      cases ao' with
      | cells es' =>
        obtain ⟨b', hb', c', el', h4, h5, h6⟩ := this
        have hne : b' ≠ b := fun e => hdd (h.dis false d false d' b hm ⟨_, hd', e ▸ hb'⟩).2
        exact ⟨b', hb', c', el', by rw [hblk _ hne]; exact h4, hrep (fun _ _ h => h) h5, h6⟩
      | frz es' =>
        obtain ⟨b', ws, hb', h4, h5⟩ := this
        exact ⟨b', ws, hb', hat h4, hrep hno h5⟩
      | row u f =>
        obtain ⟨t, ht, h4⟩ := this
        refine ⟨t, ht, ?_⟩
        cases t with
        | no => trivial
        | «at» b' n cap =>
          obtain ⟨c', el', h5, h6⟩ := h4
          exact ⟨c', el', by rw [hblk _ (htk _ _ _ _ ht)]; exact h5, h6⟩
      | mp kvs =>
        obtain ⟨b', hb', hmp⟩ := this
        have hne : b' ≠ b := fun e => hdd (h.dis false d false d' b hm ⟨_, hd', e ▸ hb'⟩).2
        exact ⟨b', hb', hmp.mono (hblk _ hne) (hrep hno) fun o => by obtain ⟨es, ck, _, _, h3⟩ := hmp; exact h3 o⟩
      | mpz ks us => obtain ⟨b2, hb2, hmz⟩ := this; exact ⟨b2, hb2, (hrep hno) hmz⟩
  · have := h.up d' ao' hd'
    cases ao' with
    | cells es' =>
      obtain ⟨b', hb', c', el', h4, h5, h6⟩ := this
      have hne : b' ≠ b := fun e => by have := (h.dis false d true d' b hm ⟨_, hd', trivial, e ▸ hb'⟩).1; cases this
      exact ⟨b', hb', c', el', by rw [hblk _ hne]; exact h4, hrep hnk h5, h6⟩
    | frz es' =>
      obtain ⟨b', ws, hb', h4, h5⟩ := this
      exact ⟨b', ws, hb', hat h4, hrep hno h5⟩
    | row u f => trivial
    | mp kvs =>
      obtain ⟨b', hb', hmp⟩ := this
      have hne : b' ≠ b := fun e => by have := (h.dis false d true d' b hm ⟨_, hd', trivial, e ▸ hb'⟩).1; cases this
      exact ⟨b', hb', hmp.mono (hblk _ hne) (hrep hno) fun o => by obtain ⟨es, ck, _, _, h3⟩ := hmp; exact h3 o⟩
    | mpz ks us => obtain ⟨b2, hb2, hmz⟩ := this; exact ⟨b2, hb2, (hrep hno) hmz⟩
  · obtain ⟨es', h4, h5⟩ := h.rego d' b' hb'
    by_cases hdd : d = d'
    · subst hdd; exact ⟨.mp kvs', by simp [lookA_putA], trivial⟩
    · exact ⟨es', by simp only [lookA_putA, if_neg hdd]; exact h4, h5⟩
  · obtain ⟨u, f, h4⟩ := h.regt d' t ht
    refine ⟨u, f, ?_⟩
    simp only [lookA_putA]
    by_cases hdd : d = d'
    · subst hdd; rw [hd] at h4; cases h4
    · rw [if_neg hdd]; exact h4

/-- A map of those around is written. -/
theorem SR.mapWriteUp (h : SR gl En x w V l ts st) {d b : Nat} {kvs kvs' : List (AV S × AV S)} (hd : lookA st.up d = some (.mp kvs)) (ho : l.up d = some b) {es : Array MapEntry} {ck : Nat}
    (hr : All2 (fun (e : MapEntry) (p : AV S × AV S) => Rep w V Loc.none e.key p.1 ∧ Rep w V Loc.none e.val p.2) es.toList kvs') (hstp : Stamps es ck) : SR gl En x (w.putObj b (.map es ck)) V l ts { st with up := putA st.up d (.mp kvs') } := by
  have hm : Mut l st true d b := ⟨_, hd, trivial, ho⟩
  obtain ⟨b', hb', es0, ck0, h1, h2, h3⟩ := h.up _ _ hd
  rw [ho] at hb'; cases hb'
  have hb := lt_of_heap h1
  have hVb : ∀ b' o, V b' o → b' ≠ b := fun b' o hv e => h3 o (e ▸ hv)
  have hblk : ∀ b', b' ≠ b → (w.putObj b (.map es ck)).heap[b']? = w.heap[b']? := fun b' hne => World.putObj_heap_other hne
  have hc : ∀ b' o, V b' o → eye (w.putObj b (.map es ck)) b' o = eye w b' o := fun b' o hv => cell_congr (hblk _ (hVb b' o hv)) o
  have hsz : (w.putObj b (.map es ck)).heap.size = w.heap.size := by simp [World.putObj]
  have htk : ∀ d' b' n cap, l.tok d' = some (.at b' n cap) → b' ≠ b := fun d' b' n cap ht e => by
    obtain ⟨u, f, hreg⟩ := h.regt _ _ ht
    have := (h.dis false d' true d b ⟨_, hreg, n, cap, e ▸ ht⟩ hm).1
    cases this
  have hrep : ∀ {l1 : Loc} {vs : List Value} {es' : List (AV S)}, (∀ d t, l1.tok d = some t → l.tok d = some t) → Reps w V l1 vs es' → Reps (w.putObj b (.map es ck)) V l1 vs es' := fun hl1 hr =>
    hr.mono (fun _ _ h => h) hc _ (Loc.le_refl _) fun d' b' n cap ht o _ => cell_congr (hblk _ (htk d' b' n cap (hl1 _ _ ht))) o
  have hat : ∀ {b' o : Nat} {ws : List Value}, CellsAt w V b' o ws → CellsAt (w.putObj b (.map es ck)) V b' o ws := fun h => h.mono (fun _ _ h => h) hc
  have hno : ∀ d t, Loc.none.tok d = some t → l.tok d = some t := fun d t e => by simp [Loc.none] at e
  have hnk : ∀ d t, l.notok.tok d = some t → l.tok d = some t := fun d t e => by simp [Loc.notok] at e
  have hk : Keep (En.E x) w (w.putObj b (.map es ck)) := ⟨rfl, rfl, rfl, by rw [hsz]; exact Nat.le_refl _, fun b' hE => hblk _ fun e => (h.mine _ _ _ hm).1 (e ▸ hE)⟩
  have hMM : ∀ {k d' b'}, Mut l { st with up := putA st.up d (.mp kvs') } k d' b' → Mut l st k d' b' := by
    intro k d' b' hm'
    cases k with
    | true =>
      obtain ⟨ao', h4, h5⟩ := hm'
      simp only [lookA_putA] at h4
      by_cases hdd : d = d'
      · subst hdd; exact ⟨_, hd, trivial, h5.2⟩
      · rw [if_neg hdd] at h4; exact ⟨_, h4, h5⟩
    | false => exact hm'
  refine ⟨h.le, h.cb.world (fun _ _ h => h) hc, En.stable _ _ _ h.inv hk, gl.st _ _ h.g hk.size fun b' hb' o => cell_congr (hblk b' fun e => by have := (h.mine _ _ _ hm).2; omega) o,
    fun b' o hv => by rw [hsz]; exact h.vlt b' o hv, h.vem, h.sz, fun i c' hi => hrep (fun _ _ h => h) (h.tmps i c' hi), fun d' ao' hd' => ?_, fun d' ao' hd' => ?_, h.rego, h.regt,
    fun k d' b' hm' => h.mine k d' b' (hMM hm'), fun k d1 k' d2 b' h4 h5 => h.dis k d1 k' d2 b' (hMM h4) (hMM h5)⟩
  · have := h.seg d' ao' hd'
    cases ao' with
    | cells es' =>
      obtain ⟨b', hb', c', el', h4, h5, h6⟩ := this
      have hne : b' ≠ b := fun e => by have := (h.dis true d false d' b hm ⟨_, hd', e ▸ hb'⟩).1; cases this
      exact ⟨b', hb', c', el', by rw [hblk _ hne]; exact h4, hrep (fun _ _ h => h) h5, h6⟩
    | frz es' =>
      obtain ⟨b', ws, hb', h4, h5⟩ := this
      exact ⟨b', ws, hb', hat h4, hrep hno h5⟩
    | row u f =>
      obtain ⟨t, ht, h4⟩ := this
      refine ⟨t, ht, ?_⟩
      cases t with
      | no => trivial
      | «at» b' n cap =>
        obtain ⟨c', el', h5, h6⟩ := h4
        exact ⟨c', el', by rw [hblk _ (htk _ _ _ _ ht)]; exact h5, h6⟩
    | mp kvs =>
      obtain ⟨b', hb', hmp⟩ := this
      have hne : b' ≠ b := fun e => by have := (h.dis true d false d' b hm ⟨_, hd', e ▸ hb'⟩).1; cases this
      exact ⟨b', hb', hmp.mono (hblk _ hne) (hrep hno) fun o => by obtain ⟨es, ck, _, _, h3⟩ := hmp; exact h3 o⟩
    | mpz ks us => obtain ⟨b2, hb2, hmz⟩ := this; exact ⟨b2, hb2, (hrep hno) hmz⟩
  · simp only [lookA_putA] at hd'
    by_cases hdd : d = d'
    · subst hdd; rw [if_pos rfl] at hd'; cases hd'
      refine ⟨b, ho, es, ck, World.putObj_heap_same hb, ⟨?_, hstp⟩, h3⟩
      have hgo : ∀ {L : List MapEntry} {M : List (AV S × AV S)}, All2 (fun (e : MapEntry) (p : AV S × AV S) => Rep w V Loc.none e.key p.1 ∧ Rep w V Loc.none e.val p.2) L M →
          All2 (fun (e : MapEntry) (p : AV S × AV S) => Rep (w.putObj b (.map es ck)) V Loc.none e.key p.1 ∧ Rep (w.putObj b (.map es ck)) V Loc.none e.val p.2) L M := fun h => by
        induction h with
        | nil => exact .nil
        | cons h _ ih => exact .cons ⟨hrep hno h.1, hrep hno h.2⟩ ih
      exact hgo hr
    · rw [if_neg hdd] at hd'
      have := h.up d' ao' hd'
      cases ao' with
      | cells es' =>
        obtain ⟨b', hb', c', el', h4, h5, h6⟩ := this
        have hne : b' ≠ b := fun e => hdd (h.dis true d true d' b hm ⟨_, hd', trivial, e ▸ hb'⟩).2
        exact ⟨b', hb', c', el', by rw [hblk _ hne]; exact h4, hrep hnk h5, h6⟩
      | frz es' =>
        obtain ⟨b', ws, hb', h4, h5⟩ := this
        exact ⟨b', ws, hb', hat h4, hrep hno h5⟩
      | row u f => trivial
      | mp kvs =>
        obtain ⟨b', hb', hmp⟩ := this
        have hne : b' ≠ b := fun e => hdd (h.dis true d true d' b hm ⟨_, hd', trivial, e ▸ hb'⟩).2
        exact ⟨b', hb', hmp.mono (hblk _ hne) (hrep hno) fun o => by obtain ⟨es, ck, _, _, h3⟩ := hmp; exact h3 o⟩

      | mpz ks us => obtain ⟨b2, hb2, hmz⟩ := this; exact ⟨b2, hb2, (hrep hno) hmz⟩
/-- An entry of a map. -/
abbrev EntR (w : World) (V : Nat → Nat → Prop) (e : MapEntry) (p : AV S × AV S) : Prop := Rep w V Loc.none e.key p.1 ∧ Rep w V Loc.none e.val p.2

/-- What is found, and what is told: and how the map is with another value there. -/
def FoundR (w : World) (V : Nat → Nat → Prop) (keq : AV S → AV S → Option Bool) (k : AV S) (v : Value) (i : Nat) (es : List MapEntry) (kvs : List (AV S × AV S)) (r : Option (AV S)) (r' : Option (Nat × Value)) : Prop :=
  match r, r' with
  | none, none => True
  | some c, some (j, u) => Rep w V Loc.none u c ∧ ∃ n e, j = i + n ∧ es[n]? = some e ∧ e.key = v ∧ Instr.sameBits 10000 e.key v = true ∧
      ∀ (u' : Value) (c' : AV S), Rep w V Loc.none u' c' → All2 (EntR w V) (es.modify n fun e => { e with key := v, val := u' }) (setM keq k c' kvs)
  | _, _ => False

theorem FoundR.next {keq : AV S → AV S → Option Bool} {k k' c : AV S} {v : Value} {i : Nat} {e : MapEntry} {es : List MapEntry} {kvs : List (AV S × AV S)} {r : Option (AV S)} {r' : Option (Nat × Value)} (hq : keq k k' = some false) (he : EntR w V e (k', c))
    (h : FoundR w V keq k v (i + 1) es kvs r r') : FoundR w V keq k v i (e :: es) ((k', c) :: kvs) r r' := by
  unfold FoundR at h ⊢
  cases r with
  | none => cases r' <;> exact h
  | some d =>
    cases r' with
    | none => exact h
    | some q =>
      obtain ⟨j, u⟩ := q
      obtain ⟨h1, n, e', rfl, h3, h4, h5, h6⟩ := h
      refine ⟨h1, n + 1, e', by omega, by simpa using h3, h4, h5, fun u' c' hu => ?_⟩
      simp only [setM, hq, List.modify_succ_cons]
      exact .cons he (h6 u' c' hu)

theorem find_run {P : Program} {m : MapI S} {key : TypeId} {kd : TypeDesc} {k : AV S} {v : Value} (hk : ∀ k k' b, m.keq k k' = some b → ∀ (w : World) V V' l l' v v', Rep w V l v k → Rep w V' l' v' k' →
    (∀ e, (Instr.checkKey e 10000 key v).run P w = .ok () w) ∧ (Op.equal key v v').run P w = .ok b w ∧ (Instr.sameNow kd v v' = some b ∨ Instr.sameNow kd v v' = none) ∧ (b = true → v' = v ∧ Instr.sameBits 10000 v' v = true)) (hv : Rep w V l v k) :
    ∀ {es : List MapEntry} {kvs : List (AV S × AV S)}, All2 (EntR w V) es kvs → ∀ {r : Option (AV S)}, lookM m.keq k kvs = some r →
    (∀ e, (Instr.checkKey e 10000 key v).run P w = .ok () w) ∧ ∀ i, (Instr.findNow kd v es i = none ∨ ∃ r', Instr.findNow kd v es i = some r' ∧ FoundR w V m.keq k v i es kvs r r') ∧ ∃ r', (Instr.findAsking key v es i).run P w = .ok r' w ∧ FoundR w V m.keq k v i es kvs r r' := by
  intro es kvs h
  induction h with
  | nil =>
    intro r hr
    simp only [lookM] at hr
    cases hq : m.keq k k with
    | none => rw [hq] at hr; cases hr
    | some b =>
      rw [hq] at hr; cases hr
      exact ⟨(hk _ _ _ hq w V V l l v v hv hv).1, fun i => ⟨.inr ⟨none, rfl, trivial⟩, none, rfl, trivial⟩⟩
  | @cons e p es kvs hp hes ih =>
    intro r hr
    obtain ⟨k', c⟩ := p
    simp only [lookM] at hr
    cases hq : m.keq k k' with
    | none => rw [hq] at hr; cases hr
    | some b =>
      obtain ⟨h1, h2, h3, hsame⟩ := hk _ _ _ hq w V V l Loc.none v e.key hv hp.1
      rw [hq] at hr
      refine ⟨h1, fun i => ?_⟩
      cases b with
      | true =>
        cases hr
        obtain ⟨hke, hbt⟩ := hsame rfl
        have hF : FoundR w V m.keq k v i (e :: es) ((k', c) :: kvs) (some c) (some (i, e.val)) := by
          refine ⟨hp.2, 0, e, rfl, rfl, hke, hbt, fun u' c' hu => ?_⟩
          simp only [setM, hq, List.modify_zero_cons]
          exact .cons ⟨by show Rep w V Loc.none v k'; rw [← hke]; exact hp.1, hu⟩ hes
        refine ⟨?_, some (i, e.val), by simp [Instr.findAsking, Sem.run_bind, h2, Result.andThen, Pure.pure], hF⟩
        rcases h3 with h3 | h3
        · exact .inr ⟨some (i, e.val), by simp [Instr.findNow, h3], hF⟩
        · exact .inl (by simp [Instr.findNow, h3])
      | false =>
        obtain ⟨_, h4⟩ := ih hr
        obtain ⟨h5, r', h6, h7⟩ := h4 (i + 1)
        refine ⟨?_, r', by simp [Instr.findAsking, Sem.run_bind, h2, Result.andThen, h6], h7.next hq hp⟩
        rcases h3 with h3 | h3
        · simp only [Instr.findNow, h3]
          rcases h5 with h5 | ⟨r2, h5, h8⟩
          · exact .inl h5
          · exact .inr ⟨r2, h5, h8.next hq hp⟩
        · exact .inl (by simp [Instr.findNow, h3])

theorem findKey_run {P : Program} {key : TypeId} {kd : TypeDesc} {v : Value} {es : List MapEntry} {R : Option (Nat × Value) → Prop} (hkd : P.underlying key = some kd)
    (h : ∀ i, (Instr.findNow kd v es i = none ∨ ∃ r', Instr.findNow kd v es i = some r' ∧ (i = 0 → R r')) ∧ ∃ r', (Instr.findAsking key v es i).run P w = .ok r' w ∧ (i = 0 → R r')) :
    ∃ r', (Instr.findKey key v es).run P w = .ok r' w ∧ R r' := by
  obtain ⟨h1, r', h2, h3⟩ := h 0
  rcases h1 with h1 | ⟨r2, h1, h4⟩
  · exact ⟨r', by simp [Instr.findKey, Sem.run_bind, run_underlying hkd, Result.andThen, h1, h2], h3 rfl⟩
  · exact ⟨r2, by simp [Instr.findKey, Sem.run_bind, run_underlying hkd, Result.andThen, h1, Pure.pure], h4 rfl⟩

omit [Cod S] in
theorem bareB_cons {c : AV S} {cs : List (AV S)} (h : bareB (c :: cs) = true) : NotArr c ∧ bareB cs = true := by
  cases c <;> first | exact ⟨trivial, h⟩ | cases h

theorem frz_all2 : ∀ {es : List MapEntry} {ks us : List (AV S)}, bareB ks = true → bareB us = true → Reps w V Loc.none (es.map fun e => e.key) ks → Reps w V Loc.none (es.map fun e => e.val) us → All2 (EntR w V) es (ks.zip us)
  | [], ks, us, hk, _, h1, _ => by
    cases ks with
    | nil => exact .nil
    | cons c ks => obtain ⟨v, vs, he, _⟩ := h1.head (bareB_cons hk).1; cases he
  | e :: es, ks, us, hk, hu, h1, h2 => by
    cases ks with
    | nil => have := h1.nil_inv; cases this
    | cons c ks =>
      cases us with
      | nil => have := h2.nil_inv; cases this
      | cons d us =>
        obtain ⟨v, vs, he, h3, h4⟩ := h1.head (bareB_cons hk).1
        obtain ⟨v', vs', he', h5, h6⟩ := h2.head (bareB_cons hu).1
        simp only [List.map_cons, List.cons.injEq] at he he'
        obtain ⟨rfl, rfl⟩ := he
        obtain ⟨rfl, rfl⟩ := he'
        exact .cons ⟨h3, h5⟩ (frz_all2 (bareB_cons hk).2 (bareB_cons hu).2 h4 h6)

theorem Rep.mpf {v : Value} {ks us : List (AV S)} (h : Rep w V l v (.mpf ks us : AV S)) : ∃ b, v = .map (some b) ∧ MapFrz w V b ks us := by
  unfold Rep at h
  generalize hvs : [v] = vs at h
  cases h with
  | flat h t => exact h.elim
  | mpf hv hm hb r r' t => cases hvs; exact ⟨_, rfl, Reps.mpf hv hm hb r r' (.nil _)⟩

theorem Rep.mpu {v : Value} {d : Nat} (h : Rep w V l v (.mpu d : AV S)) : ∃ b, l.up d = some b ∧ v = .map (some b) := by
  unfold Rep at h
  generalize hvs : [v] = vs at h
  cases h with
  | flat h t => cases hvs; exact h

theorem Rep.mpv {v : Value} {d : Nat} (h : Rep w V l v (.mpv d : AV S)) : ∃ b, l.own d = some b ∧ v = .map (some b) := by
  unfold Rep at h
  generalize hvs : [v] = vs at h
  cases h with
  | flat h t => cases hvs; exact h

variable [LawCod S]

omit [LawCod S] in
theorem makeMap_ok {d t : Nat} {r : Option Operand} (hs : SR gl En x w V l a.tmps st)
    (h : match r with
    | none => findK par.mi t False fun _ => findK st.seg d (putK st.seg d (.mp []) fun sg => K (.mpv d) { st with seg := sg } x) fun _ => False
    | some _ => False) : VOK P gl En a w (Instr.makeMap t (r.map a.eval)) K := by
  cases r with
  | some y => exact h.elim
  | none =>
    simp only at h
    rw [findK_eq] at h
    cases hm : lookA par.mi t with
    | none => rw [hm] at h; exact h.elim
    | some m =>
      rw [hm] at h
      simp only at h
      rw [findK_eq] at h
      cases hl : lookA st.seg d with
      | some ao => rw [hl] at h; exact h.elim
      | none =>
        rw [hl] at h
        simp only [putK_eq] at h
        obtain ⟨l', _, hs', hr⟩ := SR.newMap hs hl 0
        exact ⟨_, _, (rfl : (Instr.makeMap t none).run P w = .ok (.map (some w.heap.size)) (w.alloc (.map #[] 0))), _, _, x, V, l', h, hs', hr⟩

omit [LawCod S] in
theorem mapK1_elim (hs : SR gl En x w V l ts st) {v : Value} {mv : AV S} (hmv : Rep w V l v mv) {K : List (AV S × AV S) → Prop} (h : mapK1 mv st K) :
    ∃ kvs b es ck, K kvs ∧ v = .map (some b) ∧ w.heap[b]? = some (.map es ck) ∧ All2 (EntR w V) es.toList kvs := by
  have hfz : ∀ {b : Nat} {ks us : List (AV S)}, MapFrz w V b ks us → K (ks.zip us) → v = .map (some b) → ∃ kvs b es ck, K kvs ∧ v = .map (some b) ∧ w.heap[b]? = some (.map es ck) ∧ All2 (EntR w V) es.toList kvs := fun hm hK hv => by
    obtain ⟨es, ck, _, h2, h3, h4, h5⟩ := hm.inv
    exact ⟨_, _, es, ck, hK, hv, h2, frz_all2 h3.1 h3.2 h4 h5⟩
  unfold mapK1 at h
  cases mv with
  | mpv e =>
    simp only at h
    rw [findK_eq] at h
    cases hl : lookA st.seg e with
    | none => rw [hl] at h; exact h.elim
    | some ao =>
      rw [hl] at h
      obtain ⟨b, hb, hv⟩ := hmv.mpv
      cases ao with
      | mp kvs =>
        obtain ⟨b', hb', es, ck, h1, ⟨h2, _⟩, h3⟩ := hs.seg _ _ hl
        rw [hb] at hb'; cases hb'
        exact ⟨kvs, b, es, ck, h, hv, h1, h2⟩
      | mpz ks us =>
        obtain ⟨b', hb', hm⟩ := hs.seg _ _ hl
        rw [hb] at hb'; cases hb'
        exact hfz hm h hv
      | _ => exact h.elim
  | mpu e =>
    simp only at h
    rw [findK_eq] at h
    cases hl : lookA st.up e with
    | none => rw [hl] at h; exact h.elim
    | some ao =>
      rw [hl] at h
      obtain ⟨b, hb, hv⟩ := hmv.mpu
      cases ao with
      | mp kvs =>
        obtain ⟨b', hb', es, ck, h1, ⟨h2, _⟩, h3⟩ := hs.up _ _ hl
        rw [hb] at hb'; cases hb'
        exact ⟨kvs, b, es, ck, h, hv, h1, h2⟩
      | mpz ks us =>
        obtain ⟨b', hb', hm⟩ := hs.up _ _ hl
        rw [hb] at hb'; cases hb'
        exact hfz hm h hv
      | _ => exact h.elim
  | mpf ks us =>
    obtain ⟨b, hv, hm⟩ := hmv.mpf
    exact hfz hm h hv
  | _ => exact h.elim

omit [LawCod S] in
theorem lookup_ok (htis : TisOk P par.ti) (hmi : ∀ t m, lookA par.mi t = some m → MapOk P t m) {t : Nat} {y i : Operand} {ok : Bool} (hs : SR gl En x w V l a.tmps st)
    (h : findK par.mi t False fun m => tyK par m.elem fun ty => evK st.tmps y fun mv => evK st.tmps i fun iv => mapK1 mv st fun kvs => optK (lookM m.keq iv kvs) fun r => oneK ty.zero fun z => match ok with
      | true => K (.tup [lkv r z, .bool r.isSome]) st x
      | false => K (lkv r z) st x) : VOK P gl En a w (Instr.lookup t (a.eval y) (a.eval i) ok) K := by
  rw [findK_eq] at h
  cases hm : lookA par.mi t with
  | none => rw [hm] at h; exact h.elim
  | some m =>
    rw [hm] at h
    obtain ⟨key, kd, hut, huk, hzz, hkeq⟩ := hmi _ _ hm
    simp only at h
    obtain ⟨ty, h, hty⟩ := tyK_elim htis h
    obtain ⟨mv, h, hmv⟩ := evK_elim hs h
    obtain ⟨iv, h, hiv⟩ := evK_elim hs h
    obtain ⟨kvs, b, es, ck, h, hv, h1, h2⟩ := mapK1_elim hs hmv h
    obtain ⟨r, hr, h⟩ := h
    obtain ⟨c, h, h8⟩ := oneK_elim h
    obtain ⟨h4, h5⟩ := find_run (P := P) hkeq hiv h2 hr
    obtain ⟨r', h6, h7⟩ := findKey_run (R := FoundR w V m.keq iv (a.eval i) 0 es.toList kvs r) huk fun i => ⟨(h5 i).1.imp id fun ⟨r', h8, h9⟩ => ⟨r', h8, fun e => by subst e; exact h9⟩, by
      obtain ⟨r', h8, h9⟩ := (h5 i).2
      exact ⟨r', h8, fun e => by subst e; exact h9⟩⟩
    have hget : (getObj b).run P w = .ok (.map es ck) w := by simp [getObj, Sem.run, h1]
    have hrun : ∀ {u : Value} {z : Bool}, (match r' with | some (_, v) => v = u ∧ z = true | none => z = false ∧ (zeroValue m.elem).run P w = .ok u w) →
        (Instr.lookup t (.map (some b)) (a.eval i) ok).run P w = .ok (if ok then .tuple #[u, .bool z] else u) w := fun {u z} hu => by
      simp only [Instr.lookup, Sem.run_bind, run_underlying hut, Result.andThen, hget]
      simp only [Pure.pure, Sem.run, h4, h6]
      cases r' with
      | some p => obtain ⟨j, v⟩ := p; obtain ⟨rfl, rfl⟩ := hu; cases ok <;> rfl
      | none => obtain ⟨rfl, hu⟩ := hu; simp only [Sem.run_bind, hu, Result.andThen]; cases ok <;> rfl
    rw [hv]
    cases r with
    | some c' =>
      cases r' with
      | none => exact h7.elim
      | some p =>
        obtain ⟨j, u⟩ := p
        have hru := hrun (u := u) (z := true) ⟨rfl, rfl⟩
        have h7 : Rep w V Loc.none u c' := h7.1
        cases ok with
        | true => exact ⟨_, w, hru, _, _, x, V, l, h, hs, Reps.tup (c := #[u, .bool true]) ((h7.of_none l).append (Rep.flat1 rfl)) (.nil _)⟩
        | false => exact ⟨_, w, hru, _, _, x, V, l, h, hs, h7.of_none l⟩
    | none =>
      cases r' with
      | some p => exact h7.elim
      | none =>
        obtain ⟨inf, z, hi, hsz, hz, hz0⟩ := hty.info
        obtain ⟨inf', z', hi', hz', hzc⟩ := hzz
        rw [hi] at hi'; cases hi'
        rw [hz] at hz'; cases hz'
        have hzr := (hz0 w V).1
        rw [hzc] at hzr
        obtain ⟨v, vs, he, h9⟩ := h8 _ _ _ _ hzr
        have := (List.cons.inj he).1
        subst this
        have hru := hrun (u := z) (z := false) ⟨rfl, run_zeroValue hi hz⟩
        cases ok with
        | true => exact ⟨_, w, hru, _, _, x, V, l, h, hs, Reps.tup (c := #[z, .bool false]) ((h9.of_none l).append (Rep.flat1 rfl)) (.nil _)⟩
        | false => exact ⟨_, w, hru, _, _, x, V, l, h, hs, h9.of_none l⟩

theorem mapUpdate_ok (hmi : ∀ t m, lookA par.mi t = some m → MapOk P t m) {t : Nat} {y i v : Operand} (hs : SR gl En x w V l a.tmps st)
    (h : findK par.mi t False fun m => evK st.tmps y fun mv => evK st.tmps i fun iv => evK st.tmps v fun vv => match mv with
    | .mpv e => outK 20 iv st.seg fun iv' sg => outK 20 vv sg fun vv' sg' => findK sg' e False fun
      | .mp kvs => optK (lookM m.keq iv' kvs) fun r => match r with
        | some _ => putK sg' e (.mp (setM m.keq iv' vv' kvs)) fun sg'' => K .skip { st with seg := sg'' } x
        | none => putK sg' e (.mp (kvs ++ [(iv', vv')])) fun sg'' => K .skip { st with seg := sg'' } x
      | _ => False
    | .mpu e => outK 20 iv st.seg fun iv' sg => outK 20 vv sg fun vv' sg' => findK st.up e False fun
      | .mp kvs => optK (lookM m.keq iv' kvs) fun r => match r with
        | some _ => False
        | none => putK st.up e (.mp (kvs ++ [(iv', vv')])) fun up => K .skip { st with seg := sg', up := up } x
      | _ => False
    | _ => False) : ∃ w', (Instr.mapUpdate t (a.eval y) (a.eval i) (a.eval v)).run P w = .ok () w' ∧ Res gl En a K Go.undef w' := by
  rw [findK_eq] at h
  cases hm : lookA par.mi t with
  | none => rw [hm] at h; exact h.elim
  | some m =>
    rw [hm] at h
    obtain ⟨key, kd, hut, huk, hzz, hkeq⟩ := hmi _ _ hm
    simp only at h
    obtain ⟨mv, h, hmv⟩ := evK_elim hs h
    obtain ⟨iv, h, hiv⟩ := evK_elim hs h
    obtain ⟨vv, h, hvv⟩ := evK_elim hs h
    cases mv with
    | mpv e =>
      simp only at h
      obtain ⟨iv', sg1, h, ho1⟩ := (outK_elim 20).1 _ _ _ h
      obtain ⟨vv', sg2, h, ho2⟩ := (outK_elim 20).1 _ _ _ h
      obtain ⟨V1, hV1, hs1, _, hr1⟩ := ho1.out hs
      obtain ⟨V2, hV2, hs2, _, hr2⟩ := ho2.out hs1
      have hi2 : Rep w V2 Loc.none (a.eval i) iv' := (hr1 _ hiv).more hV2 (Loc.le_refl _)
      have hv2 : Rep w V2 Loc.none (a.eval v) vv' := hr2 _ (hvv.more hV1 (Loc.le_refl _))
      rw [findK_eq] at h
      cases hl : lookA sg2 e with
      | none => rw [hl] at h; exact h.elim
      | some ao =>
        rw [hl] at h
        cases ao with
        | mp kvs =>
          obtain ⟨r, hr, h⟩ := h
          obtain ⟨b, hb, hv⟩ := hmv.mpv
          obtain ⟨b', hb', es, ck, h1, ⟨h2, hstp⟩, h3⟩ := hs2.seg _ _ hl
          rw [hb] at hb'; cases hb'
          obtain ⟨h4, h5⟩ := find_run (P := P) hkeq hi2 h2 hr
          obtain ⟨r', h6, h7⟩ := findKey_run (R := FoundR w V2 m.keq iv' (a.eval i) 0 es.toList kvs r) huk fun i => ⟨(h5 i).1.imp id fun ⟨r', h8, h9⟩ => ⟨r', h8, fun e => by subst e; exact h9⟩, by
            obtain ⟨r', h8, h9⟩ := (h5 i).2
            exact ⟨r', h8, fun e => by subst e; exact h9⟩⟩
          have hget : (getObj b).run P w = .ok (.map es ck) w := by simp [getObj, Sem.run, h1]
          cases r with
          | some c =>
            cases r' with
            | none => exact h7.elim
            | some q =>
              obtain ⟨j, u⟩ := q
              obtain ⟨_, n, e0, hj, hn, hke, hbt, hset⟩ := h7
              obtain rfl : j = n := by omega
              rw [putK_eq] at h
              rw [hv]
              have hset := hset (a.eval v) vv' hv2
              have hrunS : (setObj b (.map (es.modify j fun e => { e with key := a.eval i, val := a.eval v }) ck)).run P w = .ok () (w.putObj b (.map (es.modify j fun e => { e with key := a.eval i, val := a.eval v }) ck)) := by
                simp [setObj, Sem.run, h1, World.putObj]
              have hsr := SR.mapWrite hs2 hl hb (es := es.modify j fun e => { e with key := a.eval i, val := a.eval v }) (ck := ck) (kvs' := setM m.keq iv' vv' kvs) (by rw [Array.toList_modify]; exact hset) (hstp.modify fun _ => rfl)
              refine ⟨_, ?_, .skip, _, x, V2, l, h, hsr, Rep.flat1 rfl⟩
              have hold : ((es[j]?.map fun e => e.key).getD (a.eval i)) = e0.key := by
                have : es[j]? = some e0 := by simpa using hn
                rw [this]; rfl
              simp only [Instr.mapUpdate, Sem.run_bind, run_underlying hut, Result.andThen, hget]
              simp only [h4, h6, Sem.run_bind, Instr.keyThatStays, hold, hbt, if_true, Pure.pure, Sem.run, Result.andThen]
              exact hrunS
          | none =>
            cases r' with
            | some p => exact h7.elim
            | none =>
              simp only [putK_eq] at h
              rw [hv]
              have hset : (setObj b (.map (es.push { key := a.eval i, val := a.eval v, born := ck }) (ck + 1))).run P w = .ok () (w.putObj b (.map (es.push { key := a.eval i, val := a.eval v, born := ck }) (ck + 1))) := by
                simp [setObj, Sem.run, h1, World.putObj]
              have hgo : ∀ {L : List MapEntry} {M : List (AV S × AV S)}, All2 (fun (e : MapEntry) (p : AV S × AV S) => Rep w V2 Loc.none e.key p.1 ∧ Rep w V2 Loc.none e.val p.2) L M →
                  All2 (fun (e : MapEntry) (p : AV S × AV S) => Rep w V2 Loc.none e.key p.1 ∧ Rep w V2 Loc.none e.val p.2) (L ++ [{ key := a.eval i, val := a.eval v, born := ck }]) (M ++ [(iv', vv')]) := fun h => by
                induction h with
                | nil => exact .cons ⟨hi2, hv2⟩ .nil
                | cons h _ ih => exact .cons h ih
              have hsr := SR.mapWrite hs2 hl hb (es := es.push { key := a.eval i, val := a.eval v, born := ck }) (ck := ck + 1) (kvs' := kvs ++ [(iv', vv')]) (by rw [Array.toList_push]; exact hgo h2) (hstp.push rfl)
              refine ⟨_, ?_, .skip, _, x, V2, l, h, hsr, Rep.flat1 rfl⟩
              simp only [Instr.mapUpdate, Sem.run_bind, run_underlying hut, Result.andThen, hget]
              simp only [h4, h6, hset]
        | _ => exact h.elim
    | mpu e =>
      simp only at h
      obtain ⟨iv', sg1, h, ho1⟩ := (outK_elim 20).1 _ _ _ h
      obtain ⟨vv', sg2, h, ho2⟩ := (outK_elim 20).1 _ _ _ h
      obtain ⟨V1, hV1, hs1, _, hr1⟩ := ho1.out hs
      obtain ⟨V2, hV2, hs2, _, hr2⟩ := ho2.out hs1
      have hi2 : Rep w V2 Loc.none (a.eval i) iv' := (hr1 _ hiv).more hV2 (Loc.le_refl _)
      have hv2 : Rep w V2 Loc.none (a.eval v) vv' := hr2 _ (hvv.more hV1 (Loc.le_refl _))
      rw [findK_eq] at h
      cases hl : lookA st.up e with
      | none => rw [hl] at h; exact h.elim
      | some ao =>
        rw [hl] at h
        cases ao with
        | mp kvs =>
          obtain ⟨r, hr, h⟩ := h
          obtain ⟨b, hb, hv⟩ := hmv.mpu
          obtain ⟨b', hb', es, ck, h1, ⟨h2, hstp⟩, h3⟩ := hs2.up _ _ hl
          rw [hb] at hb'; cases hb'
          obtain ⟨h4, h5⟩ := find_run (P := P) hkeq hi2 h2 hr
          obtain ⟨r', h6, h7⟩ := findKey_run (R := FoundR w V2 m.keq iv' (a.eval i) 0 es.toList kvs r) huk fun i => ⟨(h5 i).1.imp id fun ⟨r', h8, h9⟩ => ⟨r', h8, fun e => by subst e; exact h9⟩, by
            obtain ⟨r', h8, h9⟩ := (h5 i).2
            exact ⟨r', h8, fun e => by subst e; exact h9⟩⟩
          have hget : (getObj b).run P w = .ok (.map es ck) w := by simp [getObj, Sem.run, h1]
          cases r with
          | some c => exact h.elim
          | none =>
            cases r' with
            | some p => exact h7.elim
            | none =>
              rw [putK_eq] at h
              rw [hv]
              have hset : (setObj b (.map (es.push { key := a.eval i, val := a.eval v, born := ck }) (ck + 1))).run P w = .ok () (w.putObj b (.map (es.push { key := a.eval i, val := a.eval v, born := ck }) (ck + 1))) := by
                simp [setObj, Sem.run, h1, World.putObj]
              have hgo : ∀ {L : List MapEntry} {M : List (AV S × AV S)}, All2 (fun (e : MapEntry) (p : AV S × AV S) => Rep w V2 Loc.none e.key p.1 ∧ Rep w V2 Loc.none e.val p.2) L M →
                  All2 (fun (e : MapEntry) (p : AV S × AV S) => Rep w V2 Loc.none e.key p.1 ∧ Rep w V2 Loc.none e.val p.2) (L ++ [{ key := a.eval i, val := a.eval v, born := ck }]) (M ++ [(iv', vv')]) := fun h => by
                induction h with
                | nil => exact .cons ⟨hi2, hv2⟩ .nil
                | cons h _ ih => exact .cons h ih
              have hsr := SR.mapWriteUp hs2 hl hb (es := es.push { key := a.eval i, val := a.eval v, born := ck }) (ck := ck + 1) (kvs' := kvs ++ [(iv', vv')]) (by rw [Array.toList_push]; exact hgo h2) (hstp.push rfl)
              refine ⟨_, ?_, .skip, _, x, V2, l, h, hsr, Rep.flat1 rfl⟩
              simp only [Instr.mapUpdate, Sem.run_bind, run_underlying hut, Result.andThen, hget]
              simp only [h4, h6, hset]
        | _ => exact h.elim
    | _ => exact h.elim
end Go.Ab

namespace Go.Ab
open Go
variable {S : Sig} [Cod S]
variable {X : Type} {gl : Gl} {En : Env X} {x : X} {w w1 w' : World} {V V' : Nat → Nat → Prop} {l l0 : Loc} {ts : Array Value} {st : St S}
variable {P : Program} {par : Par S X} {a : Act} {K : AV S → St S → X → Prop} {ro : Option Nat} {n : Nat} {o : Oper}

theorem TyOk.und {t : Nat} {ty : TyI S} (h : TyOk P t ty) : ∃ d, P.underlying t = some d := by
  have hk := h.kind
  cases hty : ty.kind <;> rw [hty] at hk
  case bool => exact ⟨_, hk⟩
  case int => exact ⟨_, hk⟩
  case str => exact ⟨_, hk⟩
  case ptr => obtain ⟨e, h⟩ := hk; exact ⟨_, h⟩
  case func => obtain ⟨a, b, c, h⟩ := hk; exact ⟨_, h⟩
  case struct => obtain ⟨a, b, h, _⟩ := hk; exact ⟨_, h⟩
  case array => obtain ⟨a, b, h, _⟩ := hk; exact ⟨_, h⟩
  case slice => obtain ⟨a, b, c, h, _⟩ := hk; exact ⟨_, h⟩
  case map => obtain ⟨k, e, h⟩ := hk; exact ⟨_, h⟩

theorem VOK.op {s : Sem Value} (h : VOK P gl En a w s K) (hd : ∀ c, o.op ≠ .defer c) (he : execOp a.eval o = (do pure (Next.value (← s)) : Sem Next)) : OpOK ro n P o a w (Res gl En a K) := by
  obtain ⟨v, w', h1, h2⟩ := h
  exact OpOK.value hd (by rw [he]; exact run_v h1) h2

variable [LawCod S]

theorem append_ty {t t' : TypeId} {ty ty' : TyI S} {u u' : S.U} {b b' : Nat} {ez ez' : List (AV S)} (hty : TyOk P t ty) (hty' : TyOk P t' ty') (hk : ty.kind = .slice u b ez) (hk' : ty'.kind = .slice u' b' ez') :
    ∃ e i z, AppTy P t t' e i z (Cod.lim u) ∧ i.size = Cod.size u := by
  have h1 := hty.kind
  have h2 := hty'.kind
  rw [hk] at h1
  rw [hk'] at h2
  obtain ⟨e, i, z, g1, g2, g3, g4, g5, g6, g7, g8, g9⟩ := h1
  obtain ⟨e', i', z', k1, _⟩ := h2
  refine ⟨e, i, z, ⟨g1, ⟨e', k1⟩, g2, g7, ?_, by omega, by rw [g4]; exact g6.2⟩, g3⟩
  have := (g8 default (fun _ _ => False)).1.length
  rw [Array.length_toList] at this
  omega

omit [LawCod S] in
theorem moreK_bare {u : S.U} {y : AV S} {K : List (S.T u) → Prop} (h : moreK u y K) : NotArr y := by
  unfold moreK at h
  cases y <;> first | trivial | exact h.elim

omit [LawCod S] in
theorem appendK_bare {d : Nat} {u : S.U} {s y : AV S} {K : AV S → St S → Prop} (h : appendK d u s y st K) : NotArr s ∧ NotArr y := by
  unfold appendK at h
  cases s with
  | nils => exact ⟨trivial, moreK_bare h⟩
  | sl v xs o =>
    cases o with
    | none => exact h.elim
    | some e => obtain ⟨_, h⟩ := castL_elim h; exact ⟨trivial, moreK_bare h⟩
  | _ => exact h.elim

omit [LawCod S] in
theorem appendO_bare {d : Nat} {u : S.U} {s y : AV S} {K : AV S → St S → Prop} (h : appendO d u s y st K) : NotArr s ∧ NotArr y := by
  unfold appendO at h
  cases s with
  | sl v xs o =>
    cases o with
    | none => exact h.elim
    | some e => obtain ⟨_, h⟩ := castL_elim h; exact ⟨trivial, moreK_bare h⟩
  | _ => exact appendK_bare h

theorem builtin_ok {c : Call} {b : Builtin} (hpo : ParOk P gl par En) (hs : SR gl En x w V l a.tmps st) (ho : o.op = .call c) (hb : c.callee = .builtin b)
    (h : evLK st.tmps c.args.toList fun args => builtinK par (o.dst.getD 0) b c.argTypes.toList args st fun v st' => K v st' x) : OpOK ro n P o a w (Res gl En a K) := by
  obtain ⟨args, h, hl, hr⟩ := evLK_elim hs h
  have hd : ∀ c', o.op ≠ .defer c' := fun c' e => by rw [ho] at e; cases e
  have hex : ∀ {s : Sem Value}, builtin b c.argTypes o.type (c.args.map fun | .const _ => true | _ => false) (c.args.map a.eval) = (do pure (Next.value (← s)) : Sem Next) → ∀ {v : Value} {w' : World}, s.run P w = .ok v w' →
      (execOp a.eval o).run P w = .ok (.value v) w' := fun {s} he {v w'} hv => by
    simp only [execOp, ho, resolve, hb]
    show (builtin b c.argTypes o.type (c.args.map fun | .const _ => true | _ => false) (c.args.map a.eval)).run P w = _
    rw [he]
    exact run_v hv
  have hat : c.argTypes = c.argTypes.toList.toArray := by simp
  have hag : c.args.map a.eval = (c.args.toList.map a.eval).toArray := by apply Array.ext'; simp
  generalize c.argTypes.toList = tys at h hat
  generalize c.args.toList.map a.eval = vs at hr hag
  unfold builtinK at h
  split at h
  · -- len
    rename_i b' tys' args' t rest v hb0
    by_cases hv : NotArr v
    · obtain ⟨u, us, rfl, h1, h2⟩ := hr.head hv
      obtain rfl := h2.nil_inv
      obtain ⟨r, c', h3, h4, h5⟩ := len_ok (P := P) (st := st) (K := fun v st' => K v st' x) (rest := rest) (ty0 := o.type) hpo.ti h h1
      exact OpOK.value hd (hex (s := Builtin.len_ c.argTypes o.type (c.args.map a.eval)) rfl (by rw [hat, hag]; exact h3)) ⟨c', st, x, V, l, h4, hs, h5⟩
    · obtain ⟨ty, h, _⟩ := tyK_elim hpo.ti h
      cases v <;> first | exact absurd trivial hv | (cases hk : ty.kind <;> rw [hk] at h <;> exact h.elim)
  · -- append
    rename_i b' tys' args' t t' rest s y hb0
    obtain ⟨ty, h, hty⟩ := tyK_elim hpo.ti h
    obtain ⟨ty', h, hty'⟩ := tyK_elim hpo.ti h
    cases hk : ty.kind <;> rw [hk] at h <;> try exact h.elim
    rename_i u b' ez
    cases hk' : ty'.kind <;> rw [hk'] at h <;> try exact h.elim
    simp only at h
    obtain ⟨e, i, z, hat', hsz⟩ := append_ty hty hty' hk hk'
    cases how : par.ow with
    | false =>
      rw [how] at h
      simp only at h
      obtain ⟨hvs, hvy⟩ := appendK_bare h
      obtain ⟨us, _, rfl, h1, h2⟩ := hr.head hvs
      obtain ⟨uy, _, rfl, h3, h4⟩ := h2.head hvy
      obtain rfl := h4.nil_inv
      obtain ⟨v, w', c', st', V', l', hrun, hK, hs', hrep⟩ := append_ok (rest := rest) (type := o.type) hat' hsz hs h1 h3 h
      exact OpOK.value hd (hex (s := Builtin.append_ c.argTypes o.type (c.args.map a.eval)) rfl (by rw [hat, hag]; exact hrun)) ⟨c', st', x, V', l', hK, hs', hrep⟩
    | true =>
      rw [how] at h
      simp only at h
      obtain ⟨hvs, hvy⟩ := appendO_bare h
      obtain ⟨us, _, rfl, h1, h2⟩ := hr.head hvs
      obtain ⟨uy, _, rfl, h3, h4⟩ := h2.head hvy
      obtain rfl := h4.nil_inv
      obtain ⟨v, w', c', st', V', l', hrun, hK, hs', hrep⟩ := appendO_ok (rest := rest) (type := o.type) hat' hsz hs h1 h3 h
      exact OpOK.value hd (hex (s := Builtin.append_ c.argTypes o.type (c.args.map a.eval)) rfl (by rw [hat, hag]; exact hrun)) ⟨c', st', x, V', l', hK, hs', hrep⟩
  · -- copy
    rename_i b' tys' args' t rest s y hb0
    obtain ⟨hvs, hvy⟩ : NotArr s ∧ NotArr y := by
      obtain ⟨ty, h, _⟩ := tyK_elim hpo.ti h
      cases hk : ty.kind <;> rw [hk] at h <;> try exact h.elim
      cases s with
      | sl v' xs' o' => cases o' with
        | none => exact h.elim
        | some e => obtain ⟨_, h⟩ := castL_elim h; exact ⟨trivial, moreK_bare h⟩
      | _ => exact h.elim
    obtain ⟨us, _, rfl, h1, h2⟩ := hr.head hvs
    obtain ⟨uy, _, rfl, h3, h4⟩ := h2.head hvy
    obtain rfl := h4.nil_inv
    obtain ⟨v, w', c', st', V', l', hrun, hK, hs', hrep⟩ := copy_ok (K := fun v st' => K v st' x) (rest := rest) (type := o.type) hpo.ti hs h h1 h3
    exact OpOK.value hd (hex (s := Builtin.copy_ c.argTypes o.type (c.args.map a.eval)) rfl (by rw [hat, hag]; exact hrun)) ⟨c', st', x, V', l', hK, hs', hrep⟩
  · -- min
    rename_i b' tys' args' tys'' v cs hb0
    have hv : NotArr v := by cases v <;> first | trivial | (cases cs <;> simp [minK] at h)
    obtain ⟨u, us, rfl, h1, h2⟩ := hr.head hv
    obtain ⟨r, c', h3, h4, h5⟩ := min_run (P := P) h1 h2 h
    exact OpOK.value hd (hex (s := Builtin.min_ c.argTypes o.type (c.args.map a.eval)) rfl (by rw [hag]; exact h3)) ⟨c', st, x, V, l, h4, hs, h5⟩
  · -- max
    rename_i b' tys' args' tys'' v cs hb0
    have hv : NotArr v := by cases v <;> first | trivial | (cases cs <;> simp [minK] at h)
    obtain ⟨u, us, rfl, h1, h2⟩ := hr.head hv
    obtain ⟨r, c', h3, h4, h5⟩ := max_run (P := P) h1 h2 h
    exact OpOK.value hd (hex (s := Builtin.max_ c.argTypes o.type (c.args.map a.eval)) rfl (by rw [hag]; exact h3)) ⟨c', st, x, V, l, h4, hs, h5⟩
  · exact h.elim

theorem opW_sound (hpo : ParOk P gl par En) (hs : SR gl En x w V l a.tmps st) (h : opW par o st x K) : OpOK ro n P o a w (Res gl En a K) := by
  unfold opW at h
  simp only at h
  split at h
  · -- move
    rename_i y ho
    have hd : ∀ c', o.op ≠ .defer c' := fun c' e => by rw [ho] at e; cases e
    obtain ⟨c, hK, hc⟩ := evK_elim hs h
    exact OpOK.value hd (v := a.eval y) (w' := w) (by simp only [execOp, ho]; rfl) ⟨c, st, x, V, l, hK, hs, hc⟩
  · rename_i y ho
    have hd : ∀ c', o.op ≠ .defer c' := fun c' e => by rw [ho] at e; cases e
    obtain ⟨v, w', hr, hres⟩ := assign_ok hpo.ti hs h
    exact OpOK.value hd (v := v) (w' := w') (by simp only [execOp, ho]; cases hr; rfl) hres
  · rename_i c y z ho
    have hd : ∀ c', o.op ≠ .defer c' := fun c' e => by rw [ho] at e; cases e
    obtain ⟨v, w', hr, hres⟩ := pick_ok (P := P) hs h
    exact OpOK.value hd (v := v) (w' := w') (by
      simp only [execOp, ho]
      rw [Sem.run_bind] at hr ⊢
      revert hr
      cases (asBool (a.eval c)).run P w with
      | ok b w2 => simp only [Result.andThen]; intro hr; cases hr; rfl
      | halt h w2 => simp only [Result.andThen]; intro hr; cases hr) hres
  · rename_i t ho
    have hd : ∀ c', o.op ≠ .defer c' := fun c' e => by rw [ho] at e; cases e
    exact VOK.op (alloc_ok hpo.ti hs h) hd (by simp only [execOp, ho])
  · rename_i t y ho
    have hd : ∀ c', o.op ≠ .defer c' := fun c' e => by rw [ho] at e; cases e
    exact VOK.op (box_ok hpo.ti hs h) hd (by simp only [execOp, ho])
  · -- build
    rename_i t ps ho
    have hd : ∀ c', o.op ≠ .defer c' := fun c' e => by rw [ho] at e; cases e
    obtain ⟨ty, h, hty⟩ := tyK_elim hpo.ti h
    obtain ⟨vs, h, hv⟩ := evPK_elim hs h
    obtain ⟨v, c, h1, h2, h3⟩ := build_ok (K := fun c => K c st x) hty hv h
    exact VOK.op (P := P) ⟨v, w, h1, c, st, x, V, l, h2, hs, h3⟩ hd (by simp only [execOp, ho])
  · rename_i t len ps ho
    have hd : ∀ c', o.op ≠ .defer c' := fun c' e => by rw [ho] at e; cases e
    cases hps : ps.toList with
    | nil =>
      rw [hps] at h
      exact VOK.op (buildSlice_nil hpo.ti hs hps h) hd (by simp only [execOp, ho])
    | cons p0 ps0 =>
      rw [hps] at h
      simp only at h
      rw [← hps] at h
      exact VOK.op (buildSlice_ok hpo.ti hs h) hd (by simp only [execOp, ho])
  · -- load
    rename_i t p ho
    have hd : ∀ c', o.op ≠ .defer c' := fun c' e => by rw [ho] at e; cases e
    obtain ⟨ty, h, hty⟩ := tyK_elim hpo.ti h
    obtain ⟨pv, h, hp⟩ := evK_elim hs h
    obtain ⟨v, c, h1, h2, h3⟩ := loadE_ok hty hs hp h
    exact VOK.op (P := P) ⟨v, w, h1, c, st, x, V, l, h2, hs, h3⟩ hd (by simp only [execOp, ho])
  · -- store
    rename_i t p y ho
    have hd : ∀ c', o.op ≠ .defer c' := fun c' e => by rw [ho] at e; cases e
    obtain ⟨ty, h, hty⟩ := tyK_elim hpo.ti h
    obtain ⟨pv, h, hp⟩ := evK_elim hs h
    obtain ⟨v, h, hv⟩ := evK_elim hs h
    obtain ⟨w', st', l', h1, h2, h3⟩ := store_ok hty hs hp hv h
    exact OpOK.skip hd (by simp only [execOp, ho]; exact run_u h1) ⟨.skip, st', x, V, l', h2, h3, Rep.flat1 rfl⟩
  · -- nilCheck
    rename_i y ho
    have hd : ∀ c', o.op ≠ .defer c' := fun c' e => by rw [ho] at e; cases e
    obtain ⟨ad, h1, h2⟩ := nilCheck_ok hs h
    exact OpOK.value hd (v := a.eval y) (w' := w) (by simp only [execOp, ho, h1]; rfl) h2
  · rename_i op t y z ov ho
    have hd : ∀ c', o.op ≠ .defer c' := fun c' e => by rw [ho] at e; cases e
    cases hnb : nilOpB z with
    | true =>
      rw [hnb] at h
      exact VOK.op (nilBin_ok (P := P) (t := t) hpo.ti hs hnb h) hd (by simp only [execOp, ho])
    | false =>
      rw [hnb] at h
      exact VOK.op (binOp_ok (P := P) (t := t) hpo.ti hpo.eqt hs h) hd (by simp only [execOp, ho])
  · rename_i op t y ho
    have hd : ∀ c', o.op ≠ .defer c' := fun c' e => by rw [ho] at e; cases e
    exact VOK.op (unOp_ok (P := P) hs h) hd (by simp only [execOp, ho])
  · rename_i s t y ho
    have hd : ∀ c', o.op ≠ .defer c' := fun c' e => by rw [ho] at e; cases e
    obtain ⟨tys, h, htys⟩ := tyK_elim hpo.ti h
    exact VOK.op (convert_ok hpo.ti htys.und hs h) hd (by simp only [execOp, ho])
  · rename_i fn first caps ho
    have hd : ∀ c', o.op ≠ .defer c' := fun c' e => by rw [ho] at e; cases e
    exact VOK.op (makeFunc_ok (P := P) hs h) hd (by simp only [execOp, ho])
  · rename_i t y lo hi mx ho
    have hd : ∀ c', o.op ≠ .defer c' := fun c' e => by rw [ho] at e; cases e
    cases mx with
    | some _ => exact h.elim
    | none => exact VOK.op (slice_ok hpo.ti hs h) hd (by simp only [execOp, ho]; rfl)
  · rename_i t y f ho
    have hd : ∀ c', o.op ≠ .defer c' := fun c' e => by rw [ho] at e; cases e
    exact VOK.op (fieldAddr_ok hpo.ti hs h) hd (by simp only [execOp, ho])
  · rename_i t y f ho
    have hd : ∀ c', o.op ≠ .defer c' := fun c' e => by rw [ho] at e; cases e
    exact VOK.op (field_ok hpo.ti hs h) hd (by simp only [execOp, ho])
  · rename_i t y i ho
    have hd : ∀ c', o.op ≠ .defer c' := fun c' e => by rw [ho] at e; cases e
    exact VOK.op (indexAddr_ok hpo.ti hs h) hd (by simp only [execOp, ho])
  · rename_i t y i ho
    have hd : ∀ c', o.op ≠ .defer c' := fun c' e => by rw [ho] at e; cases e
    exact VOK.op (index_ok hpo.ti hpo.ai hs h) hd (by simp only [execOp, ho])
  · rename_i y i ho
    have hd : ∀ c', o.op ≠ .defer c' := fun c' e => by rw [ho] at e; cases e
    exact VOK.op (extract_ok (P := P) hs h) hd (by simp only [execOp, ho])
  · rename_i c ho
    split at h
    · rename_i b hb
      exact builtin_ok hpo hs ho hb h
    · exact call_ok hpo hs ho h
  · rename_i t y z ho
    have hd : ∀ c', o.op ≠ .defer c' := fun c' e => by rw [ho] at e; cases e
    exact VOK.op (makeSlice_ok hpo.ti hs h) hd (by simp only [execOp, ho])
  · rename_i t r ho
    have hd : ∀ c', o.op ≠ .defer c' := fun c' e => by rw [ho] at e; cases e
    exact VOK.op (makeMap_ok (P := P) hs h) hd (by simp only [execOp, ho])
  · rename_i t y i ok ho
    have hd : ∀ c', o.op ≠ .defer c' := fun c' e => by rw [ho] at e; cases e
    exact VOK.op (lookup_ok hpo.ti hpo.mi hs h) hd (by simp only [execOp, ho])
  · rename_i t y i v ho
    have hd : ∀ c', o.op ≠ .defer c' := fun c' e => by rw [ho] at e; cases e
    obtain ⟨w', h1, hres⟩ := mapUpdate_ok hpo.mi hs h
    exact OpOK.skip hd (by simp only [execOp, ho]; exact run_u h1) hres
  · exact h.elim
end Go.Ab

namespace Go.Ab
open Go
variable {S : Sig} [Cod S]
variable {X : Type} {gl : Gl} {En : Env X} {x : X} {w w1 w' : World} {V V' : Nat → Nat → Prop} {l l0 : Loc} {ts : Array Value} {st : St S}
variable {P : Program} {par : Par S X} {a : Act} {K : AV S → St S → X → Prop} {ro : Option Nat} {n : Nat} {o : Oper}

/-- Those around an activation, and the marks of its rounds over functions. -/
def Env.marks (En : Env X) (Ds : List Nat) : Env X where
  fv := En.fv
  ups := En.ups
  owns := En.owns
  fz := En.fz
  inv x w := En.inv x w ∧ Ds.Nodup ∧ ∀ D ∈ Ds, w.heap[D]? = some (.deferred (some [])) ∧ ¬ En.E x D
  E x b := En.E x b ∨ b ∈ Ds
  EM := En.EM
  lt x w b h hb := hb.elim (En.lt x w b h.1) fun hb => lt_of_heap (h.2.2 b hb).1
  emE x b o h := .inl (En.emE x b o h)
  stable x w w' h hk := ⟨En.stable x w w' h.1 (hk.mono fun _ h => .inl h), h.2.1, fun D hD => ⟨(hk.block D (.inr hD)).trans (h.2.2 D hD).1, (h.2.2 D hD).2⟩⟩

theorem Env.marks_ext (En : Env X) (Ds : List Nat) : Env.Ext gl En (En.marks Ds) where
  fv := rfl
  inv := fun _ _ h => h.1
  e := fun _ _ h => .inl h
  em := fun _ _ _ h => h
  emN := fun _ _ _ _ _ _ _ h => h
  lift := fun x w U x' w' hinv hU h => ⟨⟨h.inv, hinv.2.1, fun D hD => by
      obtain ⟨h1, h2⟩ := hinv.2.2 D hD
      have hlt := lt_of_heap h1
      exact ⟨(h.block D hlt h2 fun hu => hU D hu (.inr hD)).trans h1, fun hE => (h.e D hE).elim h2 fun h3 => by omega⟩⟩,
    h.g, h.size, fun b hb hE hu => h.block b hb (fun h => hE (.inl h)) hu, h.cell, fun b hb => hb.elim (fun hb => (h.e b hb).imp .inl id) fun hb => .inl (.inr hb), h.em⟩

theorem ParOk.marks (h : ParOk P gl par En) (Ds : List Nat) : ParOk P gl par (En.marks Ds) := h.ext (En.marks_ext Ds)

/-- The deferred calls of an activation are the marks of some rounds. -/
def markOf (D : Nat) : Deferred := { target := .collected D, args := #[] }

theorem set_same {ts : Array Value} {d : Nat} : ts.setIfInBounds d (ts.getD d Go.undef) = ts := by
  apply Array.ext_getElem?
  intro i
  rw [Array.getElem?_setIfInBounds]
  by_cases h : d = i
  · subst h
    by_cases h2 : d < ts.size
    · simp [h2, Array.getD]
    · simp [h2]
  · simp [h]

theorem put_tmps (a : Act) (dst : Option Tmp) (v : Value) : (a.put dst v).defers = a.defers ∧ (a.put dst v).tmps = match dst with | some d => a.tmps.setIfInBounds d v | none => a.tmps := by
  cases dst <;> exact ⟨rfl, rfl⟩

variable [LawCod S]

theorem opsW_sound (hpo : ParOk P gl par En) {ops : Array Oper} {Kq : St S → X → Prop} {Q : Exit → Act → World → Prop} {D : List Deferred}
    (hQ : ∀ a' w' V' l' st' x', a'.defers = D → Kq st' x' → SR gl En x' w' V' l' a'.tmps st' → Q .normal a' w') :
    ∀ (rest : List Oper) (a : Act) (w : World) (V : Nat → Nat → Prop) (l : Loc) (st : St S) (x : X), a.defers = D → SR gl En x w V l a.tmps st → opsW par ops rest st x Kq → wpListIn (Fo ro) n P ops Q rest a w
  | [], a, w, V, l, st, x, hD, hs, h => hQ a w V l st x hD h hs
  | o :: rest, a, w, V, l, st, x, hD, hs, h => by
    have hrun : ∀ {st : St S}, SR gl En x w V l a.tmps st → Region.wanted o (yielded ops a.tmps) = true → (opW par o st x fun v st' x' => match o.dst with
      | some d => opsW par ops rest { st' with tmps := st'.tmps.set d v } x' Kq
      | none => opsW par ops rest st' x' Kq) → wpListIn (Fo ro) n P ops Q (o :: rest) a w := fun {st} hs hw h => by
      simp only [wpListIn, hw, if_true]
      refine opW_sound hpo hs h _ _ ?_
      rintro v w' ⟨c, st', x', V', l', hK, hs', hr⟩
      cases hd : o.dst with
      | none =>
        rw [hd] at hK
        exact opsW_sound hpo hQ rest _ w' V' l' st' x' hD (by simpa [Act.put] using hs') hK
      | some d =>
        rw [hd] at hK
        exact opsW_sound hpo hQ rest _ w' V' l' _ x' hD (hs'.setTmp d hr) hK
    have hpass : ∀ {st : St S}, SR gl En x w V l a.tmps st → Region.wanted o (yielded ops a.tmps) = false → (match o.dst with
      | some d => opsW par ops rest { st with tmps := st.tmps.set d .skip } x Kq
      | none => opsW par ops rest st x Kq) → wpListIn (Fo ro) n P ops Q (o :: rest) a w := fun {st} hs hw h => by
      simp only [wpListIn, hw, Bool.false_eq_true, if_false]
      refine ⟨fun _ _ => trivial, ?_⟩
      cases hd : o.dst with
      | none =>
        rw [hd] at h
        exact opsW_sound hpo hQ rest _ w V l st x hD (by simpa [Act.put] using hs) h
      | some d =>
        rw [hd] at h
        exact opsW_sound hpo hQ rest _ w V l _ x hD (hs.setTmp d (c := .skip) (Rep.flat1 rfl)) h
    simp only [opsW, setK_eq, forceK_eq] at h
    cases hg : o.guard with
    | none =>
      rw [hg] at h
      exact hrun hs (by simp [Region.wanted, hg]) h
    | some p =>
      obtain ⟨j, want⟩ := p
      rw [hg] at h
      simp only at h
      cases hj : ops[j]? with
      | none => rw [hj] at h; exact h.elim
      | some oj =>
        rw [hj] at h
        simp only at h
        cases hdj : oj.dst with
        | none => rw [hdj] at h; exact h.elim
        | some dj =>
          rw [hdj] at h
          simp only [nthK_eq] at h
          have htmp := hs.tmp dj
          have hwant : Region.wanted o (yielded ops a.tmps) = (yielded ops a.tmps j == some want) := by simp [Region.wanted, hg]
          cases hc : st.tmps.getD dj .undef with
          | bool b =>
            rw [hc] at h htmp
            simp only at h
            have hv := htmp.bool
            have hy : yielded ops a.tmps j = some b := by
              have : a.tmps[dj]? = some (.bool b) := by
                by_cases hlt : dj < a.tmps.size
                · simp only [Array.getD, hlt, dif_pos] at hv
                  rw [Array.getElem?_eq_getElem hlt]; exact congrArg some hv
                · simp only [Array.getD, hlt, dif_neg, not_false_eq_true] at hv; cases hv
              simp [yielded, hj, hdj, this]
            have hset : ∀ b', b = b' → SR gl En x w V l a.tmps { st with tmps := st.tmps.set dj (.bool b') } := fun b' hb => by
              subst hb
              have := hs.setTmp dj htmp
              rwa [set_same] at this
            cases want with
            | true =>
              cases b with
              | true => exact hrun (hset true rfl) (by rw [hwant, hy]; rfl) ((bcase_iff.1 h).1 rfl)
              | false => exact hpass (hset false rfl) (by rw [hwant, hy]; rfl) ((bcase_iff.1 h).2 rfl)
            | false =>
              cases b with
              | true => exact hpass (hset true rfl) (by rw [hwant, hy]; rfl) ((bcase_iff.1 h).1 rfl)
              | false => exact hrun (hset false rfl) (by rw [hwant, hy]; rfl) ((bcase_iff.1 h).2 rfl)
          | skip =>
            rw [hc] at h htmp
            have hv : a.tmps.getD dj Go.undef = Go.undef := htmp.flat' trivial
            have hy : yielded ops a.tmps j = none := by
              unfold yielded
              simp only [hj, hdj, Option.bind_some]
              by_cases hlt : dj < a.tmps.size
              · simp only [Array.getD, hlt, dif_pos] at hv
                rw [Array.getElem?_eq_getElem hlt]
                have hv' : a.tmps[dj] = Go.undef := hv
                rw [hv']; rfl
              · have h0 : a.tmps[dj]? = none := Array.getElem?_eq_none (Nat.le_of_not_lt hlt)
                rw [h0]
            exact hpass hs (by rw [hwant, hy]; rfl) h
          | _ => rw [hc] at h; exact h.elim
end Go.Ab

namespace Go.Ab
open Go

/-- What hands on one thing, or nothing. -/
def Point {α : Type} (F : (α → Prop) → Prop) : Prop := ∀ K, F K → ∃ v, K v ∧ ∀ K' : α → Prop, K' v → F K'

theorem Point.ret {α : Type} (v : α) : Point fun K : α → Prop => K v := fun _ h => ⟨v, h, fun _ h => h⟩
theorem Point.no {α : Type} : Point fun _ : α → Prop => False := fun _ h => h.elim
theorem Point.and {α : Type} (c : Prop) {F : (α → Prop) → Prop} (h : Point F) : Point fun K => c ∧ F K := fun K ⟨hc, hF⟩ => by
  obtain ⟨v, h1, h2⟩ := h K hF
  exact ⟨v, h1, fun K' hK => ⟨hc, h2 K' hK⟩⟩
theorem Point.bind {α β : Type} {F : (α → Prop) → Prop} {G : α → (β → Prop) → Prop} (hF : Point F) (hG : ∀ v, Point (G v)) : Point fun K => F fun v => G v K := fun K h => by
  obtain ⟨v, h1, h2⟩ := hF _ h
  obtain ⟨u, h3, h4⟩ := hG v K h1
  exact ⟨u, h3, fun K' hK => h2 _ (h4 K' hK)⟩
theorem Point.opt {α : Type} (o : Option α) : Point (optK o) := fun _ ⟨a, h1, h2⟩ => ⟨a, h2, fun _ hK => ⟨a, h1, hK⟩⟩

section
variable {S : Sig} [Cod S] {X : Type} {P : Par S X}

omit [Cod S] in
theorem Point.nth (l : List (AV S)) (n : Nat) : Point (nthK l n) := fun K h => by
  rw [nthK_eq] at h
  exact ⟨_, h, fun K' hK => by rw [nthK_eq]; exact hK⟩

theorem Point.find {α : Type} (l : List (Nat × α)) (n : Nat) : Point (findK l n False) := fun K h => by
  rw [findK_eq] at h
  cases hl : lookA l n with
  | none => rw [hl] at h; exact h.elim
  | some a => rw [hl] at h; exact ⟨a, h, fun K' hK => by rw [findK_eq, hl]; exact hK⟩

omit [Cod S] in
theorem Point.ty (t : Nat) : Point (tyK P t) := Point.find _ _

omit [Cod S] in
theorem Point.const (v : Value) : Point (constK (S := S) v) := fun K h => by
  unfold constK at h ⊢
  split at h <;> first
    | exact h.elim
    | exact ⟨_, h, fun K' hK => hK⟩

omit [Cod S] in
theorem Point.ev (tmps : List (AV S)) (y : Operand) : Point (evK tmps y) := by
  cases y with
  | tmp t => exact Point.nth _ _
  | const v => exact Point.const v
  | func f => exact Point.ret _
  | global g => exact Point.no

theorem Point.map {α β : Type} {f : α → (β → Prop) → Prop} (hf : ∀ a, Point (f a)) : ∀ l : List α, Point (mapK f l)
  | [] => Point.ret _
  | a :: l => Point.bind (F := f a) (G := fun b K => mapK f l fun l' => K (b :: l')) (hf a) fun b => Point.bind (F := mapK f l) (G := fun l' K => K (b :: l')) (Point.map hf l) fun l' => Point.ret (b :: l')

theorem Point.app {α : Type} (l m : List α) : Point (appK l m) := fun K h => by
  rw [appK_eq] at h
  exact ⟨_, h, fun K' hK => by rw [appK_eq]; exact hK⟩

theorem Point.split : ∀ (f : Nat) (cs : List (AV S)) (n : Nat), Point fun K : List (AV S) × List (AV S) → Prop => splitK f cs n fun a b => K (a, b)
  | f, cs, 0 => by
    have : (fun K : List (AV S) × List (AV S) → Prop => splitK f cs 0 fun a b => K (a, b)) = fun K => K ([], cs) := by
      funext K; cases f <;> cases cs <;> rfl
    rw [this]; exact Point.ret _
  | 0, cs, n + 1 => fun K h => by simp [splitK] at h
  | f + 1, [], n + 1 => fun K h => by simp [splitK] at h
  | f + 1, c :: cs, n + 1 => by
    have hp := Point.split f cs (n + 1 - width c)
    intro K h
    simp only [splitK] at h
    cases hb : Nat.ble (width c) (n + 1) with
    | false => rw [hb] at h; exact h.elim
    | true =>
      rw [hb] at h
      obtain ⟨p, h1, h2⟩ := hp (fun p => K (c :: p.1, p.2)) h
      refine ⟨_, h1, fun K' hK => ?_⟩
      simp only [splitK, hb]
      exact h2 (fun p => K' (c :: p.1, p.2)) hK

theorem Point.drop (cs : List (AV S)) (n : Nat) : Point (dropK cs n) := Point.bind (F := fun K => splitK 1000 cs n fun a b => K (a, b)) (G := fun p K => K p.2) (Point.split 1000 cs n) fun p => Point.ret p.2
theorem Point.take (cs : List (AV S)) (n : Nat) : Point (takeK cs n) := Point.bind (F := fun K => splitK 1000 cs n fun a b => K (a, b)) (G := fun p K => K p.1) (Point.split 1000 cs n) fun p => Point.ret p.1

omit [Cod S] in
theorem Point.one (cs : List (AV S)) : Point (oneK cs) := by
  cases cs with
  | nil => exact Point.no
  | cons c cs => cases c <;> first | exact Point.no | exact Point.ret _

theorem Point.val (t : TyI S) (cs : List (AV S)) : Point (valK t cs) := by
  obtain ⟨sz, z, k⟩ := t
  cases k <;> first | exact Point.one _ | exact Point.bind (F := takeK cs sz) (G := fun l K => K (AV.agg l)) (Point.take _ _) fun l => Point.ret (AV.agg l)

theorem Point.read : ∀ (p : List Stp) (cs : List (AV S)), Point (readK cs p)
  | [], cs => by
    have : readK cs [] = fun K => K cs := by funext K; simp [readK]
    rw [this]; exact Point.ret _
  | .off k :: p, cs => by
    have : readK cs (.off k :: p) = fun K => dropK cs k fun cs' => readK cs' p K := by funext K; simp [readK]
    rw [this]; exact Point.bind (Point.drop _ _) fun cs' => Point.read p cs'
  | .idx i es :: p, cs => by
    cases cs with
    | nil => intro K h; simp [readK] at h
    | cons c cs =>
      cases c with
      | arr u n xs =>
        intro K h
        simp only [readK] at h ⊢
        cases hb : Nat.beq es (Cod.size u) with
        | true =>
          rw [hb] at h
          obtain ⟨x, hx, h⟩ := h
          obtain ⟨v, h, b2⟩ := Point.read p (Cod.enc u x) _ h
          exact ⟨v, h, fun K' hK => ⟨x, hx, b2 _ hK⟩⟩
        | false => rw [hb] at h; exact h.elim
      | _ => intro K h; simp [readK] at h

theorem Point.load (ty : TyI S) (p : AV S) (st : St S) : Point (loadK ty p st) := by
  cases p with
  | ref cs => exact Point.val _ _
  | own d q =>
    intro K h
    obtain ⟨ao, h, b1⟩ := Point.find st.seg d _ h
    cases ao with
    | cells cs =>
      obtain ⟨l, h, b2⟩ := Point.read q cs _ h
      obtain ⟨v, h, b3⟩ := Point.val ty l _ h
      exact ⟨v, h, fun K' hK => b1 _ (b2 _ (b3 _ hK))⟩
    | frz cs =>
      obtain ⟨l, h, b2⟩ := Point.read q cs _ h
      obtain ⟨v, h, b3⟩ := Point.val ty l _ h
      exact ⟨v, h, fun K' hK => b1 _ (b2 _ (b3 _ hK))⟩
    | row u f => exact h.elim
    | mp kvs => exact h.elim
    | mpz ks us => exact h.elim
  | up d q =>
    intro K h
    obtain ⟨ao, h, b1⟩ := Point.find st.up d _ h
    cases ao with
    | cells cs =>
      obtain ⟨l, h, b2⟩ := Point.read q cs _ h
      obtain ⟨v, h, b3⟩ := Point.val ty l _ h
      exact ⟨v, h, fun K' hK => b1 _ (b2 _ (b3 _ hK))⟩
    | frz cs =>
      obtain ⟨l, h, b2⟩ := Point.read q cs _ h
      obtain ⟨v, h, b3⟩ := Point.val ty l _ h
      exact ⟨v, h, fun K' hK => b1 _ (b2 _ (b3 _ hK))⟩
    | row u f => exact h.elim
    | mp kvs => exact h.elim
    | mpz ks us => exact h.elim
  | _ => exact Point.no

theorem Point.frz (v : AV S) (sg : List (Nat × AO S)) : Point (frzK v sg) := by
  cases v with
  | ref cs => exact Point.ret _
  | own d q =>
    intro K h
    obtain ⟨ao, h, b1⟩ := Point.find sg d _ h
    cases ao with
    | frz cs =>
      obtain ⟨l, h, b2⟩ := Point.read q cs _ h
      exact ⟨l, h, fun K' hK => b1 _ (b2 _ hK)⟩
    | _ => exact h.elim
  | _ => exact Point.no

omit [Cod S] in
theorem Point.intBin (op : BinOp) (k : IntKind) (a b : Int) : Point (intBinK (S := S) op k a b) := by
  cases op <;> first | exact Point.no | exact Point.ret _ | exact Point.and _ (Point.ret _)

omit [Cod S] in
theorem Point.bin (op : BinOp) (a b : AV S) : Point (binK op a b) := by
  unfold binK
  cases a <;> try exact Point.no
  case int k p =>
    cases b <;> try exact Point.no
    case int k' q =>
      cases op <;> first | exact Point.and _ (Point.ret _) | (simp only; cases decide (k = k') <;> first | exact Point.no | exact Point.intBin _ _ _ _)
  case str s =>
    cases b <;> try exact Point.no
    case str s' => cases op <;> first | exact Point.no | exact Point.ret _

theorem Point.optf {α β : Type} (o : Option α) (f : α → β) : Point fun K : β → Prop => optK o fun a => K (f a) := fun K h => by
  obtain ⟨a, ha, h⟩ := h
  exact ⟨f a, h, fun K' hK => ⟨a, ha, hK⟩⟩

omit [Cod S] in
theorem Point.binT (P : Par S X) (op : BinOp) (t : TypeId) (a b : AV S) : Point (binTK P op t a b) := by
  by_cases hc : ∃ xs, a = .agg xs
  · obtain ⟨xs, rfl⟩ := hc
    cases b <;> try exact Point.no
    cases op <;> first | exact Point.no | exact Point.optf _ _
  · by_cases hcb : ∃ p, a = .bool p
    · obtain ⟨p, rfl⟩ := hcb
      cases b <;> try exact Point.no
      intro K h
      obtain ⟨ty, h, b1⟩ := Point.ty t _ h
      cases hk : ty.kind <;> rw [hk] at h <;> try exact h.elim
      cases op <;> try exact h.elim
      · exact ⟨_, h, fun K' hK => b1 _ (by rw [hk]; exact hK)⟩
      · exact ⟨_, h, fun K' hK => b1 _ (by rw [hk]; exact hK)⟩
    · have hb : binTK P op t a b = binK op a b := by funext K; cases a <;> first | rfl | exact absurd ⟨_, rfl⟩ hc | exact absurd ⟨_, rfl⟩ hcb
      rw [hb]; exact Point.bin op a b

omit [Cod S] in
theorem Point.un (op : UnOp) (a : AV S) : Point (unK op a) := by
  unfold unK
  cases op <;> cases a <;> first | exact Point.no | exact Point.ret _

omit [Cod S] in
theorem Point.minK (mx : Bool) : ∀ (v : AV S) (l : List (AV S)), Point (minK mx v l)
  | v, [] => fun K h => by
    cases v <;> first | exact ⟨_, h, fun K' hK => hK⟩ | exact h.elim
  | v, q :: l => fun K h => by
    cases v <;> try exact h.elim
    rename_i k a
    cases q <;> try exact h.elim
    rename_i k' b
    simp only [Ab.minK] at h ⊢
    cases hd : decide (k = k') with
    | false => rw [hd] at h; exact h.elim
    | true =>
      rw [hd] at h
      cases mx with
      | true => obtain ⟨r, h, b1⟩ := Point.minK true _ l _ h; exact ⟨r, h, fun K' hK => b1 _ hK⟩
      | false => obtain ⟨r, h, b1⟩ := Point.minK false _ l _ h; exact ⟨r, h, fun K' hK => b1 _ hK⟩
theorem Point.stepOff : ∀ (k : Nat) (p : List Stp), Point (stepOff k p)
  | k, [] => fun K h => by
    simp only [Go.Ab.stepOff] at h ⊢
    cases hb : Nat.beq k 0 with
    | true => rw [hb] at h; exact ⟨_, h, fun K' hK => hK⟩
    | false => rw [hb] at h; exact ⟨_, h, fun K' hK => hK⟩
  | k, [.off j] => fun K h => ⟨_, h, fun K' hK => hK⟩
  | k, [.idx i es] => fun K h => by
    simp only [Go.Ab.stepOff] at h ⊢
    cases hb : Nat.beq k 0 with
    | true => rw [hb] at h; exact ⟨_, h, fun K' hK => hK⟩
    | false => rw [hb] at h; exact ⟨_, h, fun K' hK => hK⟩
  | k, .off j :: s :: p => by
    have hp := Point.stepOff k (s :: p)
    intro K h
    simp only [Go.Ab.stepOff] at h
    obtain ⟨v, h1, h2⟩ := hp _ h
    exact ⟨_, h1, fun K' hK => by simp only [Go.Ab.stepOff]; exact h2 _ hK⟩
  | k, .idx i es :: s :: p => by
    have hp := Point.stepOff k (s :: p)
    intro K h
    simp only [Go.Ab.stepOff] at h
    obtain ⟨v, h1, h2⟩ := hp _ h
    exact ⟨_, h1, fun K' hK => by simp only [Go.Ab.stepOff]; exact h2 _ hK⟩

theorem Point.cast {u v : S.U} (xs : List (S.T u)) : Point (castL u v xs) := by
  unfold castL
  cases Cod.ueq u v with
  | isTrue h => exact Point.ret _
  | isFalse h => exact Point.no

theorem Point.hold (u : S.U) (d : Nat) : ∀ (cs : List (AV S)), Point (holdK u d cs)
  | [] => Point.no
  | v :: cs => by
    have hgo := Point.hold u d cs
    cases v with
    | sl w xs o =>
      cases o with
      | none => exact hgo
      | some e =>
        intro K h
        simp only [holdK] at h ⊢
        cases hb : Nat.beq d e with
        | true => rw [hb] at h; exact Point.cast _ _ h
        | false => rw [hb] at h; exact hgo _ h
    | _ => exact hgo

theorem Point.cut {α β : Type} {F : (α → Prop) → Prop} (hF : Point F) {K0 : α → Prop} (h : F K0) {K : β → Prop} {G : (α → (β → Prop) → Prop)} (hG : ∀ v, Point (G v)) (hK : ∀ v, K0 v → G v K) : ∃ u, K u ∧ ∀ K' : β → Prop, K' u → F fun v => G v K' := by
  obtain ⟨v, h, b1⟩ := hF _ h
  obtain ⟨u, h, b2⟩ := hG v K (hK v h)
  exact ⟨u, h, fun K' hK => b1 _ (b2 _ hK)⟩

omit [Cod S] in
theorem Point.evP (tmps : List (AV S)) : ∀ ps : List (Nat × Operand), Point (evPK tmps ps)
  | [] => Point.ret _
  | (i, y) :: ps => fun K h => by
    obtain ⟨v, h, b1⟩ := Point.ev _ _ _ h
    obtain ⟨l, h, b2⟩ := Point.evP tmps ps _ h
    exact ⟨_, h, fun K' hK => b1 _ (b2 _ hK)⟩

omit [Cod S] in
theorem Point.nils (c : AV S) : Point (nilsK c) := by cases c <;> exact Point.ret _

omit [Cod S] in
theorem Point.cells (v : AV S) : Point (cellsK v) := fun K h => by
  cases v with
  | agg cs =>
    simp only [cellsK] at h ⊢
    cases hb : cs.all cellOk with
    | true => rw [hb] at h; exact ⟨_, h, fun K' hK => hK⟩
    | false => rw [hb] at h; exact h.elim
  | _ => first | exact False.elim h | exact ⟨_, h, fun K' hK => hK⟩

theorem Point.over (cs vs : List (AV S)) : Point (overK cs vs) := fun K h => by
  obtain ⟨l, h, b1⟩ := Point.drop _ _ _ h
  obtain ⟨m, h, b2⟩ := Point.app _ _ _ h
  exact ⟨_, h, fun K' hK => b1 _ (b2 _ hK)⟩

theorem Point.parts : ∀ (ps : List (Nat × AV S)) (fs : List (Nat × Nat × Nat)) (cs : List (AV S)), Point (partsK ps fs cs)
  | [], fs, cs => fun K h => by simp only [partsK] at h ⊢; exact ⟨_, h, fun K' hK => hK⟩
  | (i, v) :: ps, fs, cs => fun K h => by
    simp only [partsK] at h ⊢
    cases hf : fs[i]? with
    | none => rw [hf] at h; exact h.elim
    | some p =>
      obtain ⟨off, ft, sz⟩ := p
      rw [hf] at h
      obtain ⟨vs, h, b1⟩ := Point.cells _ _ h
      cases hb : Nat.beq ((vs.map width).sum) sz with
      | false => rw [hb] at h; exact h.elim
      | true =>
        rw [hb] at h
        obtain ⟨ab, h, b2⟩ := Point.split 1000 cs off (fun ab => overK ab.2 vs fun b' => appK ab.1 b' fun cs' => partsK ps fs cs' K) h
        obtain ⟨b', h, b3⟩ := Point.over _ _ _ h
        obtain ⟨cs', h, b4⟩ := Point.app _ _ _ h
        obtain ⟨r, h, b5⟩ := Point.parts ps fs cs' _ h
        exact ⟨r, h, fun K' hK => b1 _ (by simp only [hb]; exact b2 (fun ab => overK ab.2 vs fun b' => appK ab.1 b' fun cs' => partsK ps fs cs' K') (b3 _ (b4 _ (b5 _ hK))))⟩

theorem Point.partsArr (u : S.U) (n : Nat) : ∀ (ps : List (Nat × AV S)) (xs : List (S.T u)), Point (partsArrK u n ps xs)
  | [], xs => fun K h => by simp only [partsArrK] at h ⊢; exact ⟨_, h, fun K' hK => hK⟩
  | (i, v) :: ps, xs => fun K h => by
    simp only [partsArrK] at h ⊢
    cases hb : Nat.blt i n with
    | false => rw [hb] at h; exact h.elim
    | true =>
      rw [hb] at h
      obtain ⟨vs, h, b1⟩ := Point.cells _ _ h
      obtain ⟨x, h, b2⟩ := Point.opt _ _ h
      obtain ⟨r, h, b3⟩ := Point.partsArr u n ps _ _ h
      exact ⟨r, h, fun K' hK => b1 _ (b2 _ (b3 _ hK))⟩

omit [Cod S] in
theorem Point.optOp (y : Option Operand) (tmps : List (AV S)) : Point (optOp y tmps) := fun K h => by
  cases y with
  | none => exact ⟨_, h, fun K' hK => hK⟩
  | some y => obtain ⟨v, h, b⟩ := Point.ev _ _ _ h; exact ⟨_, h, fun K' hK => b _ hK⟩

omit [Cod S] in
theorem Point.bound (v : Option (AV S)) (n : Nat) : Point (boundK v n) := fun K h => by
  unfold boundK at h ⊢
  cases v with
  | none => exact ⟨_, h, fun K' hK => hK⟩
  | some v => cases v <;> first | exact h.elim | exact ⟨_, h.2, fun K' hK => ⟨h.1, hK⟩⟩

theorem opV_point (o : Oper) (tmps : List (AV S)) (seg up : List (Nat × AO S)) : Point (opV P o tmps seg up) := by
  intro K h
  unfold opV at h ⊢
  cases ho : o.op <;> rw [ho] at h <;> try exact h.elim
  case move y =>
    obtain ⟨v, h, b⟩ := Point.ev _ _ _ h
    exact ⟨v, h, fun K' hK => b _ hK⟩
  case assign y =>
    obtain ⟨v, h, b⟩ := Point.ev _ _ _ h
    cases v <;> first | exact h.elim | exact ⟨_, h, fun K' hK => b _ hK⟩
  case pick c y z =>
    obtain ⟨cv, h, b1⟩ := Point.ev _ _ _ h
    obtain ⟨av, h, b2⟩ := Point.ev _ _ _ h
    obtain ⟨bv, h, b3⟩ := Point.ev _ _ _ h
    cases cv with
    | bool t =>
      have hb : ∀ {p q : AV S}, bcase t (K p) (K q) → ∃ v, K v ∧ ∀ K' : AV S → Prop, K' v → bcase t (K' p) (K' q) := fun {p q} h => by
        cases t with
        | true => exact ⟨p, h, fun _ h => h⟩
        | false => exact ⟨q, h, fun _ h => h⟩
      cases av with
      | bool p =>
        cases bv with
        | bool q => exact ⟨_, h, fun K' hK => b1 _ (b2 _ (b3 _ hK))⟩
        | _ => obtain ⟨v, h1, h2⟩ := hb h; exact ⟨v, h1, fun K' hK => b1 _ (b2 _ (b3 _ (h2 K' hK)))⟩
      | _ => obtain ⟨v, h1, h2⟩ := hb h; exact ⟨v, h1, fun K' hK => b1 _ (b2 _ (b3 _ (h2 K' hK)))⟩
    | _ => exact h.elim
  case load t p =>
    obtain ⟨ty, h, b1⟩ := Point.ty _ _ h
    obtain ⟨pv, h, b2⟩ := Point.ev _ _ _ h
    obtain ⟨v, h, b3⟩ := Point.load _ _ _ _ h
    exact ⟨v, h, fun K' hK => b1 _ (b2 _ (b3 _ hK))⟩
  case nilCheck y =>
    obtain ⟨v, h, b⟩ := Point.ev _ _ _ h
    cases v <;> first | exact h.elim | exact ⟨_, h, fun K' hK => b _ hK⟩
  case binOp op t y z f =>
    obtain ⟨av, h, b1⟩ := Point.ev _ _ _ h
    obtain ⟨bv, h, b2⟩ := Point.ev _ _ _ h
    obtain ⟨v, h, b3⟩ := Point.binT _ _ _ _ _ _ h
    exact ⟨v, h, fun K' hK => b1 _ (b2 _ (b3 _ hK))⟩
  case unOp op t y =>
    obtain ⟨av, h, b1⟩ := Point.ev _ _ _ h
    obtain ⟨v, h, b3⟩ := Point.un _ _ _ h
    exact ⟨v, h, fun K' hK => b1 _ (b3 _ hK)⟩
  case convert t t' y =>
    obtain ⟨ty, h, b1⟩ := Point.ty _ _ h
    obtain ⟨ty', h, b2⟩ := Point.ty _ _ h
    obtain ⟨v, h, b3⟩ := Point.ev _ _ _ h
    cases hk : ty'.kind with
    | int k =>
      rw [hk] at h
      cases v <;> first | exact h.elim | exact ⟨_, h, fun K' hK => b1 _ (b2 _ (b3 _ (by rw [hk]; exact hK)))⟩
    | str =>
      rw [hk] at h
      cases v <;> first | exact h.elim | exact ⟨_, h, fun K' hK => b1 _ (b2 _ (b3 _ (by rw [hk]; exact hK)))⟩
    | _ => rw [hk] at h; cases v <;> exact h.elim
  case fieldAddr t y f =>
    obtain ⟨ty, h, b1⟩ := Point.ty _ _ h
    obtain ⟨v, h, b2⟩ := Point.ev _ _ _ h
    cases hk : ty.kind with
    | struct fs =>
      rw [hk] at h
      simp only at h
      cases hf : fs[f]? with
      | none => rw [hf] at h; exact h.elim
      | some p =>
        obtain ⟨off, ft, sz⟩ := p
        rw [hf] at h
        cases v with
        | ref cs => obtain ⟨l, h, b3⟩ := Point.drop _ _ _ h; exact ⟨_, h, fun K' hK => b1 _ (b2 _ (by rw [hk]; simp only [hf]; exact b3 _ hK))⟩
        | own d q => obtain ⟨l, h, b3⟩ := Point.stepOff _ _ _ h; exact ⟨_, h, fun K' hK => b1 _ (b2 _ (by rw [hk]; simp only [hf]; exact b3 _ hK))⟩
        | up d q => obtain ⟨l, h, b3⟩ := Point.stepOff _ _ _ h; exact ⟨_, h, fun K' hK => b1 _ (b2 _ (by rw [hk]; simp only [hf]; exact b3 _ hK))⟩
        | elp u d i q => obtain ⟨l, h, b3⟩ := Point.stepOff _ _ _ h; exact ⟨_, h, fun K' hK => b1 _ (b2 _ (by rw [hk]; simp only [hf]; exact b3 _ hK))⟩
        | _ => exact h.elim
    | _ => rw [hk] at h; exact h.elim
  case field t y f =>
    obtain ⟨ty, h, b1⟩ := Point.ty _ _ h
    obtain ⟨v, h, b2⟩ := Point.ev _ _ _ h
    cases hk : ty.kind with
    | struct fs =>
      rw [hk] at h
      cases v with
      | agg cs =>
        simp only at h
        cases hf : fs[f]? with
        | none => rw [hf] at h; exact h.elim
        | some p =>
          obtain ⟨off, ft, sz⟩ := p
          rw [hf] at h
          obtain ⟨ty', h, b3⟩ := Point.ty _ _ h
          obtain ⟨l, h, b4⟩ := Point.drop _ _ _ h
          obtain ⟨v, h, b5⟩ := Point.val _ _ _ h
          exact ⟨_, h, fun K' hK => b1 _ (b2 _ (by rw [hk]; simp only [hf]; exact b3 _ (b4 _ (b5 _ hK))))⟩
      | _ => exact h.elim
    | _ => rw [hk] at h; exact h.elim
  case indexAddr t y i =>
    obtain ⟨ty, h, b1⟩ := Point.ty _ _ h
    obtain ⟨v, h, b2⟩ := Point.ev _ _ _ h
    obtain ⟨iv, h, b3⟩ := Point.ev _ _ _ h
    cases iv with
    | int k n =>
      cases hk : ty.kind with
      | array u len =>
        rw [hk] at h
        cases v with
        | ref cs =>
          cases cs with
          | nil => exact h.elim
          | cons c cs =>
            cases c with
            | arr u' m xs =>
              simp only at h
              cases hb : Nat.beq m len with
              | true =>
                rw [hb] at h
                obtain ⟨xs', h, b4⟩ := Point.cast _ _ h
                obtain ⟨e, h, b5⟩ := Point.opt _ _ h
                exact ⟨_, h, fun K' hK => b1 _ (b2 _ (b3 _ (by simp only [hk, hb]; exact b4 _ (b5 _ hK))))⟩
              | false => rw [hb] at h; exact h.elim
            | _ => exact h.elim
        | own d q =>
          obtain ⟨h1, h2, h⟩ := h
          obtain ⟨l, h, b4⟩ := Point.app _ _ _ h
          exact ⟨_, h, fun K' hK => b1 _ (b2 _ (b3 _ (by simp only [hk]; exact ⟨h1, h2, b4 _ hK⟩)))⟩
        | up d q =>
          obtain ⟨h1, h2, h⟩ := h
          obtain ⟨l, h, b4⟩ := Point.app _ _ _ h
          exact ⟨_, h, fun K' hK => b1 _ (b2 _ (b3 _ (by simp only [hk]; exact ⟨h1, h2, b4 _ hK⟩)))⟩
        | _ => exact h.elim
      | slice u b e =>
        rw [hk] at h
        cases v with
        | sl u' xs o =>
          cases o with
          | none =>
            obtain ⟨xs', h, b4⟩ := Point.cast _ _ h
            obtain ⟨e, h, b5⟩ := Point.opt _ _ h
            exact ⟨_, h, fun K' hK => b1 _ (b2 _ (b3 _ (by simp only [hk]; exact b4 _ (b5 _ hK))))⟩
          | some d => exact h.elim
        | _ => exact h.elim
      | _ => rw [hk] at h; exact h.elim
    | _ => exact h.elim
  case index t y i =>
    obtain ⟨ty, h, b1⟩ := Point.ty _ _ h
    obtain ⟨v, h, b2⟩ := Point.ev _ _ _ h
    obtain ⟨iv, h, b3⟩ := Point.ev _ _ _ h
    cases hk : ty.kind with
    | str =>
      rw [hk] at h
      cases v with
      | str s =>
        cases iv with
        | int k n =>
          obtain ⟨e, h, b4⟩ := Point.opt _ _ h
          exact ⟨_, h, fun K' hK => b1 _ (b2 _ (b3 _ (by simp only [hk]; exact b4 _ hK)))⟩
        | _ => exact h.elim
      | _ => exact h.elim
    | _ => rw [hk] at h; exact h.elim
  case extract y i =>
    obtain ⟨v, h, b1⟩ := Point.ev _ _ _ h
    cases v with
    | tup vs =>
      simp only at h
      cases hb : bareB vs with
      | true =>
        rw [hb] at h
        obtain ⟨r, h, b2⟩ := Point.nth _ _ _ h
        cases r <;> first | exact h.elim | exact ⟨_, h, fun K' hK => b1 _ (by simp only [hb]; exact b2 _ hK)⟩
      | false => rw [hb] at h; exact h.elim
    | _ => exact h.elim
  case build t ps =>
    obtain ⟨ty, h, b1⟩ := Point.ty _ _ h
    obtain ⟨vs, h, b2⟩ := Point.evP _ _ _ h
    cases hk : ty.kind with
    | struct fs =>
      rw [hk] at h
      obtain ⟨zs, h, b3⟩ := Point.map (fun c => Point.nils c) _ _ h
      obtain ⟨cs, h, b4⟩ := Point.parts _ _ _ _ h
      exact ⟨_, h, fun K' hK => b1 _ (b2 _ (by rw [hk]; exact b3 _ (b4 _ hK)))⟩
    | array ua na =>
      rw [hk] at h
      simp only at h
      split at h
      · rename_i u n zs hz
        cases hb : Nat.beq n na with
        | true =>
          rw [hb] at h
          obtain ⟨zs', h, b3⟩ := Point.cast _ _ h
          obtain ⟨xs, h, b4⟩ := Point.partsArr _ _ _ _ _ h
          exact ⟨_, h, fun K' hK => b1 _ (b2 _ (by simp only [hk, hz, hb]; exact b3 _ (b4 _ hK)))⟩
        | false => rw [hb] at h; exact h.elim
      · exact h.elim
    | _ => rw [hk] at h; exact h.elim
  case buildSlice t len ps =>
    simp only at h ⊢
    cases hps : ps.toList with
    | cons => rw [hps] at h; exact h.elim
    | nil =>
      rw [hps] at h
      obtain ⟨ty, h, b1⟩ := Point.ty _ _ h
      cases hk : ty.kind with
      | slice u b e =>
        rw [hk] at h
        cases len with
        | zero => exact ⟨_, h, fun K' hK => b1 _ (by simp only [hk]; exact hK)⟩
        | succ n => exact h.elim
      | _ => rw [hk] at h; exact h.elim
  case slice t y lo hi mx =>
    cases mx with
    | some m => exact h.elim
    | none =>
      obtain ⟨ty, h, b1⟩ := Point.ty _ _ h
      obtain ⟨v, h, b2⟩ := Point.ev _ _ _ h
      obtain ⟨lv, h, b3⟩ := Point.optOp _ _ _ h
      obtain ⟨hv, h, b4⟩ := Point.optOp _ _ _ h
      cases hk : ty.kind with
      | slice ut b e =>
        rw [hk] at h
        cases v with
        | sl u xs o =>
          cases o with
          | none =>
            obtain ⟨xs', h, b5⟩ := Point.cast _ _ h
            obtain ⟨p, h, b6⟩ := Point.bound _ _ _ h
            obtain ⟨q, h, b7⟩ := Point.bound _ _ _ h
            obtain ⟨h1, h2, h⟩ := h
            exact ⟨_, h, fun K' hK => b1 _ (b2 _ (b3 _ (b4 _ (by simp only [hk]; exact b5 _ (b6 _ (b7 _ ⟨h1, h2, hK⟩))))))⟩
          | some d => exact h.elim
        | _ => exact h.elim
      | str =>
        rw [hk] at h
        cases v with
        | str s =>
          obtain ⟨p, h, b6⟩ := Point.bound _ _ _ h
          obtain ⟨q, h, b7⟩ := Point.bound _ _ _ h
          obtain ⟨h1, h2, h⟩ := h
          exact ⟨_, h, fun K' hK => b1 _ (b2 _ (b3 _ (b4 _ (by simp only [hk]; exact (b6 _ (b7 _ ⟨h1, h2, hK⟩))))))⟩
        | _ => exact h.elim
      | array ua n =>
        rw [hk] at h
        obtain ⟨cs, h, b5⟩ := Point.frz _ _ _ h
        cases cs with
        | nil => exact h.elim
        | cons c cs =>
          cases c with
          | arr u m xs =>
            simp only at h
            cases hb : Nat.beq m n with
            | false => rw [hb] at h; exact h.elim
            | true =>
              rw [hb] at h
              obtain ⟨xs', h, b8⟩ := Point.cast _ _ h
              obtain ⟨p, h, b6⟩ := Point.bound _ _ _ h
              obtain ⟨q, h, b7⟩ := Point.bound _ _ _ h
              obtain ⟨h1, h2, h⟩ := h
              exact ⟨_, h, fun K' hK => b1 _ (b2 _ (b3 _ (b4 _ (by simp only [hk]; exact b5 _ (by simp only [hb]; exact b8 _ (b6 _ (b7 _ ⟨h1, h2, hK⟩)))))))⟩
          | _ => exact h.elim
      | _ => rw [hk] at h; exact h.elim
  case call c =>
    simp only at h ⊢
    cases hc : c.callee with
    | builtin b =>
      rw [hc] at h
      cases b <;> try exact h.elim
      case len =>
        simp only at h
        obtain ⟨vs, h, b1⟩ := Point.map (fun a => Point.ev tmps a) _ _ h
        cases ht : c.argTypes.toList with
        | nil => rw [ht] at h; cases vs <;> exact h.elim
        | cons t ts =>
          rw [ht] at h
          cases vs with
          | nil => exact h.elim
          | cons v vs =>
            cases vs with
            | cons => exact h.elim
            | nil =>
              simp only [builtinK] at h
              obtain ⟨ty, h, b2⟩ := Point.ty _ _ h
              cases hk : ty.kind with
              | str =>
                rw [hk] at h
                cases v with
                | str s => exact ⟨_, h, fun K' hK => b1 _ (by simp only [builtinK]; exact b2 _ (by simp only [hk]; exact hK))⟩
                | _ => exact h.elim
              | slice u n e =>
                rw [hk] at h
                cases v with
                | sl u xs o => exact ⟨_, h, fun K' hK => b1 _ (by simp only [builtinK]; exact b2 _ (by simp only [hk]; exact hK))⟩
                | nils => exact ⟨_, h, fun K' hK => b1 _ (by simp only [builtinK]; exact b2 _ (by simp only [hk]; exact hK))⟩
                | lens m => exact ⟨_, h, fun K' hK => b1 _ (by simp only [builtinK]; exact b2 _ (by simp only [hk]; exact hK))⟩
                | _ => exact h.elim
              | _ => rw [hk] at h; exact h.elim
      case min =>
        simp only at h
        obtain ⟨vs, h, b1⟩ := Point.map (fun a => Point.ev tmps a) _ _ h
        cases vs with
        | nil => simp only [builtinK] at h
        | cons v vs =>
          simp only [builtinK] at h
          obtain ⟨r, h, b2⟩ := Point.minK _ _ _ _ h
          exact ⟨_, h, fun K' hK => b1 _ (by simp only [builtinK]; exact b2 _ hK)⟩
      case max =>
        simp only at h
        obtain ⟨vs, h, b1⟩ := Point.map (fun a => Point.ev tmps a) _ _ h
        cases vs with
        | nil => simp only [builtinK] at h
        | cons v vs =>
          simp only [builtinK] at h
          obtain ⟨r, h, b2⟩ := Point.minK _ _ _ _ h
          exact ⟨_, h, fun K' hK => b1 _ (by simp only [builtinK]; exact b2 _ hK)⟩
    | value f => rw [hc] at h; exact h.elim
    | _ => rw [hc] at h; exact h.elim
end
end Go.Ab

namespace Go.Ab
open Go
variable {S : Sig} [Cod S] {X : Type}

/-- What an operation yields is put into its slot. -/
def putSt (st : St S) (dst : Option Nat) (v : AV S) : St S := match dst with
  | some d => { st with tmps := st.tmps.set d v }
  | none => st

/-- One operation, with its guard. -/
def guardG (ops : Array Oper) (o : Oper) (run : St S → (St S → X → Prop) → Prop) (st : St S) (x : X) (K : St S → X → Prop) : Prop :=
  match o.guard with
  | none => run st K
  | some (j, want) => match ops[j]? with
    | some oj => match oj.dst with
      | some dj => match st.tmps.getD dj .undef with
        | .bool b => if b = want then run st K else K (putSt st o.dst .skip) x
        | .skip => K (putSt st o.dst .skip) x
        | _ => False
      | none => False
    | none => False

def stepW (P : Par S X) (ops : Array Oper) (o : Oper) (st : St S) (x : X) (K : St S → X → Prop) : Prop :=
  guardG ops o (fun st K => opW P o st x fun v st' x' => K (putSt st' o.dst v) x') st x K

variable {gl : Gl} {En : Env X} {x : X} {w w1 w' : World} {V V' : Nat → Nat → Prop} {l l0 : Loc} {ts : Array Value} {st : St S}
variable {P : Program} {par : Par S X} {a : Act} {K : AV S → St S → X → Prop} {ro : Option Nat} {n : Nat} {o : Oper}
variable [LawCod S]

omit [LawCod S] in
theorem SR.put {a : Act} {dst : Option Nat} {c : AV S} {v : Value} (hs : SR gl En x w V l a.tmps st) (hr : Rep w V l v c) : SR gl En x w V l (a.put dst v).tmps (putSt st dst c) := by
  cases dst with
  | none => exact hs
  | some d => exact hs.setTmp d hr

/-- A look at an element of a row of our own. -/
theorem opX_sound (hpo : ParOk P gl par En) (hs : SR gl En x w V l a.tmps st) {j : Option Nat} (h : opX par j o st fun v => K v st x) : OpOK ro n P o a w (Res gl En a K) := by
  unfold opX at h
  cases ho : o.op <;> rw [ho] at h <;> try exact h.elim
  case indexAddr t y i =>
    refine opW_sound hpo hs ?_
    unfold opW
    rw [ho]
    simp only at h ⊢
    obtain ⟨ty, h, b1⟩ := Point.ty _ _ h
    obtain ⟨v, h, b2⟩ := Point.ev _ _ _ h
    obtain ⟨iv, h, b3⟩ := Point.ev _ _ _ h
    refine b1 _ (b2 _ (b3 _ ?_))
    cases iv with
    | int k n =>
      simp only at h ⊢
      cases hk : ty.kind with
      | slice ut bb ez =>
        rw [hk] at h
        simp only at h ⊢
        cases v with
        | sl u xs r =>
          cases r with
          | none => exact h.elim
          | some e =>
            simp only at h ⊢
            obtain ⟨xs', h, b4⟩ := Point.cast _ _ h
            refine b4 _ ?_
            rw [findK_eq] at h ⊢
            cases hl : lookA st.seg e with
            | none => rw [hl] at h; exact h.elim
            | some ao =>
              rw [hl] at h
              cases ao with
              | row u' f =>
                cases f with
                | true => exact ⟨true, h⟩
                | false => exact h.elim
              | _ => exact h.elim
        | _ => exact h.elim
      | _ => rw [hk] at h; exact h.elim
    | _ => exact h.elim
  case load t p =>
    have hd : ∀ c', o.op ≠ .defer c' := fun c' e => by rw [ho] at e; cases e
    obtain ⟨ty, h, hty⟩ := tyK_elim hpo.ti h
    obtain ⟨pv, h, hp⟩ := evK_elim hs h
    cases pv <;> try exact h.elim
    case elp u d i p =>
      cases j with
      | some j =>
        simp only [nthK_eq] at h
        obtain ⟨v, c, h1, h2, h3⟩ := loadX_ok hty hp (hs.tmp j) h
        exact VOK.op (P := P) ⟨v, w, h1, c, st, x, V, l, h2, hs, h3⟩ hd (by simp only [execOp, ho])
      | none =>
        obtain ⟨b0, h⟩ := h
        rw [findK_eq] at h
        cases hl : lookA st.seg b0 with
        | none => rw [hl] at h; exact h.elim
        | some ao =>
          rw [hl] at h
          cases ao with
          | cells cs =>
            obtain ⟨bb, _, c0, el, _, hrc, _⟩ := hs.seg _ _ hl
            obtain ⟨v, c, h1, h2, h3⟩ := loadX_ok hty hp hrc h
            exact VOK.op (P := P) ⟨v, w, h1, c, st, x, V, l, h2, hs, h3⟩ hd (by simp only [execOp, ho])
          | _ => exact h.elim

omit [LawCod S] in
theorem stepG_sound {ops : Array Oper} {Kq : St S → X → Prop} {next : Act → World → Prop} {Q : Exit → Act → World → Prop} {D : List Deferred} {run : St S → (St S → X → Prop) → Prop}
    (hop : run st Kq → OpOK ro n P o a w (Res gl En a fun v st' x' => Kq (putSt st' o.dst v) x'))
    (hK : ∀ a' w' V' l' st' x', a'.defers = D → Kq st' x' → SR gl En x' w' V' l' a'.tmps st' → next a' w') {i : Nat} (hi : ops[i]? = some o)
    (hD : a.defers = D) (hs : SR gl En x w V l a.tmps st) (h : guardG ops o run st x Kq) : wpOpIn (Fo ro) n P ops Q i next a w := by
  have hrun : Region.wanted o (yielded ops a.tmps) = true → run st Kq → wpOpIn (Fo ro) n P ops Q i next a w := fun hw h => by
    simp only [wpOpIn, hi, hw, if_true]
    refine hop h _ _ ?_
    rintro v w' ⟨c, st', x', V', l', hK', hs', hr⟩
    exact hK _ w' V' l' _ x' (by rw [(put_tmps a o.dst v).1]; exact hD) hK' (SR.put hs' hr)
  have hpass : Region.wanted o (yielded ops a.tmps) = false → Kq (putSt st o.dst .skip) x → wpOpIn (Fo ro) n P ops Q i next a w := fun hw h => by
    simp only [wpOpIn, hi, hw, Bool.false_eq_true, if_false]
    exact ⟨fun _ _ => trivial, hK _ w V l _ x (by rw [(put_tmps a o.dst _).1]; exact hD) h (SR.put hs (c := .skip) (Rep.flat1 rfl))⟩
  simp only [guardG] at h
  cases hg : o.guard with
  | none =>
    rw [hg] at h
    exact hrun (by simp [Region.wanted, hg]) h
  | some p =>
    obtain ⟨j, want⟩ := p
    rw [hg] at h
    simp only at h
    cases hj : ops[j]? with
    | none => rw [hj] at h; exact h.elim
    | some oj =>
      rw [hj] at h
      simp only at h
      cases hdj : oj.dst with
      | none => rw [hdj] at h; exact h.elim
      | some dj =>
        rw [hdj] at h
        simp only at h
        have htmp := hs.tmp dj
        have hwant : Region.wanted o (yielded ops a.tmps) = (yielded ops a.tmps j == some want) := by simp [Region.wanted, hg]
        cases hc : st.tmps.getD dj .undef with
        | bool b =>
          rw [hc] at h htmp
          simp only at h
          have hv := htmp.bool
          have hy : yielded ops a.tmps j = some b := by
            have : a.tmps[dj]? = some (.bool b) := by
              by_cases hlt : dj < a.tmps.size
              · simp only [Array.getD, hlt, dif_pos] at hv
                rw [Array.getElem?_eq_getElem hlt]; exact congrArg some hv
              · simp only [Array.getD, hlt, dif_neg, not_false_eq_true] at hv; cases hv
            simp [yielded, hj, hdj, this]
          by_cases hb : b = want
          · rw [if_pos hb] at h; exact hrun (by rw [hwant, hy, hb]; simp) h
          · rw [if_neg hb] at h; exact hpass (by rw [hwant, hy]; simp [hb]) h
        | skip =>
          rw [hc] at h htmp
          have hv : a.tmps.getD dj Go.undef = Go.undef := htmp.flat' trivial
          have hy : yielded ops a.tmps j = none := by
            unfold yielded
            simp only [hj, hdj, Option.bind_some]
            by_cases hlt : dj < a.tmps.size
            · simp only [Array.getD, hlt, dif_pos] at hv
              rw [Array.getElem?_eq_getElem hlt]
              have hv' : a.tmps[dj] = Go.undef := hv
              rw [hv']; rfl
            · have h0 : a.tmps[dj]? = none := Array.getElem?_eq_none (Nat.le_of_not_lt hlt)
              rw [h0]
          exact hpass (by rw [hwant, hy]; rfl) h
        | _ => rw [hc] at h; exact h.elim

theorem stepW_sound (hpo : ParOk P gl par En) {ops : Array Oper} {Kq : St S → X → Prop} {next : Act → World → Prop} {Q : Exit → Act → World → Prop} {D : List Deferred}
    (hK : ∀ a' w' V' l' st' x', a'.defers = D → Kq st' x' → SR gl En x' w' V' l' a'.tmps st' → next a' w') {i : Nat} (hi : ops[i]? = some o)
    (hD : a.defers = D) (hs : SR gl En x w V l a.tmps st) (h : stepW par ops o st x Kq) : wpOpIn (Fo ro) n P ops Q i next a w :=
  stepG_sound (fun h => opW_sound hpo hs h) hK hi hD hs h

/-- One look at an element of a row of our own, with its guard. -/
def stepX (P : Par S X) (j : Option Nat) (ops : Array Oper) (o : Oper) (st : St S) (x : X) (K : St S → X → Prop) : Prop :=
  guardG ops o (fun st K => opX P j o st fun v => K (putSt st o.dst v) x) st x K

theorem stepX_sound (hpo : ParOk P gl par En) {ops : Array Oper} {Kq : St S → X → Prop} {next : Act → World → Prop} {Q : Exit → Act → World → Prop} {D : List Deferred}
    (hK : ∀ a' w' V' l' st' x', a'.defers = D → Kq st' x' → SR gl En x' w' V' l' a'.tmps st' → next a' w') {i : Nat} (hi : ops[i]? = some o)
    (hD : a.defers = D) (hs : SR gl En x w V l a.tmps st) {j : Option Nat} (h : stepX par j ops o st x Kq) : wpOpIn (Fo ro) n P ops Q i next a w :=
  stepG_sound (fun h => opX_sound (K := fun v st' x' => Kq (putSt st' o.dst v) x') hpo hs h) hK hi hD hs h

end Go.Ab

namespace Go.Ab
open Go
variable {S : Sig} [Cod S] {X : Type} {P : Par S X}

/-- The slots that an operation looks at hold the same. -/
def Same (ls : List Nat) (ts ts' : List (AV S)) : Prop := ∀ t ∈ ls, ts'.getD t .undef = ts.getD t .undef

/-- All boxes are as they were. -/
def SegLe (sg sg' : List (Nat × AO S)) : Prop := ∀ d ao, lookA sg d = some ao → (∀ u f, ao ≠ .row u f) → lookA sg' d = some ao

omit [Cod S] in
theorem evK_same {ls : List Nat} {ts ts' : List (AV S)} (h : Same ls ts ts') {y : Operand} (hy : ∀ t, y = .tmp t → t ∈ ls) (K : AV S → Prop) : evK ts' y K = evK ts y K := by
  cases y with
  | tmp t => simp only [evK, nthK_eq, h t (hy t rfl)]
  | _ => rfl

omit [Cod S] in
theorem evLK_same {ls : List Nat} {ts ts' : List (AV S)} (h : Same ls ts ts') : ∀ {ys : List Operand}, (∀ y ∈ ys, ∀ t, y = .tmp t → t ∈ ls) → ∀ (K : List (AV S) → Prop), evLK ts' ys K = evLK ts ys K
  | [], _, K => rfl
  | y :: ys, hy, K => by
    have ih := evLK_same h (ys := ys) fun y' hy' => hy y' (List.mem_cons_of_mem _ hy')
    simp only [evLK, mapK] at ih ⊢
    rw [evK_same h (hy y (List.mem_cons_self ..))]
    simp only [ih]

omit [Cod S] in
theorem evPK_same {ls : List Nat} {ts ts' : List (AV S)} (h : Same ls ts ts') : ∀ {ys : List (Nat × Operand)}, (∀ y ∈ ys, ∀ t, y.2 = .tmp t → t ∈ ls) → ∀ (K : List (Nat × AV S) → Prop), evPK ts' ys K = evPK ts ys K
  | [], _, K => rfl
  | (i, y) :: ys, hy, K => by
    have ih := evPK_same h (ys := ys) fun y' hy' => hy y' (List.mem_cons_of_mem _ hy')
    simp only [evPK]
    rw [evK_same h (hy (i, y) (List.mem_cons_self ..))]
    simp only [ih]

theorem looksAt_op {ops : Array Oper} {o : Oper} {y : Operand} (hy : y ∈ o.op.operands) (t : Nat) (e : y = .tmp t) : t ∈ o.looksAt ops := by
  subst e
  exact List.mem_append_left _ (List.mem_filterMap.2 ⟨.tmp t, by simpa using hy, rfl⟩)

theorem loadK_le {ty : TyI S} {p : AV S} {ts ts' : List (AV S)} {sg sg' up : List (Nat × AO S)} (hle : SegLe sg sg') {K : AV S → Prop} (h : loadK ty p { tmps := ts, seg := sg, up := up } K) :
    loadK ty p { tmps := ts', seg := sg', up := up } K := by
  cases p with
  | own d q =>
    simp only [loadK, findK_eq] at h ⊢
    cases hl : lookA sg d with
    | none => rw [hl] at h; exact h.elim
    | some ao =>
      rw [hl] at h
      cases ao with
      | row u f => exact h.elim
      | _ => rw [hle d _ hl (by simp)]; exact h
  | _ => exact h

theorem frzK_le {v : AV S} {sg sg' : List (Nat × AO S)} (hle : SegLe sg sg') {K : List (AV S) → Prop} (h : frzK v sg K) : frzK v sg' K := by
  cases v with
  | own d q =>
    simp only [frzK, findK_eq] at h ⊢
    cases hl : lookA sg d with
    | none => rw [hl] at h; exact h.elim
    | some ao =>
      rw [hl] at h
      cases ao with
      | frz cs => rw [hle d _ hl (by simp)]; exact h
      | _ => exact h.elim
  | _ => exact h

theorem opV_same {ops : Array Oper} {o : Oper} {ts ts' : List (AV S)} {sg sg' up : List (Nat × AO S)} (h : Same (o.looksAt ops) ts ts') (hle : SegLe sg sg') {K : AV S → Prop}
    (hv : opV P o ts sg up K) : opV P o ts' sg' up K := by
  have he : ∀ y ∈ o.op.operands, ∀ K, evK ts' y K = evK ts y K := fun y hy K => evK_same h (fun t e => looksAt_op hy t e) K
  unfold opV at hv ⊢
  cases ho : o.op <;> rw [ho] at hv he <;> try exact hv.elim
  case move y => simp only [he y (by simp [Op.operands])]; exact hv
  case assign y => simp only [he y (by simp [Op.operands])]; exact hv
  case pick c y z => simp only [he c (by simp [Op.operands]), he y (by simp [Op.operands]), he z (by simp [Op.operands])]; exact hv
  case load t p =>
    simp only [he p (by simp [Op.operands])]
    obtain ⟨ty, hv, b1⟩ := Point.ty _ _ hv
    obtain ⟨pv, hv, b2⟩ := Point.ev _ _ _ hv
    exact b1 _ (b2 _ (loadK_le hle hv))
  case nilCheck y => simp only [he y (by simp [Op.operands])]; exact hv
  case binOp op t y z f => simp only [he y (by simp [Op.operands]), he z (by simp [Op.operands])]; exact hv
  case unOp op t y => simp only [he y (by simp [Op.operands])]; exact hv
  case convert t t' y => simp only [he y (by simp [Op.operands])]; exact hv
  case fieldAddr t y f => simp only [he y (by simp [Op.operands])]; exact hv
  case field t y f => simp only [he y (by simp [Op.operands])]; exact hv
  case indexAddr t y i => simp only [he y (by simp [Op.operands]), he i (by simp [Op.operands])]; exact hv
  case index t y i => simp only [he y (by simp [Op.operands]), he i (by simp [Op.operands])]; exact hv
  case extract y i => simp only [he y (by simp [Op.operands])]; exact hv
  case build t ps =>
    have hP : ∀ K, evPK ts' ps.toList K = evPK ts ps.toList K := fun K => evPK_same h (fun y hy t e => looksAt_op (by rw [ho]; simp only [Op.operands]; simp; exact ⟨y.1, by have : (y.1, y.2) ∈ ps := (by simpa using hy); exact this⟩) t e) K
    simp only [hP]; exact hv
  case buildSlice t len ps => exact hv
  case slice t y lo hi mx =>
    cases mx with
    | some m => exact hv.elim
    | none =>
      have h1 : ∀ K, optOp lo ts' K = optOp lo ts K := fun K => by
        cases lo with
        | none => rfl
        | some z => simp only [optOp]; rw [he z (by simp [Op.operands])]
      have h2 : ∀ K, optOp hi ts' K = optOp hi ts K := fun K => by
        cases hi with
        | none => rfl
        | some z => simp only [optOp]; rw [he z (by simp [Op.operands])]
      simp only [he y (by simp [Op.operands]), h1, h2]
      obtain ⟨ty, hv, b1⟩ := Point.ty _ _ hv
      obtain ⟨v, hv, b2⟩ := Point.ev _ _ _ hv
      obtain ⟨lv, hv, b3⟩ := Point.optOp _ _ _ hv
      obtain ⟨hv', hv, b4⟩ := Point.optOp _ _ _ hv
      refine b1 _ (b2 _ (b3 _ (b4 _ ?_)))
      cases hk : ty.kind with
      | array ua n => rw [hk] at hv; exact frzK_le hle hv
      | _ => rw [hk] at hv; exact hv
  case call c =>
    simp only at hv ⊢
    cases hc : c.callee with
    | builtin b =>
      rw [hc] at hv
      cases b <;> try exact hv.elim
      case len =>
        simp only at hv ⊢
        have hL : ∀ K, evLK ts' c.args.toList K = evLK ts c.args.toList K := fun K => evLK_same h (fun y hy t e => looksAt_op (by rw [ho]; simp [Op.operands, Call.operands, hc]; simpa using hy) t e) K
        rw [hL]
        obtain ⟨vs, hv, b1⟩ := Point.map (fun a => Point.ev ts a) _ _ hv
        refine b1 _ ?_
        cases ht : c.argTypes.toList with
        | nil => rw [ht] at hv; cases vs <;> exact hv.elim
        | cons t tl =>
          rw [ht] at hv
          cases vs with
          | nil => exact hv.elim
          | cons v vs =>
            cases vs with
            | cons => exact hv.elim
            | nil => exact hv
      case min =>
        simp only at hv ⊢
        have hL : ∀ K, evLK ts' c.args.toList K = evLK ts c.args.toList K := fun K => evLK_same h (fun y hy t e => looksAt_op (by rw [ho]; simp [Op.operands, Call.operands, hc]; simpa using hy) t e) K
        rw [hL]
        obtain ⟨vs, hv, b1⟩ := Point.map (fun a => Point.ev ts a) _ _ hv
        refine b1 _ ?_
        cases vs with
        | nil => simp only [builtinK] at hv
        | cons v vs => exact hv
      case max =>
        simp only at hv ⊢
        have hL : ∀ K, evLK ts' c.args.toList K = evLK ts c.args.toList K := fun K => evLK_same h (fun y hy t e => looksAt_op (by rw [ho]; simp [Op.operands, Call.operands, hc]; simpa using hy) t e) K
        rw [hL]
        obtain ⟨vs, hv, b1⟩ := Point.map (fun a => Point.ev ts a) _ _ hv
        refine b1 _ ?_
        cases vs with
        | nil => simp only [builtinK] at hv
        | cons v vs => exact hv
    | value f => rw [hc] at hv; exact hv.elim
    | _ => rw [hc] at hv; exact hv.elim

theorem opV_opW {o : Oper} {st : St S} {x : X} {K : AV S → St S → X → Prop} (h : opV P o st.tmps st.seg st.up fun v => K v st x) : opW P o st x K := by
  unfold opV at h
  unfold opW
  cases ho : o.op <;> rw [ho] at h <;> try exact h.elim
  case move y => exact h
  case assign y =>
    obtain ⟨v, h, b⟩ := Point.ev _ _ _ h
    refine b _ ?_
    cases v <;> first | exact h.elim | exact h
  case pick c y z =>
    obtain ⟨cv, h, b1⟩ := Point.ev _ _ _ h
    obtain ⟨av, h, b2⟩ := Point.ev _ _ _ h
    obtain ⟨bv, h, b3⟩ := Point.ev _ _ _ h
    refine b1 _ (b2 _ (b3 _ ?_))
    cases cv with
    | bool t =>
      cases av with
      | bool p => cases bv <;> exact h
      | _ => exact h
    | _ => exact h.elim
  case load t p =>
    obtain ⟨ty, h, b1⟩ := Point.ty _ _ h
    obtain ⟨pv, h, b2⟩ := Point.ev _ _ _ h
    refine b1 _ (b2 _ ?_)
    cases pv <;> first | exact h.elim | exact h
  case nilCheck y =>
    obtain ⟨v, h, b⟩ := Point.ev _ _ _ h
    refine b _ ?_
    cases v <;> first | exact h.elim | exact h
  case binOp op t y z f =>
    simp only
    cases hnb : nilOpB z with
    | false => exact h
    | true =>
      exfalso
      unfold nilOpB at hnb
      split at hnb
      · split at hnb
        · obtain ⟨c, h, _⟩ := Point.ev _ _ _ h
          simp only [evK, constK] at h
          cases c <;> exact h
        · cases hnb
      · cases hnb
  case unOp op t y => exact h
  case convert t t' y => exact h
  case fieldAddr t y f => exact h
  case field t y f => exact h
  case indexAddr t y i =>
    obtain ⟨ty, h, b1⟩ := Point.ty _ _ h
    obtain ⟨v, h, b2⟩ := Point.ev _ _ _ h
    obtain ⟨iv, h, b3⟩ := Point.ev _ _ _ h
    refine b1 _ (b2 _ (b3 _ ?_))
    cases iv with
    | int k n =>
      cases hk : ty.kind with
      | array u len => rw [hk] at h; exact h
      | slice u b e =>
        rw [hk] at h
        cases v with
        | sl u' xs o =>
          cases o with
          | none => exact h
          | some d => exact h.elim
        | _ => exact h.elim
      | _ => rw [hk] at h; exact h.elim
    | _ => exact h.elim
  case index t y i =>
    obtain ⟨ty, h, b1⟩ := Point.ty _ _ h
    obtain ⟨v, h, b2⟩ := Point.ev _ _ _ h
    obtain ⟨iv, h, b3⟩ := Point.ev _ _ _ h
    refine b1 _ (b2 _ (b3 _ ?_))
    cases hk : ty.kind <;> rw [hk] at h <;> cases v <;> cases iv <;> first | exact h.elim | exact h
  case build t ps => exact h
  case buildSlice t len ps =>
    simp only at h ⊢
    cases hps : ps.toList with
    | cons => rw [hps] at h; exact h.elim
    | nil => rw [hps] at h; exact h
  case slice t y lo hi mx =>
    cases mx with
    | some m => exact h.elim
    | none =>
      obtain ⟨ty, h, b1⟩ := Point.ty _ _ h
      obtain ⟨v, h, b2⟩ := Point.ev _ _ _ h
      obtain ⟨lv, h, b3⟩ := Point.optOp _ _ _ h
      obtain ⟨hv, h, b4⟩ := Point.optOp _ _ _ h
      refine b1 _ (b2 _ (b3 _ (b4 _ ?_)))
      cases hk : ty.kind with
      | slice ut b e =>
        rw [hk] at h
        cases v with
        | sl u xs o =>
          cases o with
          | none => generalize (P.ow && lo.isNone) = bb; cases bb <;> exact h
          | some d => exact h.elim
        | _ => exact h.elim
      | str =>
        rw [hk] at h
        cases v with
        | str s => exact h
        | _ => exact h.elim
      | array ua n =>
        rw [hk] at h
        cases v with
        | ref cs => cases cs with
          | nil => exact h.elim
          | cons c cs => exact h
        | own d q =>
          simp only [frzK, findK_eq] at h
          simp only [outK, findK_eq]
          cases hl : lookA st.seg d with
          | none => rw [hl] at h; exact h.elim
          | some ao =>
            rw [hl] at h
            cases ao with
            | frz cs =>
              obtain ⟨l, h, b5⟩ := Point.read q cs _ h
              refine b5 _ ?_
              cases l with
              | nil => exact h.elim
              | cons c cs => exact h
            | _ => exact h.elim
        | _ => exact h.elim
      | _ => rw [hk] at h; exact h.elim
  case extract y i => exact h
  case call c =>
    simp only at h ⊢
    cases hc : c.callee with
    | builtin b =>
      rw [hc] at h
      cases b <;> try exact h.elim
      case len =>
        simp only at h ⊢
        obtain ⟨vs, h, b1⟩ := Point.map (fun a => Point.ev st.tmps a) _ _ h
        refine b1 _ ?_
        cases ht : c.argTypes.toList with
        | nil => rw [ht] at h; cases vs <;> exact h.elim
        | cons t tl =>
          rw [ht] at h
          cases vs with
          | nil => exact h.elim
          | cons v vs =>
            cases vs with
            | cons => exact h.elim
            | nil =>
              simp only [builtinK] at h ⊢
              obtain ⟨ty, h, b2⟩ := Point.ty _ _ h
              refine b2 _ ?_
              cases hk : ty.kind with
              | str =>
                rw [hk] at h
                cases v with
                | str s => exact h
                | _ => exact h.elim
              | slice u n e =>
                rw [hk] at h
                cases v with
                | sl u xs o => exact h
                | nils => exact h
                | lens m => exact h
                | _ => exact h.elim
              | _ => rw [hk] at h; exact h.elim
      case min =>
        simp only at h ⊢
        obtain ⟨vs, h, b1⟩ := Point.map (fun a => Point.ev st.tmps a) _ _ h
        refine b1 _ ?_
        cases vs with
        | nil => simp only [builtinK] at h
        | cons v vs =>
          simp only [builtinK] at h ⊢
          exact h
      case max =>
        simp only at h ⊢
        obtain ⟨vs, h, b1⟩ := Point.map (fun a => Point.ev st.tmps a) _ _ h
        refine b1 _ ?_
        cases vs with
        | nil => simp only [builtinK] at h
        | cons v vs =>
          simp only [builtinK] at h ⊢
          exact h
    | value f => rw [hc] at h; exact h.elim
    | _ => rw [hc] at h; exact h.elim

omit [Cod S] in
theorem Point.plainL : ∀ (ts : List Nat) (vs : List (AV S)), Point (plainLK P ts vs)
  | [], vs => fun K h => by simp only [plainLK] at h ⊢; exact ⟨_, h, fun _ h => h⟩
  | t :: ts, [] => fun K h => by simp only [plainLK] at h ⊢; exact ⟨_, h, fun _ h => h⟩
  | t :: ts, v :: vs => fun K h => by
    simp only [plainLK] at h ⊢
    have hp : Point (plainK P t v) := by
      intro K h
      cases v with
      | nils =>
        simp only [plainK] at h ⊢
        obtain ⟨ty, h, b1⟩ := Point.ty _ _ h
        cases hk : ty.kind with
        | slice u b e => rw [hk] at h; exact ⟨_, h, fun K' hK => b1 _ (by rw [hk]; exact hK)⟩
        | _ => rw [hk] at h; exact h.elim
      | _ => exact ⟨_, h, fun _ h => h⟩
    obtain ⟨v', h, b1⟩ := hp _ h
    obtain ⟨l, h, b2⟩ := Point.plainL ts vs _ h
    exact ⟨_, h, fun K' hK => b1 _ (b2 _ hK)⟩


end Go.Ab

namespace Go.Ab
open Go
variable {S : Sig} [Cod S] {X : Type} {P : Par S X} {ops : Array Oper} {o q : Oper} {st : St S} {x : X} {K : St S → X → Prop}

/-! ### Objects that are put -/

def putsA (sg : List (Nat × AO S)) (l : List (Nat × AO S)) : List (Nat × AO S) := l.foldl (fun s p => putA s p.1 p.2) sg

theorem putA_comm {α : Type} {n m : Nat} {a b : α} (h : n ≠ m) : ∀ l : List (Nat × α), putA (putA l n a) m b = putA (putA l m b) n a
  | [] => by
    simp only [putA]
    by_cases h1 : m ≤ n
    · by_cases h2 : n ≤ m
      · omega
      · simp [h, h.symm, h1, h2]
    · by_cases h2 : n ≤ m
      · simp [h, h.symm, h1, h2]
      · omega
  | (k, c) :: l => by
    have ih := putA_comm h (a := a) (b := b) l
    have hs := h.symm
    by_cases hn : k = n
    · subst hn
      have h0 : ¬ m = k := hs
      by_cases hm : m ≤ k
      · have h5 : ¬ k ≤ m := by omega
        simp [putA, h, h0, hm, h5]
      · simp [putA, h, hm]
    · by_cases hm : k = m
      · subst hm
        by_cases hn2 : n ≤ k
        · have h5 : ¬ k ≤ n := by omega
          simp [putA, hn, hn2, h, h5]
        · simp [putA, hn, hn2]
      · by_cases h1 : n ≤ k
        · by_cases h2 : m ≤ k
          · by_cases h3 : n ≤ m
            · have h4 : ¬ m ≤ n := by omega
              simp [putA, hn, hm, h1, h2, h, hs, h3, h4]
            · have h4 : m ≤ n := by omega
              simp [putA, hn, hm, h1, h2, h, hs, h3, h4]
          · have h3 : ¬ m ≤ n := by omega
            simp [putA, hn, hm, h1, h2, h, h3]
        · by_cases h2 : m ≤ k
          · have h3 : ¬ n ≤ m := by omega
            simp [putA, hn, hm, h1, h2, hs, h3]
          · simp [putA, hn, hm, h1, h2, ih]

omit [Cod S] in
theorem putsA_one {l : List (Nat × AO S)} {n : Nat} {a : AO S} : ∀ {sg : List (Nat × AO S)}, (∀ p ∈ l, p.1 ≠ n) → putsA (putA sg n a) l = putA (putsA sg l) n a := by
  induction l with
  | nil => intro sg _; rfl
  | cons p l ih =>
    intro sg h
    show putsA (putA (putA sg n a) p.1 p.2) l = putA (putsA (putA sg p.1 p.2) l) n a
    rw [putA_comm (h p (List.mem_cons_self ..)).symm]
    exact ih fun p' hp' => h p' (List.mem_cons_of_mem _ hp')

omit [Cod S] in
theorem putsA_comm {l m : List (Nat × AO S)} : ∀ {sg : List (Nat × AO S)}, (∀ p ∈ l, ∀ q ∈ m, p.1 ≠ q.1) → putsA (putsA sg l) m = putsA (putsA sg m) l := by
  induction l with
  | nil => intro sg _; rfl
  | cons p l ih =>
    intro sg h
    show putsA (putsA (putA sg p.1 p.2) l) m = putsA (putA (putsA sg m) p.1 p.2) l
    rw [ih fun p' hp' => h p' (List.mem_cons_of_mem _ hp'), putsA_one fun q hq => (h p (List.mem_cons_self ..) q hq).symm]

omit [Cod S] in
theorem lookA_putsA_ne {l : List (Nat × AO S)} {d : Nat} : ∀ {sg : List (Nat × AO S)}, (∀ p ∈ l, p.1 ≠ d) → lookA (putsA sg l) d = lookA sg d := by
  induction l with
  | nil => intro sg _; rfl
  | cons p l ih =>
    intro sg h
    show lookA (putsA (putA sg p.1 p.2) l) d = _
    rw [ih fun p' hp' => h p' (List.mem_cons_of_mem _ hp'), lookA_putA, if_neg (h p (List.mem_cons_self ..))]

omit [Cod S] in
theorem putsA_append {sg l m : List (Nat × AO S)} : putsA sg (l ++ m) = putsA (putsA sg l) m := by simp [putsA, List.foldl_append]

/-- Rows in the place of rows. -/
def RowsIn (sg l : List (Nat × AO S)) : Prop := ∀ p ∈ l, (∃ u f, p.2 = .row u f) ∧ ∃ u f, lookA sg p.1 = some (.row u f)

/-- New objects, under a number and what belongs to it. -/
def NewIn (d : Nat) (sg l : List (Nat × AO S)) : Prop := ∀ p ∈ l, lookA sg p.1 = none ∧ p.1 % 1000 = d % 1000

/-- All objects are there, as they were. -/
def Sub (sg sg' : List (Nat × AO S)) : Prop := ∀ d ao, lookA sg d = some ao → lookA sg' d = some ao

/-- What belongs to a number is there in both, or in none. -/
def Alike (d : Nat) (sg sg' : List (Nat × AO S)) : Prop := ∀ k, k % 1000 = d % 1000 → (lookA sg' k).isSome = (lookA sg k).isSome

omit [Cod S] in
theorem Sub.put {sg sg' : List (Nat × AO S)} (h : Sub sg sg') (n : Nat) (a : AO S) : Sub (putA sg n a) (putA sg' n a) := by
  intro d ao hd
  rw [lookA_putA] at hd ⊢
  by_cases e : n = d
  · rw [if_pos e] at hd ⊢; exact hd
  · rw [if_neg e] at hd ⊢; exact h d ao hd

omit [Cod S] in
theorem Sub.puts {l : List (Nat × AO S)} : ∀ {sg sg' : List (Nat × AO S)}, Sub sg sg' → Sub (putsA sg l) (putsA sg' l) := by
  induction l with
  | nil => exact fun h => h
  | cons p l ih => exact fun h => ih (h.put _ _)

omit [Cod S] in
theorem lookA_putsA_row {l : List (Nat × AO S)} {d : Nat} : ∀ {sg : List (Nat × AO S)}, RowsIn sg l → ((∃ u f, lookA (putsA sg l) d = some (.row u f)) ↔ ∃ u f, lookA sg d = some (.row u f)) := by
  induction l with
  | nil => exact fun _ => Iff.rfl
  | cons p l ih =>
    intro sg h
    have h1 : ∀ d, (∃ u f, lookA (putA sg p.1 p.2) d = some (.row u f)) ↔ ∃ u f, lookA sg d = some (.row u f) := fun d => by
      rw [lookA_putA]
      by_cases e : p.1 = d
      · rw [if_pos e]
        obtain ⟨⟨u, f, h2⟩, h3⟩ := h p (List.mem_cons_self ..)
        rw [e] at h3
        exact ⟨fun _ => h3, fun _ => ⟨u, f, by rw [h2]⟩⟩
      · rw [if_neg e]
    show (∃ u f, lookA (putsA (putA sg p.1 p.2) l) d = _) ↔ _
    rw [ih fun p' hp' => ⟨(h p' (List.mem_cons_of_mem _ hp')).1, (h1 _).2 (h p' (List.mem_cons_of_mem _ hp')).2⟩]
    exact h1 d

omit [Cod S] in
theorem RowsIn.segLe {sg l : List (Nat × AO S)} (h : RowsIn sg l) : SegLe sg (putsA sg l) := by
  intro d ao hd hr
  rw [lookA_putsA_ne fun p hp e => ?_]
  · exact hd
  · obtain ⟨u, f, h1⟩ := (h p hp).2
    rw [e, hd] at h1
    cases h1
    exact hr u f rfl

omit [Cod S] in
theorem NewIn.ne {d : Nat} {sg l : List (Nat × AO S)} (h : NewIn d sg l) {k : Nat} {ao : AO S} (hk : lookA sg k = some ao) : ∀ p ∈ l, p.1 ≠ k := fun p hp e => by
  have := (h p hp).1
  rw [e, hk] at this
  cases this

omit [Cod S] in
theorem NewIn.sub {d : Nat} {sg l : List (Nat × AO S)} (h : NewIn d sg l) : Sub sg (putsA sg l) := fun k ao hk => by
  rw [lookA_putsA_ne (h.ne hk)]; exact hk

omit [Cod S] in
theorem Sub.segLe {sg sg' : List (Nat × AO S)} (h : Sub sg sg') : SegLe sg sg' := fun d ao hd _ => h d ao hd

/-! ### What is handed on by a call that freezes nothing -/

theorem outSK_form : ∀ (n : Nat), (∀ (v : AV S) (sg : List (Nat × AO S)) (K : AV S → List (Nat × AO S) → Prop), outSK n v sg K → ∃ v' l, RowsIn sg l ∧ K v' (putsA sg l) ∧ ∀ sg' (K' : AV S → List (Nat × AO S) → Prop), Sub sg sg' → K' v' (putsA sg' l) → outSK n v sg' K') ∧
    (∀ (vs : List (AV S)) (sg : List (Nat × AO S)) (K : List (AV S) → List (Nat × AO S) → Prop), outSK.outLS n vs sg K → ∃ vs' l, RowsIn sg l ∧ K vs' (putsA sg l) ∧ ∀ sg' (K' : List (AV S) → List (Nat × AO S) → Prop), Sub sg sg' → K' vs' (putsA sg' l) → outSK.outLS n vs sg' K')
  | 0 => ⟨fun v sg K h => by simp [outSK] at h, fun l sg K h => by
      cases l with
      | nil => simp only [outSK.outLS] at h ⊢; exact ⟨[], [], fun p hp => by simp at hp, h, fun sg' K' _ hK => hK⟩
      | cons v l => simp [outSK.outLS] at h⟩
  | n + 1 => by
    obtain ⟨ih1, ih2⟩ := outSK_form n
    have hnil : ∀ sg : List (Nat × AO S), RowsIn sg [] := fun sg p hp => by simp at hp
    refine ⟨fun v sg K h => ?_, fun l sg K h => ?_⟩
    · cases v with
      | own d p =>
        simp only [outSK] at h ⊢
        rw [findK_eq] at h
        cases hl : lookA sg d with
        | none => rw [hl] at h; exact h.elim
        | some ao =>
          rw [hl] at h
          cases ao with
          | frz cs =>
            obtain ⟨l, h, b3⟩ := Point.read p cs _ h
            exact ⟨_, [], hnil _, h, fun sg' K' hs hK => by rw [findK_eq, hs _ _ hl]; exact b3 _ hK⟩
          | cells cs => exact h.elim
          | row u f => exact h.elim
          | mp kvs => exact h.elim
          | mpz ks us => exact h.elim
      | sl u xs o =>
        cases o with
        | none => simp only [outSK] at h ⊢; exact ⟨_, [], hnil _, h, fun sg' K' _ hK => hK⟩
        | some d =>
          simp only [outSK] at h ⊢
          rw [findK_eq] at h
          cases hl : lookA sg d with
          | none => rw [hl] at h; exact h.elim
          | some ao =>
            rw [hl] at h
            cases ao with
            | row u' f =>
              simp only [putK_eq] at h
              refine ⟨_, [(d, .row u' false)], fun p hp => ?_, h, fun sg' K' hs hK => by rw [findK_eq, hs _ _ hl]; simp only [putK_eq]; exact hK⟩
              obtain rfl := List.mem_singleton.1 hp
              exact ⟨⟨_, _, rfl⟩, _, _, hl⟩
            | cells cs => exact h.elim
            | frz cs => exact h.elim
            | mp kvs => exact h.elim
            | mpz ks us => exact h.elim
      | agg cs =>
        simp only [outSK] at h ⊢
        obtain ⟨vs, l, h1, h2, h3⟩ := ih2 cs sg _ h
        exact ⟨_, l, h1, h2, fun sg' K' hs hK => h3 sg' (fun l sg' => K' (.agg l) sg') hs hK⟩
      | tup cs =>
        simp only [outSK] at h ⊢
        obtain ⟨vs, l, h1, h2, h3⟩ := ih2 cs sg _ h
        exact ⟨_, l, h1, h2, fun sg' K' hs hK => h3 sg' (fun l sg' => K' (.tup l) sg') hs hK⟩
      | clo fn f c =>
        simp only [outSK] at h ⊢
        obtain ⟨vs, l, h1, h2, h3⟩ := ih2 f sg _ h
        obtain ⟨vs2, l2, h4, h5, h6⟩ := ih2 c _ _ h2
        refine ⟨_, l ++ l2, fun p hp => ?_, by rw [putsA_append]; exact h5, fun sg' K' hs hK => h3 sg' (fun f' sg' => outSK.outLS n c sg' fun c' sg'' => K' (.clo fn f' c') sg'') hs (h6 _ (fun c' sg'' => K' (.clo fn vs c') sg'') hs.puts (by rw [putsA_append] at hK; exact hK))⟩
        rcases List.mem_append.1 hp with hp | hp
        · exact h1 p hp
        · exact ⟨(h4 p hp).1, (lookA_putsA_row h1).1 (h4 p hp).2⟩
      | up d p => simp [outSK] at h
      | undef => simp [outSK] at h
      | cb => simp [outSK] at h
      | mpv d =>
        simp only [outSK] at h ⊢
        rw [findK_eq] at h
        cases hl : lookA sg d with
        | none => rw [hl] at h; exact h.elim
        | some ao =>
          rw [hl] at h
          cases ao with
          | mpz ks us => exact ⟨_, [], hnil _, h, fun sg' K' hs hK => by rw [findK_eq, hs _ _ hl]; exact hK⟩
          | _ => exact h.elim
      | mpu d => simp [outSK] at h
      | elp u d i p => simp [outSK] at h
      | _ => simp only [outSK] at h ⊢; exact ⟨_, [], hnil _, h, fun sg' K' _ hK => hK⟩
    · cases l with
      | nil => simp only [outSK.outLS] at h ⊢; exact ⟨[], [], hnil _, h, fun sg' K' _ hK => hK⟩
      | cons v vs =>
        simp only [outSK.outLS] at h ⊢
        obtain ⟨v', l, h1, h2, h3⟩ := ih1 v sg _ h
        obtain ⟨vs2, l2, h4, h5, h6⟩ := ih2 vs _ _ h2
        refine ⟨_, l ++ l2, fun p hp => ?_, by rw [putsA_append]; exact h5, fun sg' K' hs hK => h3 sg' (fun f' sg' => outSK.outLS n vs sg' fun c' sg'' => K' (f' :: c') sg'') hs (h6 _ (fun c' sg'' => K' (v' :: c') sg'') hs.puts (by rw [putsA_append] at hK; exact hK))⟩
        rcases List.mem_append.1 hp with hp | hp
        · exact h1 p hp
        · exact ⟨(h4 p hp).1, (lookA_putsA_row h1).1 (h4 p hp).2⟩

theorem outSK_outK : ∀ (n : Nat), (∀ (v : AV S) (sg : List (Nat × AO S)) (K K' : AV S → List (Nat × AO S) → Prop), (∀ a b, K a b → K' a b) → outSK n v sg K → outK n v sg K') ∧
    (∀ (vs : List (AV S)) (sg : List (Nat × AO S)) (K K' : List (AV S) → List (Nat × AO S) → Prop), (∀ a b, K a b → K' a b) → outSK.outLS n vs sg K → outK.outLK n vs sg K')
  | 0 => ⟨fun v sg K K' _ h => by simp [outSK] at h, fun l sg K K' hk h => by
      cases l with
      | nil => simp only [outSK.outLS, outK.outLK] at h ⊢; exact hk _ _ h
      | cons v l => simp [outSK.outLS] at h⟩
  | n + 1 => by
    obtain ⟨ih1, ih2⟩ := outSK_outK n
    refine ⟨fun v sg K K' hk h => ?_, fun l sg K K' hk h => ?_⟩
    · cases v with
      | own d p =>
        simp only [outSK, outK] at h ⊢
        rw [findK_eq] at h ⊢
        cases hl : lookA sg d with
        | none => rw [hl] at h; exact h.elim
        | some ao =>
          rw [hl] at h
          cases ao with
          | frz cs => obtain ⟨l, h, b3⟩ := Point.read p cs _ h; exact b3 _ (hk _ _ h)
          | cells cs => exact h.elim
          | row u f => exact h.elim
          | mp kvs => exact h.elim
          | mpz ks us => exact h.elim
      | sl u xs o =>
        cases o with
        | none => simp only [outSK, outK] at h ⊢; exact hk _ _ h
        | some d =>
          simp only [outSK, outK] at h ⊢
          rw [findK_eq] at h ⊢
          cases hl : lookA sg d with
          | none => rw [hl] at h; exact h.elim
          | some ao =>
            rw [hl] at h
            cases ao with
            | row u' f => simp only [putK_eq] at h ⊢; exact hk _ _ h
            | cells cs => exact h.elim
            | frz cs => exact h.elim
            | mp kvs => exact h.elim
            | mpz ks us => exact h.elim
      | agg cs => simp only [outSK, outK] at h ⊢; exact ih2 _ _ _ _ (fun a b h => hk _ _ h) h
      | tup cs => simp only [outSK, outK] at h ⊢; exact ih2 _ _ _ _ (fun a b h => hk _ _ h) h
      | clo fn f c => simp only [outSK, outK] at h ⊢; exact ih2 _ _ _ _ (fun a b h => ih2 _ _ _ _ (fun a b h => hk _ _ h) h) h
      | up d p => simp [outSK] at h
      | undef => simp [outSK] at h
      | cb => simp [outSK] at h
      | mpv d =>
        simp only [outSK, outK] at h ⊢
        rw [findK_eq] at h ⊢
        cases hl : lookA sg d with
        | none => rw [hl] at h; exact h.elim
        | some ao =>
          rw [hl] at h
          cases ao with
          | mpz ks us => exact hk _ _ h
          | _ => exact h.elim
      | mpu d => simp [outSK] at h
      | elp u d i p => simp [outSK] at h
      | _ => simp only [outSK, outK] at h ⊢; exact hk _ _ h
    · cases l with
      | nil => simp only [outSK.outLS, outK.outLK] at h ⊢; exact hk _ _ h
      | cons v l => simp only [outSK.outLS, outK.outLK] at h ⊢; exact ih1 _ _ _ _ (fun a b h => ih2 _ _ _ _ (fun a b h => hk _ _ h) h) h

/-- Calls: what is asked of what they return can be weakened; something does return. -/
structure CallOk (P : Par S X) : Prop where
  mono : ∀ f args (Q Q' : AV S → Prop), (∀ r, Q r → Q' r) → P.call f args Q → P.call f args Q'
  wit : ∀ f args (Q : AV S → Prop), P.call f args Q → ∃ r, Q r

theorem peekK_form : ∀ (n : Nat), (∀ (v : AV S) (sg : List (Nat × AO S)) (K : AV S → Prop), peekK n v sg K → ∃ v', K v' ∧ ∀ sg' (K' : AV S → Prop), Sub sg sg' → K' v' → peekK n v sg' K') ∧
    (∀ (vs : List (AV S)) (sg : List (Nat × AO S)) (K : List (AV S) → Prop), peekK.peekLK n vs sg K → ∃ vs', K vs' ∧ ∀ sg' (K' : List (AV S) → Prop), Sub sg sg' → K' vs' → peekK.peekLK n vs sg' K')
  | 0 => ⟨fun v sg K h => by simp [peekK] at h, fun l sg K h => by
      cases l with
      | nil => simp only [peekK.peekLK] at h ⊢; exact ⟨[], h, fun sg' K' _ hK => hK⟩
      | cons v l => simp [peekK.peekLK] at h⟩
  | n + 1 => by
    obtain ⟨ih1, ih2⟩ := peekK_form n
    refine ⟨fun v sg K h => ?_, fun l sg K h => ?_⟩
    · cases v with
      | own d p =>
        simp only [peekK] at h ⊢
        rw [findK_eq] at h
        cases hl : lookA sg d with
        | none => rw [hl] at h; exact h.elim
        | some ao =>
          rw [hl] at h
          cases ao with
          | frz cs =>
            obtain ⟨l, h, b3⟩ := Point.read p cs _ h
            exact ⟨_, h, fun sg' K' hs hK => by rw [findK_eq, hs _ _ hl]; exact b3 _ hK⟩
          | cells cs =>
            obtain ⟨cs', h, b2⟩ := ih2 _ _ _ h
            obtain ⟨l, h, b3⟩ := Point.read p cs' _ h
            exact ⟨_, h, fun sg' K' hs hK => by rw [findK_eq, hs _ _ hl]; exact b2 sg' _ hs (b3 _ hK)⟩
          | _ => exact h.elim
      | mpv d =>
        simp only [peekK] at h ⊢
        rw [findK_eq] at h
        cases hl : lookA sg d with
        | none => rw [hl] at h; exact h.elim
        | some ao =>
          rw [hl] at h
          cases ao with
          | mp kvs =>
            simp only at h
            cases hb : bareB (kvs.map fun p => p.1) && bareB (kvs.map fun p => p.2) with
            | false => rw [hb] at h; exact h.elim
            | true =>
              rw [hb] at h
              exact ⟨_, h, fun sg' K' hs hK => by rw [findK_eq, hs _ _ hl]; simp only [hb]; exact hK⟩
          | mpz ks us => exact ⟨_, h, fun sg' K' hs hK => by rw [findK_eq, hs _ _ hl]; exact hK⟩
          | _ => exact h.elim
      | sl u xs o => cases o <;> (simp only [peekK] at h ⊢; exact ⟨_, h, fun sg' K' _ hK => hK⟩)
      | agg cs =>
        simp only [peekK] at h ⊢
        obtain ⟨vs, h2, h3⟩ := ih2 cs sg _ h
        exact ⟨_, h2, fun sg' K' hs hK => h3 sg' (fun l => K' (.agg l)) hs hK⟩
      | tup cs =>
        simp only [peekK] at h ⊢
        obtain ⟨vs, h2, h3⟩ := ih2 cs sg _ h
        exact ⟨_, h2, fun sg' K' hs hK => h3 sg' (fun l => K' (.tup l)) hs hK⟩
      | clo fn f c =>
        simp only [peekK] at h ⊢
        obtain ⟨vs, h2, h3⟩ := ih2 f sg _ h
        obtain ⟨vs2, h5, h6⟩ := ih2 c _ _ h2
        exact ⟨_, h5, fun sg' K' hs hK => h3 sg' (fun f' => peekK.peekLK n c sg' fun c' => K' (.clo fn f' c')) hs (h6 _ (fun c' => K' (.clo fn vs c')) hs hK)⟩
      | up d p => simp [peekK] at h
      | undef => simp [peekK] at h
      | cb => simp [peekK] at h
      | mpu d => simp [peekK] at h
      | elp u d i p => simp [peekK] at h
      | _ => simp only [peekK] at h ⊢; exact ⟨_, h, fun sg' K' _ hK => hK⟩
    · cases l with
      | nil => simp only [peekK.peekLK] at h ⊢; exact ⟨[], h, fun sg' K' _ hK => hK⟩
      | cons v vs =>
        simp only [peekK.peekLK] at h ⊢
        obtain ⟨v', h2, h3⟩ := ih1 v sg _ h
        obtain ⟨vs2, h5, h6⟩ := ih2 vs _ _ h2
        exact ⟨_, h5, fun sg' K' hs hK => h3 sg' (fun f' => peekK.peekLK n vs sg' fun c' => K' (f' :: c')) hs (h6 _ (fun c' => K' (v' :: c')) hs hK)⟩

/-- What a call of a drawn region asks, as one thing. -/
theorem callD_form (hm : CallOk P) {c : Call} {K : AV S → St S → X → Prop} (h : callD P c st x K) : ∃ g all l, ∃ kp : AV S → Prop, RowsIn st.seg l ∧ P.call g all (fun r => kp r ∧ plainR r (K r { st with seg := putsA st.seg l } x)) ∧
    ∀ {ops : Array Oper} {o : Oper} (st' : St S) (x' : X) (K' : AV S → St S → X → Prop), o.op = .call c →
    Same (o.looksAt ops) st.tmps st'.tmps → Sub st.seg st'.seg → P.call g all (fun r => kp r ∧ plainR r (K' r { st' with seg := putsA st'.seg l } x')) → callD P c st' x' K' := by
  unfold callD at h
  cases hc : c.callee with
  | value f =>
    rw [hc] at h
    simp only at h
    obtain ⟨fv, h, b1⟩ := Point.ev _ _ _ h
    obtain ⟨args, h, b2⟩ := Point.map (fun a => Point.ev st.tmps a) _ _ h
    cases fv with
    | clo fn first caps =>
      cases fn with
      | func g =>
        simp only at h
        cases hl : P.loc g with
        | true => rw [hl] at h; exact h.elim
        | false =>
          rw [hl] at h
          obtain ⟨args', h, b3⟩ := Point.plainL _ _ _ h
          rw [appK_eq] at h; rw [appK_eq] at h
          have hgo : ∀ (all : List (AV S)) (l : List (Nat × AO S)) (kp : AV S → Prop), RowsIn st.seg l → P.call g all (fun r => kp r ∧ plainR r (K r { st with seg := putsA st.seg l } x)) →
              (∀ (st' : St S) (x' : X) (K' : AV S → St S → X → Prop), Sub st.seg st'.seg → P.call g all (fun r => kp r ∧ plainR r (K' r { st' with seg := putsA st'.seg l } x')) →
                match P.pk g with
                  | true => peekK.peekLK 60 (first ++ args' ++ caps) st'.seg fun all' => P.call g all' fun r => keepR r = true ∧ plainR r (K' r st' x')
                  | false => outSK.outLS 60 (first ++ args' ++ caps) st'.seg fun all' sg => P.call g all' fun r => plainR r (K' r { st' with seg := sg } x')) →
              ∃ g all l, ∃ kp : AV S → Prop, RowsIn st.seg l ∧ P.call g all (fun r => kp r ∧ plainR r (K r { st with seg := putsA st.seg l } x)) ∧
              ∀ {ops : Array Oper} {o : Oper} (st' : St S) (x' : X) (K' : AV S → St S → X → Prop), o.op = .call c →
              Same (o.looksAt ops) st.tmps st'.tmps → Sub st.seg st'.seg → P.call g all (fun r => kp r ∧ plainR r (K' r { st' with seg := putsA st'.seg l } x')) → callD P c st' x' K' := by
            intro all l kp h1 h b4
            refine ⟨g, all, l, kp, h1, h, fun {ops o} st' x' K' ho hsame hseg hK => ?_⟩
            have he : ∀ y ∈ o.op.operands, ∀ t, y = .tmp t → t ∈ o.looksAt ops := fun y hy t e => looksAt_op hy t e
            rw [ho] at he
            have hops : ∀ y, y = f ∨ y ∈ c.args.toList → y ∈ (Op.call c).operands := fun y hy => by
              simp only [Op.operands, Call.operands, hc]
              rcases hy with rfl | hy
              · simp
              · simp; right; simpa using hy
            unfold callD
            rw [hc]
            simp only
            rw [evK_same hsame (he f (hops f (.inl rfl)))]
            refine b1 _ ?_
            rw [evLK_same hsame fun y hy => he y (hops y (.inr hy))]
            refine b2 _ ?_
            simp only [hl]
            refine b3 _ ?_
            rw [appK_eq, appK_eq]
            exact b4 st' x' K' hseg hK
          cases hpk : P.pk g with
          | true =>
            rw [hpk] at h hgo
            simp only at h hgo
            obtain ⟨all, h, b4⟩ := (peekK_form 60).2 _ _ _ h
            exact hgo all [] (fun r => keepR r = true) (fun p hp => by simp at hp) h fun st' x' K' hseg hK => b4 _ _ hseg hK
          | false =>
            rw [hpk] at h hgo
            simp only at h hgo
            obtain ⟨all, l, h1, h, b4⟩ := (outSK_form 60).2 _ _ _ h
            exact hgo all l (fun _ => True) h1 (hm.mono _ _ _ _ (fun r hr => ⟨trivial, hr⟩) h) fun st' x' K' hseg hK => b4 _ _ hseg (hm.mono _ _ _ _ (fun r hr => hr.2) hK)
      | _ => exact h.elim
    | _ => exact h.elim
  | _ => rw [hc] at h; exact h.elim

omit [Cod S] in
theorem plain_adopt {r : AV S} {sg : List (Nat × AO S)} {K : AV S → List (Nat × AO S) → Prop} (h : plainR r (K r sg)) : adoptK r sg K := by
  cases r with
  | sl u xs o =>
    cases o with
    | none => exact h
    | some e => exact h.elim
  | _ => exact h
omit [Cod S] in
theorem plainR_mono {r : AV S} {X Y : Prop} (hxy : X → Y) (h : plainR r X) : plainR r Y := by
  cases r with
  | sl u xs o =>
    cases o with
    | none => exact hxy h
    | some e => exact h.elim
  | _ => exact hxy h
omit [Cod S] in
theorem plainR_out {r : AV S} {X : Prop} (h : plainR r X) : X := by
  cases r with
  | sl u xs o =>
    cases o with
    | none => exact h
    | some e => exact h.elim
  | _ => exact h

/-- What a call returns that hands a row over. -/
def IsH (d : Nat) (r : AV S) : Prop := ∃ (u : S.U) (xs : List (S.T u)), r = .sl u xs (some d)
def newR (d : Nat) (r : AV S) : List (Nat × AO S) := match r with
  | .sl u _ _ => [(d, .row u true)]
  | _ => []
omit [Cod S] in
theorem handR_elim {d : Nat} {sg : List (Nat × AO S)} {r : AV S} {K : AV S → List (Nat × AO S) → Prop} (h : handR d sg r K) : IsH d r ∧ K r (putsA sg (newR d r)) := by
  cases r with
  | sl u xs o =>
    cases o with
    | none => exact h.elim
    | some e =>
      simp only [handR] at h
      cases hb : Nat.beq e d with
      | false => rw [hb] at h; exact h.elim
      | true =>
        rw [hb] at h
        obtain rfl := Nat.eq_of_beq_eq_true hb
        simp only [findK_eq, putK_eq] at h
        cases hl : lookA sg e with
        | some ao => rw [hl] at h; exact h.elim
        | none => rw [hl] at h; exact ⟨⟨u, xs, rfl⟩, h⟩
  | _ => exact h.elim
omit [Cod S] in
theorem handR_intro {d : Nat} {sg : List (Nat × AO S)} {r : AV S} {K : AV S → List (Nat × AO S) → Prop} (hn : lookA sg d = none) (h : IsH d r) (hK : K r (putsA sg (newR d r))) : handR d sg r K := by
  obtain ⟨u, xs, rfl⟩ := h
  simp only [handR, Nat.beq_refl, findK_eq, putK_eq, hn]
  exact hK
omit [Cod S] in
theorem hand_adopt {d : Nat} {sg : List (Nat × AO S)} {r : AV S} {K : AV S → List (Nat × AO S) → Prop} (h : handR d sg r K) : adoptK r sg K := by
  cases r with
  | sl u xs o =>
    cases o with
    | none => exact h.elim
    | some e =>
      simp only [handR] at h
      simp only [adoptK]
      cases hb : Nat.beq e d with
      | false => rw [hb] at h; exact h.elim
      | true =>
        rw [hb] at h
        obtain rfl := Nat.eq_of_beq_eq_true hb
        exact h
  | _ => exact h.elim
omit [Cod S] in
theorem newR_in {d : Nat} {sg : List (Nat × AO S)} {r : AV S} (hn : lookA sg d = none) : NewIn d sg (newR d r) := fun p hp => by
  cases r with
  | sl u xs o => obtain rfl := List.mem_singleton.1 hp; exact ⟨hn, rfl⟩
  | _ => cases hp
omit [Cod S] in
theorem RowsIn.none {sg l : List (Nat × AO S)} (h : RowsIn sg l) {d : Nat} (hn : lookA sg d = none) : lookA (putsA sg l) d = none := by
  rw [lookA_putsA_ne fun p hp e => ?_]
  · exact hn
  · obtain ⟨u, f, h1⟩ := (h p hp).2
    rw [e, hn] at h1
    cases h1

theorem callH_form (hm : CallOk P) {d : Nat} {c : Call} {K : AV S → St S → X → Prop} (h : callH P d c st x K) : lookA st.seg d = none ∧ ∃ g all l, ∃ kp : AV S → Prop, RowsIn st.seg l ∧ P.call g all (fun r => (kp r ∧ IsH d r) ∧ K r { st with seg := putsA st.seg (l ++ newR d r) } x) ∧
    ∀ {ops : Array Oper} {o : Oper} (st' : St S) (x' : X) (K' : AV S → St S → X → Prop), o.op = .call c →
    Same (o.looksAt ops) st.tmps st'.tmps → Sub st.seg st'.seg → lookA st'.seg d = none → P.call g all (fun r => (kp r ∧ IsH d r) ∧ K' r { st' with seg := putsA st'.seg (l ++ newR d r) } x') → callH P d c st' x' K' := by
  unfold callH at h
  cases hc : c.callee with
  | value f =>
    rw [hc] at h
    simp only [findK_eq] at h
    cases hn : lookA st.seg d with
    | some ao => rw [hn] at h; exact h.elim
    | none =>
    rw [hn] at h
    simp only at h
    refine ⟨rfl, ?_⟩
    obtain ⟨fv, h, b1⟩ := Point.ev _ _ _ h
    obtain ⟨args, h, b2⟩ := Point.map (fun a => Point.ev st.tmps a) _ _ h
    cases fv with
    | clo fn first caps =>
      cases fn with
      | func g =>
        simp only at h
        cases hl : P.loc g with
        | true => rw [hl] at h; exact h.elim
        | false =>
          rw [hl] at h
          obtain ⟨args', h, b3⟩ := Point.plainL _ _ _ h
          rw [appK_eq] at h; rw [appK_eq] at h
          have hgo : ∀ (all : List (AV S)) (l : List (Nat × AO S)) (kp : AV S → Prop), RowsIn st.seg l → P.call g all (fun r => (kp r ∧ IsH d r) ∧ K r { st with seg := putsA st.seg (l ++ newR d r) } x) →
              (∀ (st' : St S) (x' : X) (K' : AV S → St S → X → Prop), Sub st.seg st'.seg → lookA st'.seg d = none → P.call g all (fun r => (kp r ∧ IsH d r) ∧ K' r { st' with seg := putsA st'.seg (l ++ newR d r) } x') →
                match P.pk g with
                  | true => peekK.peekLK 60 (first ++ args' ++ caps) st'.seg fun all' => P.call g all' fun r => keepR r = true ∧ handR d st'.seg r fun r' sg' => K' r' { st' with seg := sg' } x'
                  | false => outSK.outLS 60 (first ++ args' ++ caps) st'.seg fun all' sg => P.call g all' fun r => handR d sg r fun r' sg' => K' r' { st' with seg := sg' } x') →
              ∃ g all l, ∃ kp : AV S → Prop, RowsIn st.seg l ∧ P.call g all (fun r => (kp r ∧ IsH d r) ∧ K r { st with seg := putsA st.seg (l ++ newR d r) } x) ∧
              ∀ {ops : Array Oper} {o : Oper} (st' : St S) (x' : X) (K' : AV S → St S → X → Prop), o.op = .call c →
              Same (o.looksAt ops) st.tmps st'.tmps → Sub st.seg st'.seg → lookA st'.seg d = none → P.call g all (fun r => (kp r ∧ IsH d r) ∧ K' r { st' with seg := putsA st'.seg (l ++ newR d r) } x') → callH P d c st' x' K' := by
            intro all l kp h1 h b4
            refine ⟨g, all, l, kp, h1, h, fun {ops o} st' x' K' ho hsame hseg hn' hK => ?_⟩
            have he : ∀ y ∈ o.op.operands, ∀ t, y = .tmp t → t ∈ o.looksAt ops := fun y hy t e => looksAt_op hy t e
            rw [ho] at he
            have hops : ∀ y, y = f ∨ y ∈ c.args.toList → y ∈ (Op.call c).operands := fun y hy => by
              simp only [Op.operands, Call.operands, hc]
              rcases hy with rfl | hy
              · simp
              · simp; right; simpa using hy
            unfold callH
            rw [hc]
            simp only [findK_eq, hn']
            rw [evK_same hsame (he f (hops f (.inl rfl)))]
            refine b1 _ ?_
            rw [evLK_same hsame fun y hy => he y (hops y (.inr hy))]
            refine b2 _ ?_
            simp only [hl]
            refine b3 _ ?_
            rw [appK_eq, appK_eq]
            exact b4 st' x' K' hseg hn' hK
          cases hpk : P.pk g with
          | true =>
            rw [hpk] at h hgo
            simp only at h hgo
            obtain ⟨all, h, b4⟩ := (peekK_form 60).2 _ _ _ h
            refine hgo all [] (fun r => keepR r = true) (fun p hp => by simp at hp) (hm.mono _ _ _ _ (fun r hr => ?_) h) fun st' x' K' hseg hn' hK => b4 _ _ hseg (hm.mono _ _ _ _ (fun r hr => ⟨hr.1.1, handR_intro hn' hr.1.2 hr.2⟩) hK)
            have := handR_elim hr.2
            exact ⟨⟨hr.1, this.1⟩, this.2⟩
          | false =>
            rw [hpk] at h hgo
            simp only at h hgo
            obtain ⟨all, l, h1, h, b4⟩ := (outSK_form 60).2 _ _ _ h
            refine hgo all l (fun _ => True) h1 (hm.mono _ _ _ _ (fun r hr => ?_) h) fun st' x' K' hseg hn' hK => b4 _ _ hseg (hm.mono _ _ _ _ (fun r hr => ?_) hK)
            · rw [putsA_append]
              have := handR_elim hr
              exact ⟨⟨trivial, this.1⟩, this.2⟩
            · rw [putsA_append] at hr
              have hsr : RowsIn st'.seg l := fun p hp => ⟨(h1 p hp).1, let ⟨u, f, h2⟩ := (h1 p hp).2; ⟨u, f, hseg _ _ h2⟩⟩
              exact handR_intro (hsr.none hn') hr.1.2 hr.2
      | _ => exact h.elim
    | _ => exact h.elim
  | _ => rw [hc] at h; exact h.elim

theorem callH_callK (hm : CallOk P) {d : Nat} {c : Call} {K : AV S → St S → X → Prop} (h : callH P d c st x K) : callK P c st x K := by
  unfold callH at h
  unfold callK
  cases hc : c.callee with
  | value f =>
    rw [hc] at h
    simp only [findK_eq] at h ⊢
    cases hn : lookA st.seg d with
    | some ao => rw [hn] at h; exact h.elim
    | none =>
    rw [hn] at h
    simp only at h
    obtain ⟨fv, h, b1⟩ := Point.ev _ _ _ h
    obtain ⟨args, h, b2⟩ := Point.map (fun a => Point.ev st.tmps a) _ _ h
    refine b1 _ (b2 _ ?_)
    cases fv with
    | clo fn first caps =>
      cases fn with
      | func g =>
        simp only at h ⊢
        cases hl : P.loc g with
        | true => rw [hl] at h; exact h.elim
        | false =>
          rw [hl] at h
          simp only
          obtain ⟨args', h, b3⟩ := Point.plainL _ _ _ h
          refine b3 _ ?_
          rw [appK_eq] at h; rw [appK_eq] at h
          rw [appK_eq, appK_eq]
          cases hpk : P.pk g with
          | true =>
            rw [hpk] at h
            simp only at h ⊢
            obtain ⟨all, h, b4⟩ := (peekK_form 60).2 _ _ _ h
            exact b4 _ _ (fun _ _ h => h) (hm.mono _ _ _ _ (fun r hr => ⟨hr.1, hand_adopt (K := fun r' sg' => K r' { st with seg := sg' } x) hr.2⟩) h)
          | false =>
            rw [hpk] at h
            simp only at h ⊢
            exact (outSK_outK 60).2 _ _ _ _ (fun _ _ h => hm.mono _ _ _ _ (fun r hr => hand_adopt (K := fun r' sg' => K r' { st with seg := sg' } x) hr) h) h
      | _ => exact h.elim
    | _ => exact h.elim
  | _ => rw [hc] at h; exact h.elim

theorem callD_callK (hm : CallOk P) {c : Call} {K : AV S → St S → X → Prop} (h : callD P c st x K) : callK P c st x K := by
  unfold callD at h
  unfold callK
  cases hc : c.callee with
  | value f =>
    rw [hc] at h
    simp only at h ⊢
    obtain ⟨fv, h, b1⟩ := Point.ev _ _ _ h
    obtain ⟨args, h, b2⟩ := Point.map (fun a => Point.ev st.tmps a) _ _ h
    refine b1 _ (b2 _ ?_)
    cases fv with
    | clo fn first caps =>
      cases fn with
      | func g =>
        simp only at h ⊢
        cases hl : P.loc g with
        | true => rw [hl] at h; exact h.elim
        | false =>
          rw [hl] at h
          simp only
          obtain ⟨args', h, b3⟩ := Point.plainL _ _ _ h
          refine b3 _ ?_
          rw [appK_eq] at h; rw [appK_eq] at h
          rw [appK_eq, appK_eq]
          cases hpk : P.pk g with
          | true =>
            rw [hpk] at h
            simp only at h ⊢
            obtain ⟨all, h, b4⟩ := (peekK_form 60).2 _ _ _ h
            exact b4 _ _ (fun _ _ h => h) (hm.mono _ _ _ _ (fun r hr => ⟨hr.1, plain_adopt (K := fun r' sg' => K r' { st with seg := sg' } x) hr.2⟩) h)
          | false =>
            rw [hpk] at h
            simp only at h ⊢
            exact (outSK_outK 60).2 _ _ _ _ (fun _ _ h => hm.mono _ _ _ _ (fun r hr => plain_adopt (K := fun r' sg' => K r' { st with seg := sg' } x) hr) h) h
      | _ => exact h.elim
    | _ => exact h.elim
  | _ => rw [hc] at h; exact h.elim
end Go.Ab

namespace Go.Ab
open Go
variable {S : Sig} [Cod S] {X : Type} {P : Par S X} {ops : Array Oper} {o q : Oper} {st : St S} {x : X} {K : St S → X → Prop}

/-! ### Operations that lay an object -/

omit [Cod S] in
theorem Alike.put {d : Nat} {sg sg' : List (Nat × AO S)} (h : Alike d sg sg') (n : Nat) (a : AO S) : Alike d (putA sg n a) (putA sg' n a) := by
  intro k hk
  rw [lookA_putA, lookA_putA]
  by_cases e : n = k
  · simp [e]
  · simp [e, h k hk]

omit [Cod S] in
theorem Alike.puts {d : Nat} {l : List (Nat × AO S)} : ∀ {sg sg' : List (Nat × AO S)}, Alike d sg sg' → Alike d (putsA sg l) (putsA sg' l) := by
  induction l with
  | nil => exact fun h => h
  | cons p l ih => exact fun h => ih (h.put _ _)

omit [Cod S] in
theorem Alike.none {d : Nat} {sg sg' : List (Nat × AO S)} (h : Alike d sg sg') {k : Nat} (hk : k % 1000 = d % 1000) (hn : lookA sg k = none) : lookA sg' k = none := by
  have := h k hk
  rw [hn] at this
  simpa using this

omit [Cod S] in
theorem Alike.some {d : Nat} {sg sg' : List (Nat × AO S)} (h : Alike d sg sg') {k : Nat} (hk : k % 1000 = d % 1000) {ao : AO S} (hn : lookA sg k = some ao) : ∃ ao', lookA sg' k = some ao' := by
  have := h k hk
  rw [hn] at this
  exact Option.isSome_iff_exists.1 this

omit [Cod S] in
theorem tokK_form {d : Nat} : ∀ (zs : List (AV S)) (id : Nat) (cs : List (AV S)) (sg : List (Nat × AO S)) (K : List (AV S) → List (Nat × AO S) → Prop), id % 1000 = d % 1000 → tokK id zs cs sg K →
    ∃ cs' l, NewIn d sg l ∧ K cs' (putsA sg l) ∧ ∀ sg' (K' : List (AV S) → List (Nat × AO S) → Prop), Alike d sg sg' → (tokK id zs cs sg' K' ↔ K' cs' (putsA sg' l)) := by
  intro zs
  induction zs with
  | nil =>
    intro id cs sg K hid h
    have e : ∀ sg (K : List (AV S) → List (Nat × AO S) → Prop), tokK id [] cs sg K = K cs sg := fun sg K => by cases cs <;> rfl
    rw [e] at h
    exact ⟨cs, [], fun p hp => by simp at hp, h, fun sg' K' _ => by rw [e]; exact Iff.rfl⟩
  | cons z zs ih =>
    intro id cs sg K hid h
    have hid' : (id + 1000) % 1000 = d % 1000 := by omega
    cases cs with
    | nil => exact ⟨[], [], fun p hp => by simp at hp, h, fun sg' K' _ => Iff.rfl⟩
    | cons c cs =>
      by_cases hc : c = .nils
      · subst hc
        cases z with
        | sl u xs oo =>
          simp only [tokK] at h ⊢
          rw [findK_eq] at h
          cases hl : lookA sg id with
          | none =>
            rw [hl] at h
            simp only [putK_eq] at h
            obtain ⟨cs', l, h1, h2, h3⟩ := ih (id + 1000) cs _ _ hid' h
            refine ⟨_, (id, .row u true) :: l, fun p hp => ?_, h2, fun sg' K' ha => ?_⟩
            · rcases List.mem_cons.1 hp with rfl | hp
              · exact ⟨hl, hid⟩
              · obtain ⟨h4, h5⟩ := h1 p hp
                rw [lookA_putA] at h4
                by_cases e : id = p.1
                · rw [if_pos e] at h4; cases h4
                · rw [if_neg e] at h4; exact ⟨h4, h5⟩
            · rw [findK_eq, ha.none hid hl]
              simp only [putK_eq]
              exact h3 _ (fun l sg'' => K' (.sl u [] (some id) :: l) sg'') (ha.put _ _)
          | some ao =>
            rw [hl] at h
            obtain ⟨cs', l, h1, h2, h3⟩ := ih (id + 1000) cs _ _ hid' h
            refine ⟨_, l, h1, h2, fun sg' K' ha => ?_⟩
            obtain ⟨ao', hl'⟩ := ha.some hid hl
            rw [findK_eq, hl']
            exact h3 _ (fun l sg'' => K' (.sl u [] none :: l) sg'') ha
        | _ => exact h.elim
      · have e : ∀ sg (K : List (AV S) → List (Nat × AO S) → Prop), tokK id (z :: zs) (c :: cs) sg K = tokK (id + 1000) zs cs sg fun l sg' => K (c :: l) sg' := fun sg K => by
          cases c <;> first | rfl | exact absurd rfl hc
        rw [e] at h
        obtain ⟨cs', l, h1, h2, h3⟩ := ih (id + 1000) cs _ _ hid' h
        exact ⟨_, l, h1, h2, fun sg' K' ha => by rw [e]; exact h3 _ (fun l sg' => K' (c :: l) sg') ha⟩

omit [Cod S] in
theorem NewIn.snoc {d : Nat} {sg l : List (Nat × AO S)} (h : NewIn d sg l) (hd : lookA (putsA sg l) d = none) (a : AO S) : NewIn d sg (l ++ [(d, a)]) := by
  intro p hp
  rcases List.mem_append.1 hp with hp | hp
  · exact h p hp
  · obtain rfl := List.mem_singleton.1 hp
    refine ⟨?_, rfl⟩
    cases hl : lookA sg d with
    | none => rfl
    | some ao => rw [h.sub _ _ hl] at hd; cases hd

theorem alloc_form {d : Nat} {ts : List (AV S)} {sg : List (Nat × AO S)} {K : AV S → List (Nat × AO S) → Prop} (ha : allocB o = true) (h : opL P o d ts sg K) :
    ∃ v l, NewIn d sg l ∧ ∀ ts' sg' (K' : AV S → List (Nat × AO S) → Prop), Alike d sg sg' → (opL P o d ts' sg' K' ↔ K' v (putsA sg' l)) := by
  unfold allocB at ha
  unfold opL at h ⊢
  cases ho : o.op <;> rw [ho] at h ha <;> try cases ha
  rename_i t
  simp only at h ⊢
  have hty : ∀ (F : TyI S → Prop), tyK P t F = match lookA P.ti t with | none => False | some ty => F ty := fun F => by unfold tyK; rw [findK_eq]; cases lookA P.ti t <;> rfl
  rw [hty] at h
  simp only [hty]
  cases hl : lookA P.ti t with
  | none => rw [hl] at h; exact h.elim
  | some ty =>
    rw [hl] at h
    simp only [nilsK_map] at h ⊢
    obtain ⟨cs', l, h1, h2, h3⟩ := tokK_form (d := d) _ _ _ _ _ (by omega) h
    rw [findK_eq] at h2
    cases hd : lookA (putsA sg l) d with
    | some ao => rw [hd] at h2; exact h2.elim
    | none =>
      refine ⟨.own d [], l ++ [(d, .cells cs')], h1.snoc hd _, fun ts' sg' K' hal => ?_⟩
      rw [h3 sg' _ hal, findK_eq, hal.puts.none rfl hd]
      simp only [putK_eq, putsA_append]
      exact Iff.rfl

theorem Point.elems (u : S.U) : ∀ l : List (AV S), Point (elemsK u l)
  | [] => fun K h => by simp only [elemsK] at h ⊢; exact ⟨_, h, fun K' hK => hK⟩
  | v :: l => fun K h => by
    have hr : (cellsK v fun vs => optK (Cod.dec u vs) fun x => elemsK u l fun l => K (x :: l)) → ∃ r, K r ∧ ∀ K' : List (S.T u) → Prop, K' r → cellsK v fun vs => optK (Cod.dec u vs) fun x => elemsK u l fun l => K' (x :: l) := fun h => by
      obtain ⟨vs, h, b1⟩ := Point.cells _ _ h
      obtain ⟨x, h, b2⟩ := Point.opt _ _ h
      obtain ⟨r, h, b3⟩ := Point.elems u l _ h
      exact ⟨_, h, fun K' hK => b1 _ (b2 _ (b3 _ hK))⟩
    cases v with
    | arr u n xs => exact h.elim
    | _ => exact hr h

theorem Point.more (u : S.U) (y : AV S) : Point (moreK u y) := fun K h => by
  cases y with
  | sl v ys oo => exact Point.cast _ _ h
  | nils => exact ⟨_, h, fun K' hK => hK⟩
  | _ => exact h.elim

theorem opL_form {d : Nat} {ts : List (AV S)} {sg : List (Nat × AO S)} {K : AV S → List (Nat × AO S) → Prop} (h : opL P o d ts sg K) :
    ∃ v l, NewIn d sg l ∧ K v (putsA sg l) ∧ ∀ ts' sg' (K' : AV S → List (Nat × AO S) → Prop), Same (o.looksAt ops) ts ts' → Alike d sg sg' → K' v (putsA sg' l) → opL P o d ts' sg' K' := by
  by_cases ha : allocB o = true
  · obtain ⟨v, l, h1, h2⟩ := alloc_form ha h
    exact ⟨v, l, h1, (h2 ts sg K fun k _ => rfl).1 h, fun ts' sg' K' _ hal hK => (h2 ts' sg' K' hal).2 hK⟩
  have hone : ∀ {a : AO S}, lookA sg d = none → NewIn d sg [(d, a)] := fun hd p hp => by obtain rfl := List.mem_singleton.1 hp; exact ⟨hd, rfl⟩
  unfold opL at h ⊢
  cases ho : o.op <;> rw [ho] at h <;> try exact h.elim
  case alloc t => simp [allocB, ho] at ha
  case makeSlice t y z =>
    simp only at h ⊢
    have he : ∀ q ∈ [y, z], ∀ {ts'}, Same (o.looksAt ops) ts ts' → ∀ K, evK ts' q K = evK ts q K := fun q hq ts' hs K => evK_same hs (fun t e => looksAt_op (by rw [ho]; simp [Op.operands]; simpa using hq) t e) K
    obtain ⟨ty, h, b1⟩ := Point.ty _ _ h
    obtain ⟨nv, h, b2⟩ := Point.ev _ _ _ h
    obtain ⟨mv, h, b3⟩ := Point.ev _ _ _ h
    cases hk : ty.kind with
    | slice u b e =>
      rw [hk] at h
      cases nv with
      | int k1 a =>
        cases mv with
        | int k2 c =>
          obtain ⟨hr, h⟩ := h
          obtain ⟨x, h, b4⟩ := Point.opt _ _ h
          rw [findK_eq] at h
          cases hd : lookA sg d with
          | some ao => rw [hd] at h; exact h.elim
          | none =>
            rw [hd] at h
            simp only [putK_eq] at h
            refine ⟨_, _, hone hd, h, fun ts' sg' K' hs hal hK => ?_⟩
            simp only [he y (by simp) hs, he z (by simp) hs]
            refine b1 _ (b2 _ (b3 _ ?_))
            simp only [hk]
            refine ⟨hr, b4 _ ?_⟩
            rw [findK_eq, hal.none rfl hd]
            simp only [putK_eq]
            exact hK
        | _ => exact h.elim
      | _ => exact h.elim
    | _ => rw [hk] at h; exact h.elim
  case lookup t y z ok =>
    simp only at h ⊢
    have he : ∀ q ∈ [y, z], ∀ {ts'}, Same (o.looksAt ops) ts ts' → ∀ K, evK ts' q K = evK ts q K := fun q hq ts' hs K => evK_same hs (fun t e => looksAt_op (by rw [ho]; simp [Op.operands]; simpa using hq) t e) K
    obtain ⟨m, h, b1⟩ := Point.find _ _ _ h
    obtain ⟨ty, h, b2⟩ := Point.ty _ _ h
    obtain ⟨mv, h, b3⟩ := Point.ev _ _ _ h
    obtain ⟨iv, h, b4⟩ := Point.ev _ _ _ h
    cases mv with
    | mpf ks vs =>
      obtain ⟨r, h, b5⟩ := Point.opt _ _ h
      obtain ⟨z0, h, b6⟩ := Point.one _ _ h
      have hgo : ∃ v, K v sg ∧ ∀ sg' (K' : AV S → List (Nat × AO S) → Prop), K' v sg' → oneK ty.zero fun z => match (generalizing := false) ok with
          | true => K' (.tup [lkv r z, .bool r.isSome]) sg'
          | false => K' (lkv r z) sg' := by
        cases ok
        · exact ⟨_, h, fun sg' K' hK => b6 (fun z => K' (lkv r z) sg') hK⟩
        · exact ⟨_, h, fun sg' K' hK => b6 (fun z => K' (.tup [lkv r z, .bool r.isSome]) sg') hK⟩
      obtain ⟨v, hK, hb⟩ := hgo
      refine ⟨v, [], fun p hp => (by cases hp), hK, fun ts' sg' K' hs hal hK' => ?_⟩
      simp only [he y (by simp) hs, he z (by simp) hs]
      exact b1 _ (b2 _ (b3 _ (b4 _ (b5 _ (hb sg' K' hK')))))
    | _ => exact h.elim
  case buildSlice t len ps =>
    simp only at h ⊢
    cases hps : ps.toList with
    | nil => rw [hps] at h; exact h.elim
    | cons p0 ps0 =>
      rw [hps] at h
      simp only at h ⊢
      rw [findK_eq] at h
      cases hd : lookA sg d with
      | some ao => rw [hd] at h; exact h.elim
      | none =>
        rw [hd] at h
        simp only at h
        obtain ⟨ty, h, b1⟩ := Point.ty _ _ h
        cases hk : ty.kind with
        | slice u b e =>
          rw [hk] at h
          obtain ⟨vs, h, b2⟩ := Point.map (fun a => Point.ev ts a) _ _ h
          cases hb : idB.idLB 60 vs && seqB 0 (p0 :: ps0) with
          | false => rw [hb] at h; exact h.elim
          | true =>
            rw [hb] at h
            obtain ⟨xs, h, b3⟩ := Point.elems _ _ _ h
            cases hb2 : Nat.beq len ps.size && Nat.ble (len * Cod.size u) 16777216 with
            | false => rw [hb2] at h; exact h.elim
            | true =>
              rw [hb2] at h
              simp only [putK_eq] at h
              refine ⟨_, _, hone hd, h, fun ts' sg' K' hs hal hK => ?_⟩
              rw [findK_eq, hal.none rfl hd]
              refine b1 _ ?_
              simp only [hk]
              have hE : ∀ K, evLK ts' ((p0 :: ps0).map fun p => p.2) K = evLK ts ((p0 :: ps0).map fun p => p.2) K := fun K => evLK_same hs (fun y hy t e => looksAt_op (by
                rw [ho]; simp only [Op.operands, hps]; simpa using hy) t e) K
              rw [hE]
              refine b2 _ ?_
              simp only [hb]
              refine b3 _ ?_
              simp only [hb2, putK_eq]
              exact hK
        | _ => rw [hk] at h; exact h.elim
  case call c =>
    simp only at h ⊢
    cases hc : c.callee with
    | builtin b =>
      rw [hc] at h
      cases b <;> try exact h.elim
      case append =>
        simp only at h ⊢
        split at h
        · rename_i t t' tl y z ht hargs
          have he : ∀ y' ∈ c.args.toList, ∀ {ts'}, Same (o.looksAt ops) ts ts' → ∀ K, evK ts' y' K = evK ts y' K := fun y' hy' ts' hs K => evK_same hs (fun t e => looksAt_op (by rw [ho]; simp [Op.operands, Call.operands, hc]; simpa using hy') t e) K
          rw [hargs] at he
          obtain ⟨s, h, b1⟩ := Point.ev _ _ _ h
          obtain ⟨v, h, b2⟩ := Point.ev _ _ _ h
          obtain ⟨ty, h, b3⟩ := Point.ty _ _ h
          obtain ⟨ty', h, b4⟩ := Point.ty _ _ h
          split at h
          · rename_i hk hk' _ _ _
            obtain ⟨ys, h, b5⟩ := Point.more _ _ _ h
            obtain ⟨hle, h⟩ := h
            rw [findK_eq] at h
            cases hd : lookA sg d with
            | some ao => rw [hd] at h; exact h.elim
            | none =>
              rw [hd] at h
              simp only [putK_eq] at h
              refine ⟨_, _, hone hd, h, fun ts' sg' K' hs hal hK => ?_⟩
              simp only [he y (by simp) hs, he z (by simp) hs]
              refine b1 _ (b2 _ (b3 _ (b4 _ ?_)))
              simp only [hk, hk']
              refine b5 _ ⟨hle, ?_⟩
              rw [findK_eq, hal.none rfl hd]
              simp only [putK_eq]
              exact hK
          · exact h.elim
        · exact h.elim
    | value f => rw [hc] at h; exact h.elim
    | _ => rw [hc] at h; exact h.elim
end Go.Ab
