/-
  THE MADE FAMILY, PART YC: MadeKnown.
  MadeKnown: the document's examples hold of the given program.
-/
import Derived.Test.YtmchcpmkadhmjaaDoorMadeH
import Derived.Test.YtmchcpmkadhmjaaDoorCard
namespace Go.Ab.MkF
open Go Go.Ab Go.Ab.Pln Go.Proofs
set_option maxHeartbeats 1000000
set_option maxRecDepth 100000

theorem c7 : PCalls PR glT 7 [] fun r => r = vB true := by
  refine fnW_sound (par_ok glT) Tryd.func7 ?_
  conv => whnf
  refine byC (c43 glT) op43 ?_
  conv => whnf
  refine byC (c44 glT) op44 ?_
  conv => whnf
  refine byC (to' (c18 1000 exL exC ex_lens 2) (by rw [e18b])) op18 ?_
  conv => whnf
  refine byC (to' (c21 1000 exL exC ex_lens 2 4) (by rw [e21b])) op21 ?_
  conv => whnf
  refine byC (to' (c23 glT 1000 exL exC ex_lens 2) (by rw [e23b])) op23 ?_
  conv => whnf
  refine byC (to' (c25 glT 1000 exL exC ex_lens 0) (by rw [e25a])) op25 ?_
  conv => whnf
  refine byC (to' (c25 glT 1000 exL exC ex_lens 1) (by rw [e25b])) op25 ?_
  conv => whnf
  refine byC (to' (c39 exH [] (by decide) (by decide)) (by rw [e39c])) op39 ?_
  conv => whnf
  refine byC c27 op27 ?_
  -- R:
  conv => whnf
  rfl

end Go.Ab.MkF

namespace Go.Proofs.YtmchcpmkadhmjaaDoor.madeKnown
set_option maxRecDepth 100000
open Go.ChangeShapes Go.WideShapes Go.ChangeAt Go.RowKit Go.Ab Go.Ab.MkF

theorem own : ownKnob Tryd.prog.godebug = none := by kernel_rfl

theorem contract (H : Type) (enc : TypeId × Value → H) (W : World) (args : Array Value) (ds gs : List (DataW H)) (before : List MemPlace)
    (hW : DataW.Whole enc Tryd.prog Tryd.f7.params.toList Rows.madeKnownSpec.vars false W args.toList ds gs before) (hL : laidMetH Tryd.prog Rows.madeKnownRow.laid W) :
    Calls Tryd.prog 7 args W fun e W' => ∃ v, e = .returned v ∧ Rows.madeKnownSpec.post enc Tryd.prog Tryd.f7 false true false false W args v W' := by
  have hW' := hW
  obtain ⟨p, q, hA0, hV, rfl, hfz, hnd⟩ := hW
  have hA : DataW.TrodAll enc Tryd.prog W 0 (fun _ => true) true Tryd.f7.params.toList args.toList ds p := hA0
  rw [Tryd.params7] at hA
  obtain ⟨hargs, rfl, rfl⟩ := trodAll_nil hA
  obtain rfl : args = #[] := by cases args; simp_all
  obtain ⟨rfl, rfl⟩ := trodVars_none hV
  have walk := c7 W (fun _ _ => False) [] (laid_glT hL) (fun _ _ h => h.elim) (.nil _)
  refine walk.mono fun e W' ⟨v, he, r, hr, hg, hv⟩ => ?_
  subst hr
  obtain rfl : v = .bool true := Rep.bool hv
  exact ⟨_, he, post_same (pa := []) (pv := []) hW' (fun _ _ _ => trodAll_cons_mk (shut_bool Tryd.underlying4 _) trodAll_mk0) (fun _ _ => trodAll_mk0) (fun _ _ => rfl) rfl
    (grow_kept hg _) (fun a ha => grow_fz hg a ha) (ok_one (by kernel_rfl) rfl (okWide_bool_mk Tryd.underlying4 _))⟩

/-- A WORLD FOR THE WITNESS: the settled one, the tables holding what their initialiser lays. -/
noncomputable def laidWorld (os : Os) : World := tabWorld (World.holding Tryd.prog os ⟨#[], #[], []⟩)
theorem laid_met (os : Os) : laidMet Tryd.prog Rows.madeKnownRow.laid ((laidWorld os).forCall (fun _ _ => 0) ⟨#[], #[], []⟩).memory :=
  laidMet_of_run' 8 (by kernel_rfl) (by kernel_rfl)
theorem reads (os : Os) {H : Type} (enc : TypeId × Value → H) : ∃ places, DataW.whole enc Tryd.prog ((laidWorld os).forCall (fun _ _ => 0) ⟨#[], #[], []⟩).memory Tryd.f7.params.toList Rows.madeKnownSpec.vars false #[].toList 8 = some ([], [], places) :=
  ⟨[], by kernel_rfl⟩

theorem lifted (os : Os) (started : os.Started) (H : Type) (enc : TypeId × Value → H) (F : Stop.Interp) :
    ReturnsInHanded {} Tryd.checked os 7 .any ((OpenSpec.ofChange Rows.madeKnownSpec).preRow enc Tryd.prog Tryd.f7 Rows.madeKnownRow.domain false Rows.madeKnownRow.laid) (((OpenSpec.ofChange Rows.madeKnownSpec).at F).post enc Tryd.prog Tryd.f7 false true false false) := by
  obtain ⟨places, hx⟩ := reads os enc
  refine returnsInHanded_of_row (C := Tryd.checked) (s := OpenSpec.ofChange Rows.madeKnownSpec) own started (by kernel_rfl) Tryd.func7
    (witness_row_at (enc := enc) (C := Tryd.checked) false (laidWorld os) #[] rfl (by kernel_rfl) (by kernel_rfl) (by kernel_rfl)
      (OpenSpec.preRow_of_cond 8 hx (by kernel_rfl) (fun k hk => by cases hk) (by kernel_rfl) (laid_met os))) ?_
  intro W base args ds gs before hval hW _ _ _ hL _ _
  exact contract H enc W args ds gs before hW hL

theorem said : Rows.MadeKnownSaid :=
  OpenClaim.holds_of_cond 7 Tryd.f7 rfl rfl rfl rfl rfl rfl rfl ⟨rfl, rfl, rfl, rfl, rfl⟩ rfl rfl rfl rfl rfl (by kernel_rfl) Tryd.func7 (by kernel_rfl)
    (of_decide_eq_true (by kernel_rfl)) (by unfold Func.isWrapper; first | (rw [if_pos (by decide +kernel)]; kernel_rfl) | (rw [if_neg (by decide +kernel)]; exact ⟨rfl, rfl⟩))
    (fun os started H enc _ F => by rw [OpenClaim.pre_eq_preRow]; exact lifted os started H enc F)

theorem plain (f : FuncId) (fn : Func) (hf : Tryd.pinned.checked.prog.funcNamed "duodecimo/duodecimolaw11.MadeKnown" = some f) (hfn : Tryd.pinned.checked.prog.funcs[f]? = some fn) :
    false = Tryd.pinned.checked.prog.looks [] ∧ ∀ (j : Nat) t, fn.params[j]? = some t → Tryd.pinned.checked.prog.wantsStandIn t = false := by
  obtain rfl : f = 7 := Option.some.inj ((show Tryd.prog.funcNamed "duodecimo/duodecimolaw11.MadeKnown" = some 7 by kernel_rfl).symm.trans hf) |>.symm
  obtain rfl : fn = Tryd.f7 := (Option.some.inj (Tryd.func7.symm.trans hfn)).symm
  refine ⟨by kernel_rfl, fun j t ht => ?_⟩
  rw [Tryd.params7] at ht
  simp at ht

theorem card : Rows.MadeKnownCardSaid :=
  Claim7.holds_tied_plain_at .later [] _ _ _ _ said (fun _ h => by cases h) (by kernel_rfl) (fun _ h => by cases h) madeKnown_row_tie rfl ⟨rfl, rfl⟩ (by kernel_rfl) rfl plain (by kernel_rfl)
end Go.Proofs.YtmchcpmkadhmjaaDoor.madeKnown
