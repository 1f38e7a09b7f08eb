/-
  MadeWhole: the given law returns true at every input, and its arguments read behind the call as they did: Whole returns what the document says, for any set. No condition.
-/
import Derived.Test.YtmchcpmkadhmjaaDoorLawWholeB
namespace Go.Proofs.YtmchcpmkadhmjaaDoor.madeWhole
set_option maxRecDepth 100000
open Go.ChangeShapes Go.WideShapes Go.ChangeAt Go.RowKit Go.Ab Go.Ab.MkF
theorem own:ownKnob Tryd.prog.godebug=none:=by kernel_rfl
theorem contract (H:Type) (enc:TypeId×Value→H) (W:World) (base:Nat) (args:Array Value) (ds gs:List (DataW H)) (before:List MemPlace)
  (hval:∀ (j:Nat) t v,Tryd.f4.params[j]?=some t→args[j]?=some v→Value.okWide Tryd.prog W .any base t v)
  (hW:DataW.Whole enc Tryd.prog Tryd.f4.params.toList Rows.madeWholeSpec.vars false W args.toList ds gs before) (hL:laidMetH Tryd.prog Rows.madeWholeRow.laid W) :
  Calls Tryd.prog 4 args W fun e W'=>∃ v,e=.returned v∧Rows.madeWholeSpec.post enc Tryd.prog Tryd.f4 false true false false W args v W':=by
 have hW':=hW
 have hlt:=hW.lt
 obtain ⟨p,q,hA0,hV,rfl,hfz,hnd⟩:=hW
 obtain ⟨rfl,rfl⟩:=trodVars_none hV
 have hA:DataW.TrodAll enc Tryd.prog W 0 (fun _=>true) true Tryd.f4.params.toList args.toList ds p:=hA0
 have hAk:=hA
 rw [Tryd.params4] at hA hval
 obtain ⟨v0,vs0,d0,ds0,p0,q0,hargs0,rfl,rfl,h0,r0⟩:=trodAll_cons hA
 obtain ⟨hnil,rfl,rfl⟩:=trodAll_nil r0
 subst hnil
 obtain rfl:args=#[v0]:=by cases args; simp_all
 obtain ⟨cl0,⟨p,ls,cs,rfl,hLs,hN⟩,hr0⟩:=OpA.aggS oSet Tryd.underlying25 (hval 0 25 v0 rfl rfl) h0
 have walk:=(c4 p ls cs hLs hN) W (allV W) _ (laid_glT hL) (fun _ _ h=>h) hr0
 refine walk.mono fun e W' ⟨v,he,r,hr,hg,hv⟩=>?_
 subst hr
 obtain rfl:v=.bool true:=Rep.bool hv
 exact ⟨_,he,post_same (pa:=(p0++[])) (pv:=[]) hW' (fun _ _ _=>trodAll_cons_mk (shut_bool Tryd.underlying4 _) trodAll_mk0)
  (fun sp hsp=>args_again kids full hg (by rw [Tryd.params4]; decide +kernel) hAk (fun x hx=>hlt x (by simpa using hx)) fun x hx=>hsp x (by simpa using hx)) (fun _ _=>rfl) (by simp)
  (grow_kept hg _) (fun a ha=>grow_fz hg a ha) (ok_one (by kernel_rfl) rfl (okWide_bool_mk Tryd.underlying4 _))⟩
noncomputable def laidWorld (os:Os):World:=tabWorld (World.holding Tryd.prog os ⟨#[],#[],[]⟩)
theorem laid_met (os:Os):laidMet Tryd.prog Rows.madeWholeRow.laid ((laidWorld os).forCall (fun _ _=>0) ⟨#[],#[noSet],[]⟩).memory :=
 laidMet_of_run' 8 (by kernel_rfl) (by kernel_rfl)
theorem reads (os:Os) {H:Type} (enc:TypeId×Value→H):∃ places,DataW.whole enc Tryd.prog ((laidWorld os).forCall (fun _ _=>0) ⟨#[],#[noSet],[]⟩).memory Tryd.f4.params.toList Rows.madeWholeSpec.vars false (#[noSet]:Array Value).toList 8=some ([.agg [.lit (.int .i64 0),.nil,.nil]],[],places) :=
 ⟨[],by kernel_rfl⟩
theorem lifted (os:Os) (started:os.Started) (H:Type) (enc:TypeId×Value→H) (F:Stop.Interp) :
  ReturnsInHanded {} Tryd.checked os 4 .any ((OpenSpec.ofChange Rows.madeWholeSpec).preRow enc Tryd.prog Tryd.f4 Rows.madeWholeRow.domain false Rows.madeWholeRow.laid) (((OpenSpec.ofChange Rows.madeWholeSpec).at F).post enc Tryd.prog Tryd.f4 false true false false):=by
 obtain ⟨places,hx⟩:=reads os enc
 refine returnsInHanded_of_row (C:=Tryd.checked) (s:=OpenSpec.ofChange Rows.madeWholeSpec) own started (by kernel_rfl) Tryd.func4
  (witness_row_at (enc:=enc) (C:=Tryd.checked) false (laidWorld os) #[noSet] rfl (by kernel_rfl) (by kernel_rfl) (by kernel_rfl)
   (OpenSpec.preRow_of_cond 8 hx (by kernel_rfl) (fun k hk=>by cases hk) (by kernel_rfl) (laid_met os))) ?_
 intro W base args ds gs before hval hW _ _ _ hL _ _
 exact contract H enc W base args ds gs before hval hW hL
theorem said:Rows.MadeWholeSaid :=
 OpenClaim.holds_of_cond 4 Tryd.f4 rfl rfl rfl rfl rfl rfl rfl ⟨rfl,rfl,rfl,rfl,rfl⟩ rfl rfl rfl rfl rfl (by kernel_rfl) Tryd.func4 (by kernel_rfl)
  (of_decide_eq_true (by kernel_rfl)) (by unfold Func.isWrapper; first | (rw [if_pos (by decide +kernel)]; kernel_rfl) | (rw [if_neg (by decide +kernel)]; exact ⟨rfl,rfl⟩))
  (fun os started H enc _ F=>by rw [OpenClaim.pre_eq_preRow]; exact lifted os started H enc F)
theorem plain (f:FuncId) (fn:Func) (hf:Tryd.pinned.checked.prog.funcNamed "duodecimo/duodecimolaw11.MadeWhole" = some f) (hfn:Tryd.pinned.checked.prog.funcs[f]?=some fn) :
  false=Tryd.pinned.checked.prog.looks []∧∀ (j:Nat) t,fn.params[j]?=some t→Tryd.pinned.checked.prog.wantsStandIn t=false:=by
 obtain rfl:f=4:=Option.some.inj ((show Tryd.prog.funcNamed "duodecimo/duodecimolaw11.MadeWhole" = some 4 by kernel_rfl).symm.trans hf) |>.symm
 obtain rfl:fn=Tryd.f4:=(Option.some.inj (Tryd.func4.symm.trans hfn)).symm
 refine ⟨by kernel_rfl,fun j t ht=>?_⟩
 rw [Tryd.params4] at ht
 have hm:=Array.mem_of_getElem? ht
 have s25:Tryd.prog.wantsStandIn 25=false:=by kernel_rfl
 obtain rfl:t=25:=by simpa using hm
 exact s25
theorem card:Rows.MadeWholeCardSaid :=
 Claim7.holds_tied_plain_at .later [] _ _ _ _ said (fun _ h=>by cases h) (by kernel_rfl) (fun _ h=>by cases h) madeWhole_row_tie rfl ⟨rfl,rfl⟩ (by kernel_rfl) rfl plain (by kernel_rfl)
end Go.Proofs.YtmchcpmkadhmjaaDoor.madeWhole
