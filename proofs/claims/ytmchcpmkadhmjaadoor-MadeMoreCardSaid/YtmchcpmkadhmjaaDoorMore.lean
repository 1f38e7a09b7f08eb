/-
  MadeMore: the given law returns true at every input, and its arguments read behind the call as they did: what Whole makes whole is whole; no plan makes more copies whole, or as many with fewer leaves moved; there are as many as Most of both kinds, together. No condition.
-/
import Derived.Test.YtmchcpmkadhmjaaDoorLawMoreA
namespace Go.Proofs.YtmchcpmkadhmjaaDoor.madeMore
set_option maxRecDepth 100000
open Go.ChangeShapes Go.WideShapes Go.ChangeAt Go.RowKit Go.Ab Go.Ab.MkF
theorem own:ownKnob Tryd.prog.godebug=none:=by kernel_rfl
theorem contract (H:Type) (enc:TypeId×Value→H) (W:World) (base:Nat) (args:Array Value) (ds gs:List (DataW H)) (before:List MemPlace)
  (hval:∀ (j:Nat) t v,Tryd.f8.params[j]?=some t→args[j]?=some v→Value.okWide Tryd.prog W .any base t v)
  (hW:DataW.Whole enc Tryd.prog Tryd.f8.params.toList Rows.madeMoreSpec.vars false W args.toList ds gs before) (hL:laidMetH Tryd.prog Rows.madeMoreRow.laid W) :
  Calls Tryd.prog 8 args W fun e W'=>∃ v,e=.returned v∧Rows.madeMoreSpec.post enc Tryd.prog Tryd.f8 false true false false W args v W':=by
 have hW':=hW
 have hlt:=hW.lt
 obtain ⟨p,q,hA0,hV,rfl,hfz,hnd⟩:=hW
 obtain ⟨rfl,rfl⟩:=trodVars_none hV
 have hA:DataW.TrodAll enc Tryd.prog W 0 (fun _=>true) true Tryd.f8.params.toList args.toList ds p:=hA0
 have hAk:=hA
 rw [Tryd.params8] at hA hval
 obtain ⟨v0,vs0,d0,ds0,p0,q0,hargs0,rfl,rfl,h0,r0⟩:=trodAll_cons hA
 obtain ⟨v1,vs1,d1,ds1,p1,q1,hargs1,rfl,rfl,h1,r1⟩:=trodAll_cons r0
 obtain ⟨hnil,rfl,rfl⟩:=trodAll_nil r1
 subst hnil
 subst hargs1
 obtain rfl:args=#[v0,v1]:=by cases args; simp_all
 obtain ⟨cl0,⟨p,ls,cs,rfl,hLs,hN⟩,hr0⟩:=OpA.aggS oSet Tryd.underlying25 (hval 0 25 v0 rfl rfl) h0
 obtain ⟨cl1,⟨x,rfl,hx,hxb⟩,hr1⟩:=OpA.one oBytes (cells_slice Tryd.underlying63 (hval 1 63 v1 rfl rfl)) h1
 have walk:=(c8 p ls cs hLs hN x ⟨hx,hxb⟩) W (allV W) _ (laid_glT hL) (fun _ _ h=>h) (hr0.append hr1)
 refine walk.mono fun e W' ⟨v,he,r,hr,hg,hv⟩=>?_
 subst hr
 obtain rfl:v=.bool true:=Rep.bool hv
 exact ⟨_,he,post_same (pa:=(p0++(p1++[]))) (pv:=[]) hW' (fun _ _ _=>trodAll_cons_mk (shut_bool Tryd.underlying4 _) trodAll_mk0)
  (fun sp hsp=>args_again kids full hg (by rw [Tryd.params8]; decide +kernel) hAk (fun x hx=>hlt x (by simpa using hx)) fun x hx=>hsp x (by simpa using hx)) (fun _ _=>rfl) (by simp)
  (grow_kept hg _) (fun a ha=>grow_fz hg a ha) (ok_one (by kernel_rfl) rfl (okWide_bool_mk Tryd.underlying4 _))⟩
noncomputable def laidWorld (os:Os):World:=tabWorld (World.holding Tryd.prog os ⟨#[],#[],[]⟩)
theorem laid_met (os:Os):laidMet Tryd.prog Rows.madeMoreRow.laid ((laidWorld os).forCall (fun _ _=>0) ⟨#[],#[noSet,.slice none 0 0],[]⟩).memory :=
 laidMet_of_run' 8 (by kernel_rfl) (by kernel_rfl)
theorem reads (os:Os) {H:Type} (enc:TypeId×Value→H):∃ places,DataW.whole enc Tryd.prog ((laidWorld os).forCall (fun _ _=>0) ⟨#[],#[noSet,.slice none 0 0],[]⟩).memory Tryd.f8.params.toList Rows.madeMoreSpec.vars false (#[noSet,.slice none 0 0]:Array Value).toList 8=some ([.agg [.lit (.int .i64 0),.nil,.nil],.nil],[],places) :=
 ⟨[],by kernel_rfl⟩
theorem lifted (os:Os) (started:os.Started) (H:Type) (enc:TypeId×Value→H) (F:Stop.Interp) :
  ReturnsInHanded {} Tryd.checked os 8 .any ((OpenSpec.ofChange Rows.madeMoreSpec).preRow enc Tryd.prog Tryd.f8 Rows.madeMoreRow.domain false Rows.madeMoreRow.laid) (((OpenSpec.ofChange Rows.madeMoreSpec).at F).post enc Tryd.prog Tryd.f8 false true false false):=by
 obtain ⟨places,hx⟩:=reads os enc
 refine returnsInHanded_of_row (C:=Tryd.checked) (s:=OpenSpec.ofChange Rows.madeMoreSpec) own started (by kernel_rfl) Tryd.func8
  (witness_row_at (enc:=enc) (C:=Tryd.checked) false (laidWorld os) #[noSet,.slice none 0 0] rfl (by kernel_rfl) (by kernel_rfl) (by kernel_rfl)
   (OpenSpec.preRow_of_cond 8 hx (by kernel_rfl) (fun k hk=>by cases hk) (by kernel_rfl) (laid_met os))) ?_
 intro W base args ds gs before hval hW _ _ _ hL _ _
 exact contract H enc W base args ds gs before hval hW hL
theorem said:Rows.MadeMoreSaid :=
 OpenClaim.holds_of_cond 8 Tryd.f8 rfl rfl rfl rfl rfl rfl rfl ⟨rfl,rfl,rfl,rfl,rfl⟩ rfl rfl rfl rfl rfl (by kernel_rfl) Tryd.func8 (by kernel_rfl)
  (of_decide_eq_true (by kernel_rfl)) (by unfold Func.isWrapper; first | (rw [if_pos (by decide +kernel)]; kernel_rfl) | (rw [if_neg (by decide +kernel)]; exact ⟨rfl,rfl⟩))
  (fun os started H enc _ F=>by rw [OpenClaim.pre_eq_preRow]; exact lifted os started H enc F)
theorem plain (f:FuncId) (fn:Func) (hf:Tryd.pinned.checked.prog.funcNamed "duodecimo/duodecimolaw11.MadeMore" = some f) (hfn:Tryd.pinned.checked.prog.funcs[f]?=some fn) :
  false=Tryd.pinned.checked.prog.looks []∧∀ (j:Nat) t,fn.params[j]?=some t→Tryd.pinned.checked.prog.wantsStandIn t=false:=by
 obtain rfl:f=8:=Option.some.inj ((show Tryd.prog.funcNamed "duodecimo/duodecimolaw11.MadeMore" = some 8 by kernel_rfl).symm.trans hf) |>.symm
 obtain rfl:fn=Tryd.f8:=(Option.some.inj (Tryd.func8.symm.trans hfn)).symm
 refine ⟨by kernel_rfl,fun j t ht=>?_⟩
 rw [Tryd.params8] at ht
 have hm:=Array.mem_of_getElem? ht
 have s25:Tryd.prog.wantsStandIn 25=false:=by kernel_rfl
 have s63:Tryd.prog.wantsStandIn 63=false:=by kernel_rfl
 simp at hm
 rcases hm with rfl | rfl
 · exact s25
 exact s63
theorem card:Rows.MadeMoreCardSaid :=
 Claim7.holds_tied_plain_at .later [] _ _ _ _ said (fun _ h=>by cases h) (by kernel_rfl) (fun _ h=>by cases h) madeMore_row_tie rfl ⟨rfl,rfl⟩ (by kernel_rfl) rfl plain (by kernel_rfl)
end Go.Proofs.YtmchcpmkadhmjaaDoor.madeMore
