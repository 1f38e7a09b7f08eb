/-
  SkelRoom: the given law returns true at every input, and its arguments read behind the call as they did: on the day of Room the further forme needs no further skeleton; on any earlier day it would clash, or need one. No condition.
-/
import Derived.Test.YtfhippofplmpdaaDoorLawRoomA
namespace Go.Proofs.YtfhippofplmpdaaDoor.skelRoom
set_option maxRecDepth 100000
open Go.ChangeShapes Go.WideShapes Go.ChangeAt Go.RowKit Go.Ab Go.Ab.SkF
theorem own:ownKnob Tryd.prog.godebug=none:=by kernel_rfl
theorem contract (H:Type) (enc:TypeId×Value→H) (W:World) (base:Nat) (args:Array Value) (ds gs:List (DataW H)) (before:List MemPlace)
  (hval:∀ (j:Nat) t v,Tryd.f14.params[j]?=some t→args[j]?=some v→Value.okWide Tryd.prog W .any base t v)
  (hW:DataW.Whole enc Tryd.prog Tryd.f14.params.toList Rows.skelRoomSpec.vars false W args.toList ds gs before) (hL:laidMetH Tryd.prog Rows.skelRoomRow.laid W) :
  Calls Tryd.prog 14 args W fun e W'=>∃ v,e=.returned v∧Rows.skelRoomSpec.post enc Tryd.prog Tryd.f14 false true false false W args v W':=by
 have hW':=hW
 have hlt:=hW.lt
 obtain ⟨p,q,hA0,hV,rfl,hfz,hnd⟩:=hW
 obtain ⟨rfl,rfl⟩:=trodVars_none hV
 have hA:DataW.TrodAll enc Tryd.prog W 0 (fun _=>true) true Tryd.f14.params.toList args.toList ds p:=hA0
 have hAk:=hA
 rw [Tryd.params14] at hA hval
 obtain ⟨v0,vs0,d0,ds0,p0,q0,hargs0,rfl,rfl,h0,r0⟩:=trodAll_cons hA
 obtain ⟨v1,vs1,d1,ds1,p1,q1,hargs1,rfl,rfl,h1,r1⟩:=trodAll_cons r0
 obtain ⟨v2,vs2,d2,ds2,p2,q2,hargs2,rfl,rfl,h2,r2⟩:=trodAll_cons r1
 obtain ⟨hnil,rfl,rfl⟩:=trodAll_nil r2
 subst hnil
 subst hargs2
 subst hargs1
 obtain rfl:args=#[v0,v1,v2]:=by cases args; simp_all
 obtain ⟨cl0,⟨ts,fs,ss,rfl,hJ⟩,hr0⟩:=OpA.aggS oJob Tryd.underlying26 (hval 0 26 v0 rfl rfl) h0
 obtain ⟨cl1,⟨bits,rfl,hbits⟩,hr1⟩:=OpA.one oByteV (cells_int Tryd.underlying5 (hval 1 5 v1 rfl rfl)) h1
 obtain ⟨cl2,⟨a,b,rfl,ha,hb⟩,hr2⟩:=OpA.aggA oDuo Tryd.underlying73 (hval 2 73 v2 rfl rfl) h2
 have walk:=(c14 ts fs ss hJ bits hbits a b ha hb) W (allV W) _ (laid_glT hL) (fun _ _ h=>h) ((hr0.append hr1).append hr2)
 refine walk.mono fun e W' ⟨v,he,r,hr,hg,hv⟩=>?_
 subst hr
 obtain rfl:v=.bool true:=Rep.bool hv
 exact ⟨_,he,post_same (pa:=(p0++(p1++(p2++[])))) (pv:=[]) hW' (fun _ _ _=>trodAll_cons_mk (shut_bool Tryd.underlying4 _) trodAll_mk0)
  (fun sp hsp=>args_again kids full hg (by rw [Tryd.params14]; decide +kernel) hAk (fun x hx=>hlt x (by simpa using hx)) fun x hx=>hsp x (by simpa using hx)) (fun _ _=>rfl) (by simp)
  (grow_kept hg _) (fun a ha=>grow_fz hg a ha) (ok_one (by kernel_rfl) rfl (okWide_bool_mk Tryd.underlying4 _))⟩
noncomputable def laidWorld (os:Os):World:=tabWorld (World.holding Tryd.prog os ⟨#[],#[],[]⟩)
theorem laid_met (os:Os):laidMet Tryd.prog Rows.skelRoomRow.laid ((laidWorld os).forCall (fun _ _=>0) ⟨#[],#[noJob,.int .u8 0,.agg #[.int .u8 0,.int .u8 0]],[]⟩).memory :=
 laidMet_of_run' 8 (by kernel_rfl) (by kernel_rfl)
theorem reads (os:Os) {H:Type} (enc:TypeId×Value→H):∃ places,DataW.whole enc Tryd.prog ((laidWorld os).forCall (fun _ _=>0) ⟨#[],#[noJob,.int .u8 0,.agg #[.int .u8 0,.int .u8 0]],[]⟩).memory Tryd.f14.params.toList Rows.skelRoomSpec.vars false (#[noJob,.int .u8 0,.agg #[.int .u8 0,.int .u8 0]]:Array Value).toList 8=some ([.agg [.nil,.nil,.nil],.lit (.int .u8 0),.agg [.lit (.int .u8 0),.lit (.int .u8 0)]],[],places) :=
 ⟨[],by kernel_rfl⟩
theorem lifted (os:Os) (started:os.Started) (H:Type) (enc:TypeId×Value→H) (F:Stop.Interp) :
  ReturnsInHanded {} Tryd.checked os 14 .any ((OpenSpec.ofChange Rows.skelRoomSpec).preRow enc Tryd.prog Tryd.f14 Rows.skelRoomRow.domain false Rows.skelRoomRow.laid) (((OpenSpec.ofChange Rows.skelRoomSpec).at F).post enc Tryd.prog Tryd.f14 false true false false):=by
 obtain ⟨places,hx⟩:=reads os enc
 refine returnsInHanded_of_row (C:=Tryd.checked) (s:=OpenSpec.ofChange Rows.skelRoomSpec) own started (by kernel_rfl) Tryd.func14
  (witness_row_at (enc:=enc) (C:=Tryd.checked) false (laidWorld os) #[noJob,.int .u8 0,.agg #[.int .u8 0,.int .u8 0]] rfl (by kernel_rfl) (by kernel_rfl) (by kernel_rfl)
   (OpenSpec.preRow_of_cond 8 hx (by kernel_rfl) (fun k hk=>by cases hk) (by kernel_rfl) (laid_met os))) ?_
 intro W base args ds gs before hval hW _ _ _ hL _ _
 exact contract H enc W base args ds gs before hval hW hL
theorem said:Rows.SkelRoomSaid :=
 OpenClaim.holds_of_cond 14 Tryd.f14 rfl rfl rfl rfl rfl rfl rfl ⟨rfl,rfl,rfl,rfl,rfl⟩ rfl rfl rfl rfl rfl (by kernel_rfl) Tryd.func14 (by kernel_rfl)
  (of_decide_eq_true (by kernel_rfl)) (by unfold Func.isWrapper; first | (rw [if_pos (by decide +kernel)]; kernel_rfl) | (rw [if_neg (by decide +kernel)]; exact ⟨rfl,rfl⟩))
  (fun os started H enc _ F=>by rw [OpenClaim.pre_eq_preRow]; exact lifted os started H enc F)
theorem plain (f:FuncId) (fn:Func) (hf:Tryd.pinned.checked.prog.funcNamed "duodecimo/duodecimolaw05.SkelRoom" = some f) (hfn:Tryd.pinned.checked.prog.funcs[f]?=some fn) :
  false=Tryd.pinned.checked.prog.looks []∧∀ (j:Nat) t,fn.params[j]?=some t→Tryd.pinned.checked.prog.wantsStandIn t=false:=by
 obtain rfl:f=14:=Option.some.inj ((show Tryd.prog.funcNamed "duodecimo/duodecimolaw05.SkelRoom" = some 14 by kernel_rfl).symm.trans hf) |>.symm
 obtain rfl:fn=Tryd.f14:=(Option.some.inj (Tryd.func14.symm.trans hfn)).symm
 refine ⟨by kernel_rfl,fun j t ht=>?_⟩
 rw [Tryd.params14] at ht
 have hm:=Array.mem_of_getElem? ht
 have s26:Tryd.prog.wantsStandIn 26=false:=by kernel_rfl
 have s5:Tryd.prog.wantsStandIn 5=false:=by kernel_rfl
 have s73:Tryd.prog.wantsStandIn 73=false:=by kernel_rfl
 simp at hm
 rcases hm with rfl | rfl | rfl
 ·exact s26
 ·exact s5
 exact s73
theorem card:Rows.SkelRoomCardSaid :=
 Claim7.holds_tied_plain_at .later [] _ _ _ _ said (fun _ h=>by cases h) (by kernel_rfl) (fun _ h=>by cases h) skelRoom_row_tie rfl ⟨rfl,rfl⟩ (by kernel_rfl) rfl plain (by kernel_rfl)
end Go.Proofs.YtfhippofplmpdaaDoor.skelRoom
