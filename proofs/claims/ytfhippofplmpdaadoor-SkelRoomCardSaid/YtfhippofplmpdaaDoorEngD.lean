/-
  THE ENGINE, PART RA: what is handed in, as the statements read it, reads as ours; and it reads again behind the call.
-/
import Derived.RangeFuncRecord
import Derived.Laws.Sem
import Derived.ReadAgain
import Derived.OpenShut
import Derived.Deep.Slices
import Derived.WideShapes
import Derived.Test.YtfhippofplmpdaaDoorEngC
namespace Go.Ab
open Go
variable {S:Sig} [Cod S]
variable {X:Type} {gl:Gl} {En:Env X} {x:X} {w w1 w':World} {V V':Nat→Nat→Prop} {l l0:Loc} {ts:Array Value} {st:St S}
variable {P:Program} {par:Par S X} {a:Act} {ro:Option Nat} {n:Nat}
theorem SRx.unmark {D:Nat} {Ds:List Nat} (h:SRx gl (En.marks (D :: Ds)) x w V l l0 ts st):SRx gl (En.marks Ds) x (w.putObj D (.deferred none)) V l l0 ts st∧(Instr.takeDeferred D).run P w=.ok [] (w.putObj D (.deferred none)):=by
 obtain ⟨hinv,hnd,hD⟩:=h.inv
 obtain ⟨h1,h2⟩:=hD D List.mem_cons_self
 have hlt:=lt_of_heap h1
 have hcell:∀ b o,eye (w.putObj D (.deferred none)) b o=eye w b o:=fun b o=>by
  by_cases hb:b=D
  ·subst hb
   simp only [eye,World.cell?,World.putObj_heap_same hlt,h1]
  exact cell_congr (World.putObj_heap_other hb) o
 have hblk:∀ {b:Nat} {c:Array Value} {el:TypeId},w.heap[b]?=some (.cells c el (0,0))→(w.putObj D (.deferred none)).heap[b]?=some (.cells c el (0,0)):=fun {b c el} hb=>by
  rw [World.putObj_heap_other]
  ·exact hb
  intro e; subst e; rw [h1] at hb; cases hb
 have hr:∀ {l1:Loc} {vs:List Value} {cs:List (AV S)},Reps w V l1 vs cs→Reps (w.putObj D (.deferred none)) V l1 vs cs:=fun hr =>
  hr.mono (fun _ _ h=>h) (fun b o _=>hcell b o) _ (Loc.le_refl _) fun _ b _ _ _ o _=>hcell b o
 have hat:∀ {b o:Nat} {ws:List Value},CellsAt w V b o ws→CellsAt (w.putObj D (.deferred none)) V b o ws:=fun h=>h.mono (fun _ _ h=>h) fun b o _=>hcell b o
 have hsz:(w.putObj D (.deferred none)).heap.size=w.heap.size:=by simp [World.putObj]
 refine ⟨⟨h.le,⟨h.cb.cb,h.cb.up,h.cb.own,fun b o v e=>⟨(h.cb.fz b o v e).1,(hcell b o).trans (h.cb.fz b o v e).2⟩⟩,⟨En.stable _ _ _ hinv ⟨rfl,rfl,rfl,by rw [hsz]; exact Nat.le_refl _,fun b hb=>World.putObj_heap_other fun e=>h2 (e ▸ hb)⟩,(List.nodup_cons.1 hnd).2,fun D' hD'=>?_⟩,
  gl.st _ _ h.g (by rw [hsz]; exact Nat.le_refl _) fun b _ o=>hcell b o,fun b o hv=>by rw [hsz]; exact h.vlt b o hv,h.vem,h.sz,fun i c hi=>hr (h.tmps i c hi),fun d ao hd=>?_,fun d ao hd=>?_,h.rego,h.regt,
  fun k d b hm=>⟨fun hE=>(h.mine k d b hm).1 (hE.imp id fun h=>List.mem_cons_of_mem _ h),(h.mine k d b hm).2⟩,h.dis⟩,?_⟩
 ·obtain ⟨h3,h4⟩:=hD D' (List.mem_cons_of_mem _ hD')
  refine ⟨?_,h4⟩
  rw [World.putObj_heap_other]
  ·exact h3
  intro e; subst e; exact (List.nodup_cons.1 hnd).1 hD'
 ·have h3:=h.seg d ao hd
  cases ao with
  | cells cs=>obtain ⟨b,hb,c,el,h5,h6,h7⟩:=h3; exact ⟨b,hb,c,el,hblk h5,hr h6,h7⟩
  | frz cs=>obtain ⟨b,ws,hb,h5,h6⟩:=h3; exact ⟨b,ws,hb,hat h5,hr h6⟩
  | row u f =>
   obtain ⟨t,ht,h5⟩:=h3
   refine ⟨t,ht,?_⟩
   cases t with
   | no=>trivial
   | «at» b m cap=>obtain ⟨c,el,h6,h7⟩:=h5; exact ⟨c,el,hblk h6,h7⟩
  | mp kvs =>
   obtain ⟨b,hb,hmp⟩:=h3
   exact ⟨b,hb,hmp.mono (World.putObj_heap_other fun e=>by obtain ⟨es,ck,h7,_⟩:=hmp; rw [e,h1] at h7; cases h7) hr fun o=>by obtain ⟨es,ck,_,_,h3⟩:=hmp; exact h3 o⟩
  | mpz ks us=>obtain ⟨b2,hb2,hmz⟩:=h3; exact ⟨b2,hb2,hr hmz⟩
 ·have h3:=h.up d ao hd
  cases ao with
  | cells cs=>obtain ⟨b,hb,c,el,h5,h6,h7⟩:=h3; exact ⟨b,hb,c,el,hblk h5,hr h6,h7⟩
  | frz cs=>obtain ⟨b,ws,hb,h5,h6⟩:=h3; exact ⟨b,ws,hb,hat h5,hr h6⟩
  | row u f=>trivial
  | mp kvs =>
   obtain ⟨b,hb,hmp⟩:=h3
   exact ⟨b,hb,hmp.mono (World.putObj_heap_other fun e=>by obtain ⟨es,ck,h7,_⟩:=hmp; rw [e,h1] at h7; cases h7) hr fun o=>by obtain ⟨es,ck,_,_,h3⟩:=hmp; exact h3 o⟩
  | mpz ks us=>obtain ⟨b2,hb2,hmz⟩:=h3; exact ⟨b2,hb2,hr hmz⟩
 simp [Instr.takeDeferred,Sem.run_bind,getObj,setObj,Sem.run,h1,Result.andThen,Pure.pure,World.putObj]
variable [LawCod S]
theorem resK_elim (htis:TisOk P par.ti) {tmps:Array Value}:∀ (rs:List ResultVar) (st:St S) (K:List (AV S)→List (Nat×AO S)→Prop) (V:Nat→Nat→Prop),SR gl En x w V l tmps st→resK par rs st K →
  ∃ cs sg vs V',K cs sg∧(∀ b o,V b o→V' b o)∧SR gl En x w V' l tmps { st with seg:=sg }∧Reps w V' Loc.none vs cs∧vs.length=rs.length∧cs.length=rs.length ∧
   (rs.mapM fun (r:ResultVar)=>match r with
    | .tmp t=>(pure (tmps.getD t undef):Sem Value)
    | .cell a t=>do loadVar t (←asAddr (tmps.getD a undef))).run P w=.ok vs w
 | [],st,K,V,hs,h=>⟨[],st.seg,[],V,h,fun _ _ h=>h,hs,.nil _,rfl,rfl,rfl⟩
 | r :: rs,st,K,V,hs,h=>by
  have hgo:∀ {v:Value} {c:AV S},Rep w V l v c→NotArr c→(match r with
    | .tmp t=>(pure (tmps.getD t undef):Sem Value)
    | .cell a t=>do loadVar t (←asAddr (tmps.getD a undef))).run P w=.ok v w→(outK 20 c st.seg fun v' sg=>resK par rs { st with seg:=sg } fun l sg'=>K (v' :: l) sg') →
    ∃ cs sg vs V',K cs sg∧(∀ b o,V b o→V' b o)∧SR gl En x w V' l tmps { st with seg:=sg }∧Reps w V' Loc.none vs cs∧vs.length=(r :: rs).length∧cs.length=(r :: rs).length ∧
     ((r :: rs).mapM fun (r:ResultVar)=>match r with
      | .tmp t=>(pure (tmps.getD t undef):Sem Value)
      | .cell a t=>do loadVar t (←asAddr (tmps.getD a undef))).run P w=.ok vs w:=fun {v c} hv hna hrun h=>by
   obtain ⟨c',sg1,h,ho⟩:=(outK_elim 20).1 _ _ _ h
   obtain ⟨V1,hV1,hs1,_,hr1⟩:=ho.out hs
   obtain ⟨cs,sg,vs,V2,hK,hV2,hs2,hr2,hl1,hl2,hrun2⟩:=resK_elim htis rs _ _ V1 hs1 h
   refine ⟨c' :: cs,sg,v :: vs,V2,hK,fun b o h=>hV2 _ _ (hV1 _ _ h),hs2,((hr1 _ hv).more hV2 (Loc.le_refl _)).append hr2,by simp [hl1],by simp [hl2],?_⟩
   rw [List.mapM_cons]
   simp only [Sem.run_bind,hrun,Result.andThen,hrun2]
   rfl
  cases r with
  | tmp t =>
   simp only [resK,nthK_eq] at h
   have hna:NotArr (st.tmps.getD t .undef):=by
    cases hc:st.tmps.getD t .undef <;> rw [hc] at h <;> first | trivial | exact h.elim
   refine hgo (hs.tmp t) hna rfl ?_
   cases hc:st.tmps.getD t .undef <;> rw [hc] at h <;> first | exact h | exact h.elim
  | cell ad t =>
   simp only [resK,nthK_eq] at h
   obtain ⟨ty,h,hty⟩:=tyK_elim htis h
   obtain ⟨v,c,hrun,h,hv⟩:=load_ok (a:={ tmps:=tmps,defers:=[] }) hty hs (hs.tmp ad) h
   have hna:NotArr c:=by cases c <;> first | trivial | exact h.elim
   refine hgo hv hna ?_ (by cases c <;> first | exact h | exact h.elim)
   have hp:∀ pv:Value,(Instr.loadAt t pv).run P w=.ok v w→(do loadVar t (←asAddr pv):Sem Value).run P w=.ok v w:=fun pv h=>by
    cases pv with
    | pointer o =>
     cases o with
     | some ad=>exact h
     | none=>simp [Instr.loadAt,Instr.sureAddr,stuck,Sem.run_bind,Sem.run,Result.andThen] at h
    | _=>simp [Instr.loadAt,Instr.sureAddr,stuck,Sem.run_bind,Sem.run,Result.andThen] at h
   exact hp _ hrun
theorem results_run (htis:TisOk P par.ti) {fn:Func} {tmps:Array Value} {V:Nat→Nat→Prop} (hs:SR gl En x w V l tmps st) {Q:AV S→Prop} (h:resK par fn.results.toList st fun l _=>tupK l Q) :
  ∃ v r sg V',(results fn tmps).run P w=.ok v w∧Q r∧(∀ b o,V b o→V' b o)∧SR gl En x w V' l tmps { st with seg:=sg }∧Rep w V' Loc.none v r:=by
 obtain ⟨cs,sg,vs,V',hK,hV,hs',hr,hl1,hl2,hrun⟩:=resK_elim htis _ _ _ _ hs h
 have hm:(fn.results.mapM fun (r:ResultVar)=>match r with
       | .tmp t=>(pure (tmps.getD t undef):Sem Value)
       | .cell a t=>do loadVar t (←asAddr (tmps.getD a undef))).run P w=.ok vs.toArray w:=by
  rw [Array.mapM_eq_mapM_toList]
  show (List.toArray <$> _:Sem (Array Value)).run P w=_
  rw [map_eq_pure_bind,Sem.run_bind,hrun]
  rfl
 have hres:(results fn tmps).run P w=.ok (if h:vs.toArray.size=1 then vs.toArray[0] else .tuple vs.toArray) w:=by
  unfold results
  rw [Sem.run_bind]
  refine (congrArg (fun r=>Result.andThen r _) hm).trans ?_
  rfl
 by_cases h1:∃ v,cs=[v]
 ·obtain ⟨c,rfl⟩:=h1
  obtain ⟨v,rfl⟩:∃ v,vs=[v]:=by
   match vs,hl1.trans hl2.symm with
   | [v],_=>exact ⟨v,rfl⟩
  exact ⟨_,c,sg,V',hres,hK,hV,hs',by simpa using hr⟩
 have hK':Q (.tup cs):=by
  unfold tupK at hK
  split at hK
  ·exact absurd ⟨_,rfl⟩ h1
  ·exact hK
 have hne:¬ vs.toArray.size=1:=fun e=>h1 (by
  have:cs.length=1:=by rw [hl2,←hl1]; simpa using e
  match cs,this with
  | [c],_=>exact ⟨c,rfl⟩)
 rw [dif_neg hne] at hres
 refine ⟨_,.tup cs,sg,V',hres,hK',hV,hs',?_⟩
 exact Reps.tup (by simpa using hr) (.nil _)
omit [Cod S] [LawCod S] in
theorem padK_eq:∀ (n:Nat) (l:List (AV S)) (K:List (AV S)→Prop),padK n l K=K (l++List.replicate (n - l.length) .undef)
 | 0,l,K=>by simp [padK]
 | n+1,[],K=>by simp only [padK]; rw [padK_eq n [] _]; simp [List.replicate_succ]
 | n+1,v :: l,K=>by simp only [padK]; rw [padK_eq n l _]; simp
def Env.start (w0:World) (V0:Nat→Nat→Prop):Env Unit where
 fv:=none
 ups _:=none
 owns _:=none
 fz _ _ _:=False
 inv _ w:=Grow w0 w
 E _ b:=b < w0.heap.size
 EM _ b o:=b < w0.heap.size∧¬ V0 b o
 lt _ _ _ h hb:=Nat.lt_of_lt_of_le hb h.size
 emE _ _ _ h:=h.1
 stable _ _ _ h k:=Keep.trans h k
omit [LawCod S] in
theorem start_tmps {w:World} {V:Nat→Nat→Prop} {l:Loc} {vs:List Value} {args:List (AV S)} (hr:Reps w V l vs args) (hba:bareB args=true) (n:Nat):vs.length=args.length ∧
  ∀ (i:Nat) (c:AV S),(args++List.replicate (n - args.length) .undef)[i]?=some c→Rep w V l ((vs.toArray++Array.replicate (n - vs.toArray.size) undef).getD i Go.undef) c:=by
 have hlen:vs.length=args.length:=by
  induction args generalizing vs with
  | nil=>rw [hr.nil_inv]; rfl
  | cons c cs ih =>
   obtain ⟨v,vs',rfl,h1,h2⟩:=hr.head (by simpa using bareB_get hba 0)
   have:bareB cs=true:=by cases c <;> first | exact hba | cases hba
   simp [ih h2 this]
 refine ⟨hlen,fun i c hi=>?_⟩
 rcases Nat.lt_or_ge i args.length with hi' | hi'
 ·rw [List.getElem?_append_left hi'] at hi
  obtain ⟨v,hv,hrep⟩:=hr.nth (i:=i) (fun j _=>bareB_get hba j) hi
  have:(vs.toArray++Array.replicate (n - vs.toArray.size) undef).getD i Go.undef=v:=by
   rw [Array.getD_eq_getD_getElem?,Array.getElem?_append_left (by simp; omega)]
   simp [hv]
  rw [this]; exact hrep
 rw [List.getElem?_append_right hi'] at hi
 have:=List.mem_of_getElem? hi
 rw [List.mem_replicate] at this
 rw [this.2]
 exact Rep.flat1 trivial
theorem leaves_ok {fn:Func} {R:Ending→World→Prop} {Q:AV S→Prop} (htis:TisOk P par.ti) {st:St S} {V':Nat→Nat→Prop} {l:Loc} {tmps:Array Value} {x:X} (h:resK par fn.results.toList st fun l _=>tupK l fun r=>Q r)
  (hR:∀ (w':World) (v:Value) (r:AV S) (sg:List (Nat×AO S)) (V2:Nat→Nat→Prop),SR gl (En.marks []) x w' V2 l tmps { st with seg:=sg }→(∀ b o,V' b o→V2 b o)→Q r→Rep w' V2 Loc.none v r→R (.returned v) w') :
  ∀ (Ds:List Nat) (w':World),SR gl (En.marks Ds) x w' V' l tmps st→LeavesInM (Fo none) n P fn tmps R (Ds.map markOf) .returning w':=by
 intro Ds
 induction Ds with
 | nil =>
  intro w' hs
  obtain ⟨v,r,sg,V2,hrun,hQ,hV2,hs2,hrep⟩:=results_run htis hs h
  exact ⟨v,hrun,hR w' v r sg V2 hs2 hV2 hQ hrep⟩
 | cons D Ds ih =>
  intro w' hs
  obtain ⟨h1,h2⟩:=hs.unmark (P:=P)
  exact ⟨by simp,.inl ⟨D,_,rfl,h2,ih _ h1⟩⟩
theorem body_okG (hpo:ParOk P gl par En) (hrs:par.rs=true→∀ b o v,¬ En.fz b o v) {f:FuncId} {fn:Func} (hf:P.funcs[f]?=some fn) {args:List (AV S)} {ups:List (Nat×AO S)} {End:St S→X→Prop}
  (h:match fn.body with
   | none=>False
   | some c=>match bareB args with
    | true=>padK fn.ntmps args fun ts=>aWp par c (false,[]) (fun e st y=>match e with
     | .exit _=>False
     | _=>End st y) { tmps:=ts,seg:=[],up:=ups } x
    | false=>False)
  {U:Nat→Prop} {vs:List Value} {R:Ending→World→Prop} (howns:∀ d b,En.owns d≠some b) (hg:gl.G w) (hinv:En.inv x w) (hlt:∀ b o,V b o→b < w.heap.size) (hem:∀ b o,V b o→¬ En.EM x b o)
  (hfz:∀ b o v,En.fz b o v→V b o∧eye w b o=v) (hup:UpsOk gl w V (lc En.fv En.ups) ups U) (hUE:∀ b,U b→¬ En.E x b) (hr:Reps w V (lc En.fv En.ups) vs args)
  (hend:∀ {st:St S} {x':X} {V':Nat→Nat→Prop} {l:Loc} {tmps:Array Value} {w':World} {Ds:List Nat},End st x'→SR gl (En.marks Ds) x' w' V' l tmps st→LeavesInM (Fo none) 0 P fn tmps R (Ds.map markOf) .returning w') :
  Calls P f vs.toArray w R:=by
 cases hb:fn.body with
 | none=>rw [hb] at h; exact h.elim
 | some c =>
  rw [hb] at h
  simp only at h
  cases hba:bareB args with
  | false=>rw [hba] at h; exact h.elim
  | true =>
   rw [hba] at h
   simp only [padK_eq] at h
   obtain ⟨hlen,htm⟩:=start_tmps hr hba fn.ntmps
   refine callsIn_wide (n:=0).1 (callsIn_of_wp_marks (F:=Fo none) hf hb trivial ?_ rfl)
   have hs0:SR gl En x w V (lc En.fv En.ups) (vs.toArray++Array.replicate (fn.ntmps - vs.toArray.size) undef) ({ tmps:=args++List.replicate (fn.ntmps - args.length) .undef,seg:=[],up:=ups }:St S):=by
    refine ⟨Loc.le_refl _,⟨rfl,rfl,fun d b e=>absurd e (howns d b),hfz⟩,hinv,hg,hlt,hem,by simp [hlen],htm,fun d ao h=>by simp [lookA] at h,fun d ao h=>hup.ok d ao h,
     fun d b h=>by simp [lc] at h,fun d t h=>by simp [lc] at h,fun k d b hm=>?_,fun k d k' d' b hm hm'=>?_⟩
    ·cases k with
     | false=>obtain ⟨ao,h1,_⟩:=hm; simp [lookA] at h1
     | true =>
      obtain ⟨ao,h1,hu,h2⟩:=hm
      obtain ⟨h3,h4⟩:=hup.mine d ao b h1 hu h2
      exact ⟨hUE b h3,h4⟩
    cases k with
    | false=>obtain ⟨ao,h1,_⟩:=hm; simp [lookA] at h1
    | true =>
     cases k' with
     | false=>obtain ⟨ao,h1,_⟩:=hm'; simp [lookA] at h1
     | true =>
      obtain ⟨ao,h1,hu,h2⟩:=hm
      obtain ⟨ao',h3,hu',h4⟩:=hm'
      exact ⟨rfl,hup.dis d ao d' ao' b h1 hu h3 hu' h2 h4⟩
   refine wpIn_mono (aWp_sound c En hpo none 0 (false,[]) (fun d b e=>absurd e (howns d b)) ⟨(fun _=>rfl),(fun h=>by cases h)⟩ (fun h _=>hrs h) [] _ _ x _ w V (lc En.fv En.ups) [] h (SR.marks_nil hs0) rfl (fun h=>by cases h)) fun e a' w' hq=>?_
   cases e with
   | normal=>obtain ⟨st',x',V',l',Ds,h1,h2,h3,_⟩:=hq; simp only [bodyPostM]; rw [h3]; exact hend h1 h2
   | ret=>obtain ⟨st',x',V',l',Ds,h1,h2,h3,_⟩:=hq; simp only [bodyPostM]; rw [h3]; exact hend h1 h2
   | exit id=>obtain ⟨st',x',V',l',Ds,h1,h2,h3⟩:=hq; exact h1.elim
   | _=>exact hq.elim
theorem body_ok (hpo:ParOk P gl par En) (hrs:par.rs=true→∀ b o v,¬ En.fz b o v) {f:FuncId} {fn:Func} (hf:P.funcs[f]?=some fn) {args:List (AV S)} {ups:List (Nat×AO S)} {Q:AV S→List (Nat×AO S)→X→Prop} (h:fnU par fn args ups x Q)
  {U:Nat→Prop} {vs:List Value} {R:Ending→World→Prop} (howns:∀ d b,En.owns d≠some b) (hg:gl.G w) (hinv:En.inv x w) (hlt:∀ b o,V b o→b < w.heap.size) (hem:∀ b o,V b o→¬ En.EM x b o)
  (hfz:∀ b o v,En.fz b o v→V b o∧eye w b o=v) (hup:UpsOk gl w V (lc En.fv En.ups) ups U) (hUE:∀ b,U b→¬ En.E x b) (hr:Reps w V (lc En.fv En.ups) vs args)
  (hR:∀ (w':World) (v:Value) (r:AV S) (st:St S) (x':X) (V2:Nat→Nat→Prop) (l2:Loc) (ts:Array Value),SR gl En x' w' V2 l2 ts st→upB ups st.up=true→Q r st.up x'→Rep w' V2 Loc.none v r→R (.returned v) w') :
  Calls P f vs.toArray w R:=by
 refine body_okG hpo hrs hf (End:=fun st y=>match upB ups st.up with
  | true=>resK par fn.results.toList st fun l _=>tupK l fun r=>Q r st.up y
  | false=>False) h howns hg hinv hlt hem hfz hup hUE hr ?_
 intro st x' V' l tmps w' Ds h hs
 cases hub:upB ups st.up with
 | false=>rw [hub] at h; exact h.elim
 | true =>
  rw [hub] at h
  exact leaves_ok hpo.ti h (fun w' v r sg V2 hs2 _ hQ hrep=>hR w' v r { st with seg:=sg } x' V2 l tmps (SR.of_marks_nil hs2) hub hQ hrep) Ds w' hs
end Go.Ab
namespace Go.Ab
open Go
variable {S:Sig} [Cod S] {X:Type} {gl:Gl} {P:Program}
theorem PCalls.mono {f:FuncId} {args:List (AV S)} {Q Q':AV S→Prop} (h:PCalls P gl f args Q) (hq:∀ r,Q r→Q' r):PCalls P gl f args Q':=fun w V vs hG hlt hr =>
 (h w V vs hG hlt hr).mono fun _ _ ⟨v,he,r,hQ,hg,hrep⟩=>⟨v,he,r,hq r hQ,hg,hrep⟩
def stdPar (P:Program) (gl:Gl) (ti:List (Nat×TyI S)) (eqt:TypeId→List (AV S)→List (AV S)→Option Bool) (mi:List (Nat×MapI S)) (ai:List (Nat×Nat)) (loc:FuncId→Bool) {Y:Type} (B:List (AV S)→Y→(AV S→Y→Prop)→Prop):Par S Y where
 ti:=ti
 call f args Q:=PCalls P gl f args Q∧Opens P f∧∃ r,Q r
 loc:=loc
 ucall f args ups x Q:=(∀ En:Env Y,CbOk P gl En B→UCalls P gl En f args ups x Q)∧Opens P f
 cb:=B
 iter f caps vss:=ICalls P gl f caps vss∧Opens P f
 lcall f args sg Q:=LCalls P gl f args sg Q∧Opens P f
 eqt:=eqt
 mi:=mi
 ai:=ai
theorem stdPar_ok {ti:List (Nat×TyI S)} {eqt:TypeId→List (AV S)→List (AV S)→Option Bool} {mi:List (Nat×MapI S)} (heqt:EqtOk P eqt) (hmi:∀ t m,lookA mi t=some m→MapOk P t m) {ai:List (Nat×Nat)} (hai:∀ t e,lookA ai t=some e→∃ n,P.underlying t=some (.array n e)) {loc:FuncId→Bool} {Y:Type} {B:List (AV S)→Y→(AV S→Y→Prop)→Prop} {En:Env Y} (hti:TisOk P ti) (hmix:P.follows .mixedOrders=true) (hB:CbOk P gl En B):ParOk P gl (stdPar P gl ti eqt mi ai loc B) En where
 ti:=hti
 call:=fun _ _ _ h=>h.1
 mono:=fun _ _ _ _ h hc=>⟨hc.1.mono h,hc.2.1,hc.2.2.imp h⟩
 wit:=fun _ _ _ h=>h.2.2
 mix:=hmix
 fn:=fun _ _ _ h=>h.2.1
 ucall:=fun _ _ _ _ _ h=>h.1 En hB
 ufn:=fun _ _ _ _ _ h=>h.2
 iter:=fun _ _ _ h=>h.1
 ifn:=fun _ _ _ h=>h.2
 lcall:=fun _ _ _ _ h=>h.1
 lfn:=fun _ _ _ _ h=>h.2
 rg:=fun _ _ _ _ h=>h.elim
 cb:=hB
 eqt:=heqt
 mi:=hmi
 ai:=hai
def noB {S:Sig} {Y:Type}:List (AV S)→Y→(AV S→Y→Prop)→Prop:=fun _ _ _=>False
theorem noB_ok {Y:Type} {En:Env Y}:CbOk P gl En (noB (S:=S)):=fun _ _ _ h=>h.elim
variable [LawCod S]
theorem fnW_sound {par:Par S Unit} (hp:∀ En:Env Unit,ParOk P gl par En) {f:FuncId} {fn:Func} (hf:P.funcs[f]?=some fn) {args:List (AV S)} {Q:AV S→Prop} (h:fnW par fn args () fun r _=>Q r):PCalls P gl f args Q:=by
 intro w V vs hG hlt hr
 refine body_ok (En:=Env.start w V) (U:=fun _=>False) (hp _) (fun _ _ _ _ h=>h) hf h (fun d b e=>by cases e) hG (Keep.refl _ _) hlt (fun b o hv hm=>hm.2 hv) (fun b o v e=>e.elim)
  ⟨fun d ao h=>by simp [lookA] at h,fun d ao b h=>by simp [lookA] at h,fun d ao d' ao' b h=>by simp [lookA] at h⟩ (fun b h=>h.elim) (hr.of_none _) ?_
 intro w' v r st x' V2 l2 ts hs _ hQ hrep
 have hrp:Rep w' (freshV V w w') Loc.none v r:=hrep.more (fun b o hv=>by
  rcases Nat.lt_or_ge b w.heap.size with hb | hb
  ·exact .inl (Classical.byContradiction fun hn=>hs.vem b o hv ⟨hb,hn⟩)
  exact .inr ⟨hb,hs.vlt b o hv⟩) (Loc.le_refl _)
 refine ⟨v,rfl,r,hQ,hs.inv,?_⟩
 cases r with
 | sl u xs o =>
  cases o with
  | none=>exact hrp
  | some e =>
   exfalso
   obtain ⟨base,cap,ws,rfl,h5,h6⟩:=hrp.slTok
   rcases h6 with ⟨_,_,h6⟩ | ⟨b',_,h6,_⟩ <;> cases h6
 | _=>exact hrp
theorem fnU_sound {par:Par S X} {En:Env X} (hp:ParOk P gl par En) {f:FuncId} {fn:Func} (hf:P.funcs[f]?=some fn) {args:List (AV S)} {ups:List (Nat×AO S)} {x:X} {Q:AV S→List (Nat×AO S)→X→Prop}
  (h:fnU par fn args ups x Q) (hrs:par.rs=false:=by rfl):UCalls P gl En f args ups x Q:=by
 intro w V vs lu U hinv hG hlt hem hu hU hr
 refine body_ok (En:=En.sub x w V U lu fun _=>none) (U:=U) (hp.ext Env.sub_ext) (fun h=>by rw [hrs] at h; cases h) hf h (fun d b e=>by cases e) hG (SubInv.refl hinv) hlt (fun b o hv hm=>hm.elim (hem b o hv) fun hm=>hm.2.2 hv)
  (fun b o v e=>e) hu (fun b hb hE=>hE.elim (hU b hb) fun hE=>hE.2 hb) hr ?_
 intro w' v r st x' V2 l2 ts hs hub hQ hrep
 have hi:SubInv En x w U x' w':=hs.inv
 have hlc:∀ {ws:List Value} {cs:List (AV S)},cs.all (argB 6)=true→Reps w' V2 l2.notok ws cs→Reps w' V2 (lc En.fv lu).notok ws cs:=fun hcs hrr =>
  hrr.argB 6 hcs (fun d b e=>by have:l2.up=lu:=hs.cb.up; rw [←this]; exact e) fun v e=>by have:l2.cbv=En.fv:=hs.cb.cb; rw [←this]; exact e
 have hup2:l2.up=lu:=hs.cb.up
 refine ⟨v,rfl,r,st.up,x',V2,hQ,hub,hi.step hs.g,fun b o hv=>hs.cb.fz b o _ ⟨hv,rfl⟩,fun b o hv=>⟨hs.vlt b o hv,fun hm=>hs.vem b o hv (.inl hm),?_⟩,⟨fun d ao hd=>?_,fun d ao b hd hu3 hb=>?_,fun d ao d' ao' b h1 hu3 h2 hu4 h3 h4=>?_⟩,hrep⟩
 ·rcases Nat.lt_or_ge b w.heap.size with hb | hb
  ·by_cases hu':U b
   ·exact .inr (.inl hu')
   exact .inl (Classical.byContradiction fun hn=>hs.vem b o hv (.inr ⟨hb,hu',hn⟩))
  exact .inr (.inr hb)
 ·have h1:=hs.up d ao hd
  have h2:=upB_look hub d
  rw [hd] at h2
  cases ao with
  | cells cs =>
   obtain ⟨b,hb,c,el,h3,h4,h5⟩:=h1
   have h6:cs.all (argB 6)=true:=by
    cases hl:lookA ups d with
    | none=>rw [hl] at h2; exact h2.elim
    | some ao0=>rw [hl] at h2; cases ao0 <;> first | exact h2 | exact h2.elim
   exact ⟨b,by rw [←hup2]; exact hb,c,el,h3,hlc h6 h4,h5⟩
  | frz cs =>
   obtain ⟨b,ws,hb,h3⟩:=h1
   exact ⟨b,ws,by rw [←hup2]; exact hb,h3⟩
  | row u f=>trivial
  | mp kvs =>
   obtain ⟨b,hb,h3⟩:=h1
   exact ⟨b,by rw [←hup2]; exact hb,h3⟩
  | mpz ks us =>
   obtain ⟨b,hb,h3⟩:=h1
   exact ⟨b,by rw [←hup2]; exact hb,h3⟩
 ·have hm:Mut l2 st true d b:=⟨ao,hd,hu3,by rw [hup2]; exact hb⟩
  have h2:=upB_look hub d
  rw [hd] at h2
  cases hl:lookA ups d with
  | none=>rw [hl] at h2; exact absurd h2 (by cases ao <;> exact id)
  | some ao0 =>
   rw [hl] at h2
   have hu0:MutU ao0:=by cases ao0 <;> cases ao <;> first | trivial | exact h2.elim | exact hu3.elim
   exact ⟨(hu.mine d ao0 b hl hu0 hb).1,(hs.mine _ _ _ hm).2⟩
 exact (hs.dis true d true d' b ⟨ao,h1,hu3,by rw [hup2]; exact h3⟩ ⟨ao',h2,hu4,by rw [hup2]; exact h4⟩).2
theorem iter_sound {f:FuncId} {fn:Func} (hf:P.funcs[f]?=some fn) {caps:List (AV S)} {vss:List (List (AV S))} (par:(Y:Type)→(List (AV S)→Y→(AV S→Y→Prop)→Prop)→Par S Y)
  (hp:∀ (Y:Type) (B:List (AV S)→Y→(AV S→Y→Prop)→Prop) (En:Env Y),CbOk P gl En B→ParOk P gl (par Y B) En)
  (h:∀ (Y:Type) (B:List (AV S)→Y→(AV S→Y→Prop)→Prop),(∀ args y K K',(∀ r y,K r y→K' r y)→B args y K→B args y K')→∀ (y:Y) (Q:Y→Prop),eachB B vss y Q→fnU (par Y B) fn (.cb :: caps) [] y fun _ _ y'=>Q y')
  (hrs:∀ Y B,(par Y B).rs=false:=by intros; rfl):ICalls P gl f caps vss:=by
 intro Y En B hB hmono y Q hQ w V g ff fc vs hfv hinv hG hlt hem hr
 have hcb:Reps w V (lc En.fv fun _=>none) (.func g ff fc :: vs) (.cb :: caps):=.flat ⟨hfv,_,_,_,rfl⟩ (hr.of_none _)
 refine body_ok (En:=En.sub y w V (fun _=>False) (fun _=>none) fun _=>none) (U:=fun _=>False) ((hp Y B En hB).ext Env.sub_ext) (fun h=>by rw [hrs] at h; cases h) hf (h Y B hmono y Q hQ) (fun d b e=>by cases e) hG (SubInv.refl hinv) hlt (fun b o hv hm=>hm.elim (hem b o hv) fun hm=>hm.2.2 hv)
  (fun b o v e=>e) ⟨fun d ao h=>by simp [lookA] at h,fun d ao b h=>by simp [lookA] at h,fun d ao d' ao' b h=>by simp [lookA] at h⟩ (fun b hb=>hb.elim) hcb ?_
 intro w' v r st x' V2 l2 ts hs hub hQ' hrep
 have hi:SubInv En y w (fun _=>False) x' w':=hs.inv
 exact ⟨v,rfl,x',hQ',(hi.step hs.g).env⟩
end Go.Ab
namespace Go.Ab
open Go
variable {S:Sig} [Cod S]
variable {X:Type} {gl:Gl} {En:Env X} {x:X} {w w':World} {V V':Nat→Nat→Prop} {l:Loc} {st:St S}
variable {P:Program} {par:Par S X} {n:Nat}
def resL (P:Par S X):List ResultVar→St S→(List (AV S)→Prop)→Prop
 | [],_,K=>K []
 | r :: rs,st,K =>
  let go (v:AV S):Prop:=resL P rs st fun l=>K (v :: l)
  match r with
  | .tmp t=>nthK st.tmps t fun v=>match v with
   | .arr ..=>False
   | v=>go v
  | .cell a t=>tyK P t fun ty=>nthK st.tmps a fun p=>loadK ty p st fun v=>match v with
   | .arr ..=>False
   | v=>go v
def fnL (P:Par S Unit) (fn:Func) (args:List (AV S)) (sg:List (Nat×AO S)) (Q:AV S→List (Nat×AO S)→Prop):Prop :=
 match fn.body with
 | none=>False
 | some c=>padK fn.ntmps args fun ts=>aWp P c (false,boxesOf sg []) (fun e st _=>match e with
   | .exit _=>False
   | _=>match st.up with
    | []=>resL P fn.results.toList st fun l=>tupK l fun r=>∃ m,wkP (boxesOf sg []) m { tmps:=[r],seg:=st.seg,up:=[] } fun st'=>match st'.tmps,st'.up with
     | [r'],[]=>Q r' st'.seg
     | _,_=>False
    | _ :: _=>False) { tmps:=ts,seg:=sg,up:=[] } ()
variable [LawCod S]
theorem resL_elim (htis:TisOk P par.ti) {tmps:Array Value}:∀ (rs:List ResultVar) (K:List (AV S)→Prop),SR gl En x w V l tmps st→resL par rs st K →
  ∃ cs vs,K cs∧Reps w V l vs cs∧vs.length=rs.length∧cs.length=rs.length ∧
   (rs.mapM fun (r:ResultVar)=>match r with
    | .tmp t=>(pure (tmps.getD t undef):Sem Value)
    | .cell a t=>do loadVar t (←asAddr (tmps.getD a undef))).run P w=.ok vs w
 | [],K,hs,h=>⟨[],[],h,.nil _,rfl,rfl,rfl⟩
 | r :: rs,K,hs,h=>by
  have hgo:∀ {v:Value} {c:AV S},Rep w V l v c→(match r with
    | .tmp t=>(pure (tmps.getD t undef):Sem Value)
    | .cell a t=>do loadVar t (←asAddr (tmps.getD a undef))).run P w=.ok v w→(resL par rs st fun l=>K (c :: l)) →
    ∃ cs vs,K cs∧Reps w V l vs cs∧vs.length=(r :: rs).length∧cs.length=(r :: rs).length ∧
     ((r :: rs).mapM fun (r:ResultVar)=>match r with
      | .tmp t=>(pure (tmps.getD t undef):Sem Value)
      | .cell a t=>do loadVar t (←asAddr (tmps.getD a undef))).run P w=.ok vs w:=fun {v c} hv hrun h=>by
   obtain ⟨cs,vs,hK,hr2,hl1,hl2,hrun2⟩:=resL_elim htis rs _ hs h
   refine ⟨c :: cs,v :: vs,hK,Reps.append hv hr2,by simp [hl1],by simp [hl2],?_⟩
   rw [List.mapM_cons]
   simp only [Sem.run_bind,hrun,Result.andThen,hrun2]
   rfl
  cases r with
  | tmp t =>
   simp only [resL,nthK_eq] at h
   refine hgo (hs.tmp t) rfl ?_
   cases hc:st.tmps.getD t .undef <;> rw [hc] at h <;> first | exact h | exact h.elim
  | cell ad t =>
   simp only [resL,nthK_eq] at h
   obtain ⟨ty,h,hty⟩:=tyK_elim htis h
   obtain ⟨v,c,hrun,h,hv⟩:=load_ok (a:={ tmps:=tmps,defers:=[] }) hty hs (hs.tmp ad) h
   refine hgo hv ?_ (by cases c <;> first | exact h | exact h.elim)
   have hp:∀ pv:Value,(Instr.loadAt t pv).run P w=.ok v w→(do loadVar t (←asAddr pv):Sem Value).run P w=.ok v w:=fun pv h=>by
    cases pv with
    | pointer o =>
     cases o with
     | some ad=>exact h
     | none=>simp [Instr.loadAt,Instr.sureAddr,stuck,Sem.run_bind,Sem.run,Result.andThen] at h
    | _=>simp [Instr.loadAt,Instr.sureAddr,stuck,Sem.run_bind,Sem.run,Result.andThen] at h
   exact hp _ hrun
theorem resultsL_run (htis:TisOk P par.ti) {fn:Func} {tmps:Array Value} (hs:SR gl En x w V l tmps st) {Q:AV S→Prop} (h:resL par fn.results.toList st fun l=>tupK l Q) :
  ∃ v r,(results fn tmps).run P w=.ok v w∧Q r∧Rep w V l v r:=by
 obtain ⟨cs,vs,hK,hr,hl1,hl2,hrun⟩:=resL_elim htis _ _ hs h
 have hm:(fn.results.mapM fun (r:ResultVar)=>match r with
       | .tmp t=>(pure (tmps.getD t undef):Sem Value)
       | .cell a t=>do loadVar t (←asAddr (tmps.getD a undef))).run P w=.ok vs.toArray w:=by
  rw [Array.mapM_eq_mapM_toList]
  show (List.toArray <$> _:Sem (Array Value)).run P w=_
  rw [map_eq_pure_bind,Sem.run_bind,hrun]
  rfl
 have hres:(results fn tmps).run P w=.ok (if h:vs.toArray.size=1 then vs.toArray[0] else .tuple vs.toArray) w:=by
  unfold results
  rw [Sem.run_bind]
  refine (congrArg (fun r=>Result.andThen r _) hm).trans ?_
  rfl
 by_cases h1:∃ v,cs=[v]
 ·obtain ⟨c,rfl⟩:=h1
  obtain ⟨v,rfl⟩:∃ v,vs=[v]:=by
   match vs,hl1.trans hl2.symm with
   | [v],_=>exact ⟨v,rfl⟩
  exact ⟨_,c,hres,hK,by simpa using hr⟩
 have hK':Q (.tup cs):=by
  unfold tupK at hK
  split at hK
  ·exact absurd ⟨_,rfl⟩ h1
  ·exact hK
 have hne:¬ vs.toArray.size=1:=fun e=>h1 (by
  have:cs.length=1:=by rw [hl2,←hl1]; simpa using e
  match cs,this with
  | [c],_=>exact ⟨c,rfl⟩)
 rw [dif_neg hne] at hres
 refine ⟨_,.tup cs,hres,hK',?_⟩
 exact Reps.tup (by simpa using hr) (.nil _)
theorem leavesL_ok {fn:Func} {R:Ending→World→Prop} {Q:AV S→Prop} (htis:TisOk P par.ti) {st:St S} {V':Nat→Nat→Prop} {l:Loc} {tmps:Array Value} {x:X} (h:resL par fn.results.toList st fun l=>tupK l Q)
  (hR:∀ (w':World) (v:Value) (r:AV S),SR gl (En.marks []) x w' V' l tmps st→Q r→Rep w' V' l v r→R (.returned v) w') :
  ∀ (Ds:List Nat) (w':World),SR gl (En.marks Ds) x w' V' l tmps st→LeavesInM (Fo none) n P fn tmps R (Ds.map markOf) .returning w':=by
 intro Ds
 induction Ds with
 | nil =>
  intro w' hs
  obtain ⟨v,r,hrun,hQ,hrep⟩:=resultsL_run htis hs h
  exact ⟨v,hrun,hR w' v r hs hQ hrep⟩
 | cons D Ds ih =>
  intro w' hs
  obtain ⟨h1,h2⟩:=hs.unmark (P:=P)
  exact ⟨by simp,.inl ⟨D,_,rfl,h2,ih _ h1⟩⟩
omit [LawCod S] in
theorem SR.tmpsTo {ts:Array Value} (h:SR gl En x w V l ts st) {v:Value} {r:AV S} (hr:Rep w V l v r) (hup:st.up=[]):SR gl En x w V l #[v] { tmps:=[r],seg:=st.seg,up:=[] }:=by
 obtain ⟨tm,sg,up⟩:=st
 cases hup
 refine ⟨h.le,h.cb,h.inv,h.g,h.vlt,h.vem,rfl,fun i c hi=>?_,h.seg,h.up,h.rego,h.regt,h.mine,h.dis⟩
 cases i with
 | zero=>simp at hi; subst hi; simpa using hr
 | succ i=>simp at hi
omit [LawCod S] in
theorem SR.pad {vs:List Value} {args:List (AV S)} {sg:List (Nat×AO S)} (h:SR gl En x w V l vs.toArray { tmps:=args,seg:=sg,up:=[] }) (n:Nat) :
  SR gl En x w V l (vs.toArray++Array.replicate (n - vs.toArray.size) undef) { tmps:=args++List.replicate (n - args.length) .undef,seg:=sg,up:=[] }:=by
 have hlen:vs.length=args.length:=by simpa using h.sz
 refine ⟨h.le,h.cb,h.inv,h.g,h.vlt,h.vem,by simp [hlen],fun i c hi=>?_,h.seg,h.up,h.rego,h.regt,h.mine,h.dis⟩
 simp only at hi
 rcases Nat.lt_or_ge i args.length with hi' | hi'
 ·rw [List.getElem?_append_left hi'] at hi
  have h2:=h.tmps i c hi
  have:(vs.toArray++Array.replicate (n - vs.toArray.size) undef).getD i Go.undef=vs.toArray.getD i Go.undef:=by
   simp only [Array.getD_eq_getD_getElem?]
   rw [Array.getElem?_append_left (by simp; omega)]
  rw [this]; exact h2
 rw [List.getElem?_append_right hi'] at hi
 have:=List.mem_of_getElem? hi
 rw [List.mem_replicate] at this
 rw [this.2]
 exact Rep.flat1 trivial
theorem fnL_sound {par:Par S Unit} (hp:∀ En:Env Unit,ParOk P gl par En) {f:FuncId} {fn:Func} (hf:P.funcs[f]?=some fn) {args:List (AV S)} {sg:List (Nat×AO S)} {Q:AV S→List (Nat×AO S)→Prop}
  (h:fnL par fn args sg Q) (hrs:par.rs=false:=by rfl):LCalls P gl f args sg Q:=by
 intro w V l vs hs
 have he:=hs.enter (owns:=l.own) fun _ _ h=>h
 unfold fnL at h
 cases hb:fn.body with
 | none=>rw [hb] at h; exact h.elim
 | some c =>
  rw [hb] at h
  simp only [padK_eq] at h
  have hpin:∀ d b,l.own d=some b→memb (boxesOf sg []) d=true:=fun d b hb=>by
   obtain ⟨ao,h1,h2⟩:=hs.rego d b hb
   exact memb_iff.2 (boxesOf_mem h1 fun u f e=>by subst e; exact h2)
  refine callsIn_wide (n:=0).1 (callsIn_of_wp_marks (F:=Fo none) hf hb trivial ?_ rfl)
  refine wpIn_mono (aWp_sound c _ (hp _) none 0 (false,boxesOf sg []) (fun d b e=>hpin d b e) ⟨(fun _=>rfl),(fun h=>by cases h)⟩ (fun h _=>by rw [hrs] at h; cases h) [] _ _ () _ w V l [] h (SR.marks_nil (he.pad fn.ntmps)) rfl (fun h=>by cases h)) fun e a' w' hq=>?_
  have hend:∀ {st:St S} {V':Nat→Nat→Prop} {l':Loc} {Ds:List Nat},(match st.up with
    | []=>resL par fn.results.toList st fun l=>tupK l fun r=>∃ m,wkP (boxesOf sg []) m { tmps:=[r],seg:=st.seg,up:=[] } fun st'=>match st'.tmps,st'.up with
     | [r'],[]=>Q r' st'.seg
     | _,_=>False
    | _ :: _=>False)→SR gl (((Env.lent w).sub () w V (MutB l ({ tmps:=args,seg:=sg,up:=[] }:St S)) l.up l.own).marks Ds) () w' V' l' a'.tmps st →
    LeavesInM (Fo none) 0 P fn a'.tmps (fun e w'=>∃ v,e=.returned v∧∃ r sg' V' l',Q r sg'∧SR gl (Env.lent w) () w' V' l' #[v] { tmps:=[r],seg:=sg',up:=[] } ∧
     Lent w V (MutB l ({ tmps:=args,seg:=sg,up:=[] }:St S)) w' V'∧(∀ e b,l.own e=some b→l'.own e=some b) ∧
     ∀ b,MutB l' ({ tmps:=[r],seg:=sg',up:=[] }:St S) b→MutB l ({ tmps:=args,seg:=sg,up:=[] }:St S) b∨w.heap.size≤b) (Ds.map markOf) .returning w':=by
   intro st V' l' Ds h1 h2
   cases hup:st.up with
   | cons u us=>rw [hup] at h1; exact h1.elim
   | nil =>
    rw [hup] at h1
    refine leavesL_ok (hp (Env.lent w)).ti h1 (fun w2 v r hs2 ⟨m,hk⟩ hrep=>?_) Ds w' h2
    obtain ⟨st3,V3,l3,hk,hs3⟩:=wkP_elim ((SR.of_marks_nil hs2).tmpsTo hrep hup) (fun d b e=>hpin d b e) hk
    obtain ⟨tm,sg3,up3⟩:=st3
    match tm,up3,hk with
    | [r'],[],hk =>
     obtain ⟨hs4,hlk⟩:=SR.leave hs (fun d b e=>by cases e) hs3
     obtain ⟨ho,htp,hou⟩:=hlk.step.inv
     exact ⟨v,rfl,r',sg3,V3,l3,hk,hs4,⟨ho,htp,hou,hlk.step.size,fun b hb hu=>hlk.step.block b hb id hu,hlk.v,fun b o hv=>(hlk.v' b o hv).2.2⟩,hlk.own,fun b hm=>(hlk.mt b hm).2.2⟩
  cases e with
  | normal=>obtain ⟨st',x',V',l',Ds,h1,h2,h3,_⟩:=hq; simp only [bodyPostM]; rw [h3]; exact hend h1 h2
  | ret=>obtain ⟨st',x',V',l',Ds,h1,h2,h3,_⟩:=hq; simp only [bodyPostM]; rw [h3]; exact hend h1 h2
  | exit id=>obtain ⟨st',x',V',l',Ds,h1,h2,h3⟩:=hq; exact h1.elim
  | _=>exact hq.elim
end Go.Ab
namespace Go.Ab
open Go Go.ChangeShapes Go.WideShapes Go.RowKit Go.Deep
variable {S:Sig} [Cod S] [LawCod S]
variable {H:Type} {enc:TypeId×Value→H} {P:Program} {w:World}
abbrev allV (w:World):Nat→Nat→Prop:=fun b _=>b < w.heap.size
def OpA (S:Sig) [Cod S] {H:Type} (enc:TypeId×Value→H) (P:Program) (w:World) (t:TypeId) (R:List (AV S)→Prop):Prop :=
 ∀ (fuel:Nat) (cs:List Value) (x:DataW H×List MemPlace),DataW.trod enc P w 0 (fun _=>true) true fuel t cs=some x→∃ as,R as∧Reps w (allV w) Loc.none cs as
omit [LawCod S] in
theorem OpA.mono {t:TypeId} {R R':List (AV S)→Prop} (h:OpA S enc P w t R) (hr:∀ as,R as→R' as):OpA S enc P w t R':=fun fuel cs x hx=>by
 obtain ⟨as,h1,h2⟩:=h fuel cs x hx
 exact ⟨as,hr _ h1,h2⟩
omit [LawCod S] in
theorem OpA.int {t:TypeId} {k:IntKind} (ht:P.underlying t=some (.int k)):OpA S enc P w t fun as=>∃ n,as=[.int k n]∧k.min≤n∧n≤k.max:=fun fuel cs x hx=>by
 obtain ⟨n,rfl,_,hw⟩:=DataW.trod_int ht hx
 simp only [Lit.wf,Bool.and_eq_true,decide_eq_true_eq] at hw
 exact ⟨_,⟨n,rfl,hw.1,hw.2⟩,.flat rfl (.nil _)⟩
omit [LawCod S] in
theorem OpA.bool {t:TypeId} (ht:P.underlying t=some .bool):OpA S enc P w t fun as=>∃ b,as=[.bool b]:=fun fuel cs x hx=>by
 obtain ⟨b,rfl,_⟩:=DataW.trod_bool ht hx
 exact ⟨_,⟨b,rfl⟩,.flat rfl (.nil _)⟩
omit [LawCod S] in
theorem OpA.str {t:TypeId} (ht:P.underlying t=some .string):OpA S enc P w t fun as=>∃ s:ByteArray,as=[.str s]∧s.size≤9223372036854775807:=fun fuel cs x hx=>by
 obtain ⟨s,rfl,_,hs⟩:=DataW.trod_string ht hx
 exact ⟨_,⟨s,rfl,hs⟩,.flat rfl (.nil _)⟩
omit [Cod S] [LawCod S] in
theorem cell_spot {w:World} {a:Addr} {v:Value} (h:w.cell? a=some v):a.spot=none:=by
 unfold World.cell? at h
 split at h
 ·split at h
  ·cases h
  rename_i hs
  cases hsp:a.spot with
  | none=>rfl
  | some s=>rw [hsp] at hs; exact absurd rfl hs
 cases h
omit [LawCod S] in
theorem row_open {u:S.U} {Φ:S.T u→Prop} {b off sz:Nat} (hsz:sz=Cod.size u):∀ (n:Nat),(∀ i,i < n→∃ cs,cs.length=sz∧(∀ j v,cs[j]?=some v→w.cell? ⟨b,off+(i * sz+j),none⟩=some v)∧∃ y:S.T u,Φ y∧Reps w (allV w) Loc.none cs (Cod.enc u y)) →
  ∃ (ws:List Value) (ys:List (S.T u)),ws.length=n * sz∧ys.length=n∧(∀ k v,ws[k]?=some v→w.cell? ⟨b,off+k,none⟩=some v)∧Reps w (allV w) Loc.none ws (ys.flatMap (Cod.enc u))∧∀ y∈ys,Φ y
 | 0,_=>⟨[],[],by simp,rfl,fun k v h=>by simp at h,.nil _,fun y h=>by cases h⟩
 | n+1,h=>by
  obtain ⟨ws,ys,h1,h2,h3,h4,h5⟩:=row_open hsz n fun i hi=>h i (by omega)
  obtain ⟨cs,g1,g2,y,g3,g4⟩:=h n (by omega)
  refine ⟨ws++cs,ys++[y],by rw [List.length_append,h1,g1,Nat.succ_mul],by rw [List.length_append,h2]; rfl,fun k v hk=>?_,?_,fun z hz=>?_⟩
  ·rcases Nat.lt_or_ge k ws.length with hk' | hk'
   ·rw [List.getElem?_append_left hk'] at hk; exact h3 k v hk
   rw [List.getElem?_append_right hk'] at hk
   have:=g2 _ _ hk
   rwa [show n * sz+(k - ws.length)=k by omega] at this
  ·rw [List.flatMap_append,List.flatMap_singleton]; exact h4.append g4
  rcases List.mem_append.1 hz with hz | hz
  ·exact h5 z hz
  simp only [List.mem_singleton] at hz; subst hz; exact g3
theorem OpA.slice {t e:TypeId} {u:S.U} {Φ:S.T u→Prop} (ht:P.underlying t=some (.slice e)) (hc:P.cellsOf e=Cod.size u) (he:OpA S enc P w e fun as=>∃ y:S.T u,as=Cod.enc u y∧Φ y) :
  OpA S enc P w t fun as=>∃ ys:List (S.T u),as=[.sl u ys none]∧ys.length≤9223372036854775807∧∀ y∈ys,Φ y:=fun fuel cs x hx=>by
 have hpos:=LawCod.pos u
 rcases open_slice ht hx with ⟨rfl,_⟩ | ⟨a,len,cap,m,n,D,Pl,rfl,_,hl,hm,hmm,_,hall⟩
 ·exact ⟨_,⟨[],rfl,by simp,fun y h=>by cases h⟩,.flat ⟨rfl,none,0,rfl⟩ (.nil _)⟩
 simp only [if_true] at hmm
 subst hmm
 have hlm:len≤9223372036854775807:=Nat.le_trans hl hm
 cases hlen:len with
 | zero=>exact ⟨_,⟨[],rfl,by simp,fun y h=>by cases h⟩,.flat ⟨rfl,some a,m,rfl⟩ (.nil _)⟩
 | succ len' =>
  rw [←hlen]
  obtain ⟨cs0,h0,_⟩:=hall 0 (by omega)
  obtain ⟨_,hl0,hc0⟩:=World.cells?_some h0
  have ha:a.spot=none:=by
   have h1:=hc0 0 (by omega)
   have h2:(a.add (0 * P.cellsOf e)).add 0=a:=by simp [Addr.add]
   rw [h2,List.getElem?_eq_getElem (by omega)] at h1
   exact cell_spot h1
  obtain ⟨b,o,sp⟩:=a
  subst ha
  obtain ⟨ws,ys,h1,h2,h3,h4,h5⟩:=row_open (w:=w) (b:=b) (off:=o) (Φ:=Φ) (u:=u) hc len fun i hi=>by
   obtain ⟨cs',hcs,htr⟩:=hall i (by omega)
   obtain ⟨_,hl1,hc1⟩:=World.cells?_some hcs
   obtain ⟨as,⟨y,rfl,hy⟩,hr⟩:=he _ _ _ htr
   refine ⟨cs',hl1,fun j v hj=>?_,y,hy,hr⟩
   have hjl:=(List.getElem?_eq_some_iff.1 hj).1
   have:=hc1 j (by omega)
   rw [hj] at this
   rw [Addr.add_at,Addr.add_at] at this
   rwa [Nat.add_assoc] at this
  subst h2
  exact ⟨_,⟨ys,rfl,hlm,h5⟩,.sl (fun k v hk=>⟨lt_of_cell (h3 k v hk),h3 k v hk⟩) h4 (by omega) (.nil _)⟩
omit [LawCod S] in
theorem OpA.array {t e:TypeId} {n:Nat} {u:S.U} {Φ:S.T u→Prop} (ht:P.underlying t=some (.array n e)) (hct:P.cellsOf t=n * P.cellsOf e) (he:OpA S enc P w e fun as=>∃ y:S.T u,as=Cod.enc u y∧Φ y) :
  OpA S enc P w t fun as=>∃ ys:List (S.T u),as=[.arr u n ys]∧ys.length=n∧∀ y∈ys,Φ y:=fun fuel cs x hx=>by
 obtain ⟨xs,m,_,_,hl,hxl,hall⟩:=DataW.trod_array ht hx
 have hgo:∀ k,k≤n→∃ ys:List (S.T u),ys.length=k∧Reps w (allV w) Loc.none (cs.take (k * P.cellsOf e)) (ys.flatMap (Cod.enc u))∧∀ y∈ys,Φ y:=fun k=>by
  induction k with
  | zero=>exact fun _=>⟨[],rfl,by rw [Nat.zero_mul,List.take_zero]; exact .nil _,fun y h=>by cases h⟩
  | succ k ih =>
   intro hk
   obtain ⟨ys,h1,h2,h3⟩:=ih (by omega)
   have h4:=hall k (by omega)
   rw [List.getElem?_eq_getElem (by omega)] at h4
   obtain ⟨as,⟨y,rfl,hy⟩,hr⟩:=he _ _ _ h4
   refine ⟨ys++[y],by rw [List.length_append,h1]; rfl,?_,fun z hz=>?_⟩
   ·rw [Nat.succ_mul,List.take_add,List.flatMap_append,List.flatMap_singleton]
    exact h2.append hr
   rcases List.mem_append.1 hz with hz | hz
   ·exact h3 z hz
   simp only [List.mem_singleton] at hz; subst hz; exact hy
 obtain ⟨ys,h1,h2,h3⟩:=hgo n (Nat.le_refl _)
 rw [List.take_of_length_le (by rw [hl,hct]; exact Nat.le_refl _)] at h2
 refine ⟨_,⟨ys,rfl,h1,h3⟩,?_⟩
 have:=Reps.arr h1 h2 (.nil Loc.none)
 rwa [List.append_nil] at this
def FieldsR:List (List (AV S)→Prop)→List (AV S)→Prop
 | [],as=>as=[]
 | R :: Rs,as=>∃ a b,as=a++b∧R a∧FieldsR Rs b
def FldOk (S:Sig) [Cod S] {H:Type} (enc:TypeId×Value→H) (P:Program) (w:World) (total:Nat):Nat→List Field→List (List (AV S)→Prop)→Prop
 | off,[],Rs=>off=total∧Rs=[]
 | off,f :: fs,Rs=>f.offset=off∧∃ R Rs',Rs=R :: Rs'∧OpA S enc P w f.type R∧FldOk S enc P w total (off+P.cellsOf f.type) fs Rs'
omit [LawCod S] in
theorem fields_open {n:Nat} {cs:List Value}:∀ (fs:List Field) (off:Nat) (Rs:List (List (AV S)→Prop)) (xs:List (DataW H×List MemPlace)),FldOk S enc P w cs.length off fs Rs→xs.length=fs.length →
  (∀ (i:Nat) (f:Field),fs[i]?=some f→DataW.trod enc P w 0 (fun _=>true) true n f.type ((cs.drop f.offset).take (P.cellsOf f.type))=xs[i]?)→∃ as,FieldsR Rs as∧Reps w (allV w) Loc.none (cs.drop off) as
 | [],off,Rs,xs,⟨h,hR⟩,_,_=>by subst hR; exact ⟨[],rfl,by rw [h,List.drop_length]; exact .nil _⟩
 | f :: fs,off,Rs,xs,⟨ho,R,Rs',hR,hop,hrest⟩,hl,hall=>by
  subst hR
  have h0:=hall 0 f rfl
  cases xs with
  | nil=>simp at hl
  | cons x xs =>
   obtain ⟨a,ha,hra⟩:=hop _ _ _ h0
   obtain ⟨b,hb,hrb⟩:=fields_open fs _ Rs' xs hrest (by simpa using hl) fun i g hg=>by simpa using hall (i+1) g (by simpa using hg)
   refine ⟨a++b,⟨a,b,rfl,ha,hb⟩,?_⟩
   have:=hra.append hrb
   rw [ho] at this
   rwa [←List.drop_drop,List.take_append_drop] at this
omit [LawCod S] in
theorem OpA.struct {t:TypeId} {fs:Array Field} {Rs:List (List (AV S)→Prop)} (ht:P.underlying t=some (.struct fs)) (hok:FldOk S enc P w (P.cellsOf t) 0 fs.toList Rs):OpA S enc P w t (FieldsR Rs):=fun fuel cs x hx=>by
 obtain ⟨xs,n,_,_,hl,hxl,hall⟩:=DataW.trod_struct ht hx
 rw [←hl] at hok
 obtain ⟨as,h1,h2⟩:=fields_open (n:=n) fs.toList 0 Rs xs hok (by simpa using hxl) fun i f hf=>hall i f (by simpa using hf)
 exact ⟨as,h1,by simpa using h2⟩
omit [LawCod S] in
theorem OpA.aggS {t:TypeId} {fs:Array Field} {R:List (AV S)→Prop} {r:Reach} {b0:Nat} {v:Value} {d:DataW H} {ps:List MemPlace} (h:OpA S enc P w t R) (ht:P.underlying t=some (.struct fs)) (hval:Value.okWide P w r b0 t v)
  (hd:DataW.Trod enc P w 0 (fun _=>true) true t v d ps):∃ as,R as∧Rep w (allV w) Loc.none v (.agg as):=by
 obtain ⟨cs,rfl,_⟩:=okWide_struct ht hval
 obtain ⟨fuel,hf⟩:=hd
 obtain ⟨as,h1,h2⟩:=h _ _ _ hf
 exact ⟨as,h1,Reps.agg h2 (.nil _)⟩
omit [LawCod S] in
theorem OpA.aggA {t:TypeId} {n:Nat} {e:TypeId} {R:List (AV S)→Prop} {r:Reach} {b0:Nat} {v:Value} {d:DataW H} {ps:List MemPlace} (h:OpA S enc P w t R) (ht:P.underlying t=some (.array n e)) (hval:Value.okWide P w r b0 t v)
  (hd:DataW.Trod enc P w 0 (fun _=>true) true t v d ps):∃ as,R as∧Rep w (allV w) Loc.none v (.agg as):=by
 have:∃ cs,v=.agg cs:=by
  simp only [Value.okWide,ht] at hval
  obtain ⟨cs,h,_⟩:=hval
  exact ⟨cs,h⟩
 obtain ⟨cs,rfl⟩:=this
 obtain ⟨fuel,hf⟩:=hd
 obtain ⟨as,h1,h2⟩:=h _ _ _ hf
 exact ⟨as,h1,Reps.agg h2 (.nil _)⟩
omit [LawCod S] in
theorem OpA.one {t:TypeId} {R:List (AV S)→Prop} {v:Value} {d:DataW H} {ps:List MemPlace} (h:OpA S enc P w t R) (hv:v.cells.toList=[v])
  (hd:DataW.Trod enc P w 0 (fun _=>true) true t v d ps):∃ as,R as∧Reps w (allV w) Loc.none [v] as:=by
 obtain ⟨fuel,hf⟩:=hd
 rw [hv] at hf
 exact h _ _ _ hf
omit [Cod S] [LawCod S] in
theorem cells_int {t:TypeId} {k:IntKind} {r:Reach} {b0:Nat} {v:Value} (ht:P.underlying t=some (.int k)) (hval:Value.okWide P w r b0 t v):v.cells.toList=[v]:=by
 obtain ⟨n,rfl⟩:=okWide_int ht hval; rfl
theorem grow_same {w w':World} (h:Grow w w') {p:MemPlace} (hp:p.block < w.heap.size):w.sameAt w' p:=by
 cases p with
 | cell b off=>exact eye_cell (cell_congr (h.block b hp) off)
 | map b=>exact h.block b hp
theorem args_again {T:TypeId→Prop} (K:Kids P T) (hz:∀ t e,T t→P.underlying t=some (.slice e)→0 < P.cellsOf e) {w w':World} (hg:Grow w w') {ts:List TypeId} {vs:List Value} {ds:List (DataW H)} {ps:List MemPlace}
  (hT:∀ t∈ts,T t) (h:DataW.TrodAll enc P w 0 (fun _=>true) true ts vs ds ps) (hlt:∀ p∈ps,p.block < w.heap.size) {sp:Nat→Bool} (hs:∀ p∈ps,sp p.block=true):DataW.TrodAll enc P w' 0 sp true ts vs ds ps:=by
 have h1:=DataW.TrodAll.respare (spare':=sp) K hz hT h hs
 clear h hs
 induction ts generalizing vs ds ps with
 | nil =>
  cases vs <;> cases ds <;> first | exact h1 | exact h1.elim
 | cons t ts ih =>
  cases vs with
  | nil=>exact h1.elim
  | cons v vs =>
   cases ds with
   | nil=>exact h1.elim
   | cons d ds =>
    obtain ⟨p,q,⟨n,hn⟩,h2,rfl⟩:=h1
    exact ⟨p,q,⟨n,DataW.trod_carry n _ _ _ hn fun x hx=>grow_same hg (hlt x (List.mem_append_left _ hx))⟩,ih (fun t ht=>hT t (List.mem_cons_of_mem _ ht)) (fun x hx=>hlt x (List.mem_append_right _ hx)) h2,rfl⟩
end Go.Ab
