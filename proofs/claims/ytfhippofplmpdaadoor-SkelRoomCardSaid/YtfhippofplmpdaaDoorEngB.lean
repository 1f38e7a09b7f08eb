/-
  THE ENGINE, PART W: regions; marks.
-/
import Derived.Laws.Tables
import Derived.RangeFuncRecord
import Derived.RangeFuncLeaves
import Derived.Test.YtfhippofplmpdaaDoorEngA
namespace Go.Ab
open Go
variable {S:Sig} [Cod S]
variable {X:Type} {gl:Gl} {En:Env X} {x:X} {w w':World} {V V':Nat→Nat→Prop} {l l0:Loc} {ts:Array Value} {st:St S}
theorem pure_reps {vs:List Value} {cs:List (AV S)} (h:Reps w V l vs cs):∀ n,cs.all (pureB n)=true→Reps w V Loc.none vs cs:=by
 induction h with
 | nil l=>exact fun _ _=>.nil _
 | @flat l v c vs cs h _ ih =>
  intro n hp
  simp only [List.all_cons,Bool.and_eq_true] at hp
  refine .flat ?_ (ih n hp.2)
  have h1:=hp.1
  cases n with
  | zero=>cases h1
  | succ n =>
   cases c <;> first | exact h | (cases h1; done) | skip
   case sl u xs o =>
    cases o with
    | none=>exact h
    | some d=>cases h1
 | ref h r _ _ ih=>exact fun n hp=>.ref h r (ih n (by simp only [List.all_cons,Bool.and_eq_true] at hp; exact hp.2))
 | sl h r hcp _ _ ih=>exact fun n hp=>.sl h r hcp (ih n (by simp only [List.all_cons,Bool.and_eq_true] at hp; exact hp.2))
 | tok ht h r hcp _ _ ih =>
  intro n hp
  simp only [List.all_cons,Bool.and_eq_true] at hp
  have h1:=hp.1
  cases n <;> cases h1
 | clo _ _ _ ih1 ih2 ih3 =>
  intro n hp
  simp only [List.all_cons,Bool.and_eq_true] at hp
  have h1:=hp.1
  cases n with
  | zero=>cases h1
  | succ n =>
   simp only [pureB,Bool.and_eq_true] at h1
   exact .clo (l:=Loc.none) (ih1 n h1.1) (ih2 n h1.2) (ih3 _ hp.2)
 | agg _ _ ih1 ih2 =>
  intro n hp
  simp only [List.all_cons,Bool.and_eq_true] at hp
  have h1:=hp.1
  cases n with
  | zero=>cases h1
  | succ n=>exact .agg (ih1 n h1) (ih2 _ hp.2)
 | tup _ _ ih1 ih2 =>
  intro n hp
  simp only [List.all_cons,Bool.and_eq_true] at hp
  have h1:=hp.1
  cases n with
  | zero=>cases h1
  | succ n=>exact .tup (ih1 n h1) (ih2 _ hp.2)
 | arr hx r _ _ ih=>exact fun n hp=>.arr hx r (ih n (by simp only [List.all_cons,Bool.and_eq_true] at hp; exact hp.2))
 | mpf hv hm hb r r' _ _ _ ih=>exact fun n hp=>.mpf hv hm hb r r' (ih n (by simp only [List.all_cons,Bool.and_eq_true] at hp; exact hp.2))
theorem SRx.writeUp (h:SRx gl En x w V l l0 ts st) {d b:Nat} {cs cs':List (AV S)} (hd:lookA st.up d=some (.cells cs)) (ho:l.up d=some b) {c:Array Value} {el:TypeId}
  (hr:Reps w V l0.notok c.toList cs'):SRx gl En x (putRow w b c el) V l l0 ts { st with up:=putA st.up d (.cells cs') }:=by
 have hm:Mut l st true d b:=⟨_,hd,trivial,ho⟩
 obtain ⟨b',hb',c0,el0,h1,h2,h3⟩:=h.up _ _ hd
 rw [ho] at hb'; cases hb'
 have hb:=lt_of_heap h1
 have hVb:∀ b' o,V b' o→b'≠b:=fun b' o hv e=>h3 o (e ▸ hv)
 have hc:∀ b' o,V b' o→eye (putRow w b c el) b' o=eye w b' o:=fun b' o hv=>cell_congr (by rw [putRow_heap,if_neg]; exact fun e=>hVb b' o hv e.1) o
 have htk:∀ {l1:Loc},(∀ d t,l1.tok d=some t→l.tok d=some t)→∀ d' b' n cap,l1.tok d'=some (.at b' n cap)→b'≠b:=fun hl1 d' b' n cap ht e=>by
  obtain ⟨u,f,hreg⟩:=h.regt _ _ (hl1 _ _ ht)
  have:=(h.dis false d' true d b ⟨_,hreg,n,cap,e ▸ hl1 _ _ ht⟩ hm).1
  cases this
 have hrep:∀ {l1:Loc} {vs:List Value} {es:List (AV S)},(∀ d t,l1.tok d=some t→l.tok d=some t)→Reps w V l1 vs es→Reps (putRow w b c el) V l1 vs es:=fun hl1 hr =>
  hr.mono (fun _ _ h=>h) hc _ (Loc.le_refl _) fun d' b' n cap ht o _=>cell_congr (by rw [putRow_heap,if_neg]; exact fun e=>htk hl1 d' b' n cap ht e.1) o
 have hblk:∀ b',b'≠b→(putRow w b c el).heap[b']?=w.heap[b']?:=fun b' hne=>by rw [putRow_heap,if_neg]; exact fun e=>hne e.1
 have hat:∀ {b' o:Nat} {ws:List Value},CellsAt w V b' o ws→CellsAt (putRow w b c el) V b' o ws:=fun h=>h.mono (fun _ _ h=>h) hc
 have hnn:∀ d t,Loc.none.tok d=some t→l.tok d=some t:=fun d t e=>by simp [Loc.none] at e
 have hnk:∀ d t,l0.notok.tok d=some t→l.tok d=some t:=fun d t e=>by simp [Loc.notok] at e
 have hk:=Keep.putRow (h.mine _ _ _ hm).1 c el (w:=w)
 have hMM:∀ {k d' b'},Mut l { st with up:=putA st.up d (.cells cs') } k d' b'→Mut l st k d' b':=by
  intro k d' b' hm'
  cases k with
  | false=>exact hm'
  | true =>
   obtain ⟨es,h4,h5⟩:=hm'
   simp only [lookA_putA] at h4
   by_cases hdd:d=d'
   ·subst hdd; exact ⟨_,hd,trivial,h5.2⟩
   rw [if_neg hdd] at h4; exact ⟨_,h4,h5⟩
 refine ⟨h.le,h.cb.world (fun _ _ h=>h) hc,En.stable _ _ _ h.inv hk,gl.st _ _ h.g hk.size fun b' hb' o=>cell_congr (hblk b' fun e=>by have:=(h.mine _ _ _ hm).2; omega) o,
  fun b' o hv=>by rw [putRow_size]; exact h.vlt b' o hv,h.vem,h.sz,fun i c' hi=>hrep h.le.tok (h.tmps i c' hi),fun d' ao' hd'=>?_,fun d' ao' hd'=>?_,h.rego,h.regt,
  fun k d' b' hm'=>h.mine k d' b' (hMM hm'),fun k d1 k' d2 b' h4 h5=>h.dis k d1 k' d2 b' (hMM h4) (hMM h5)⟩
 ·have:=h.seg d' ao' hd'
  cases ao' with
  | cells es =>
   obtain ⟨b',hb',c',el',h4,h5,h6⟩:=this
   have hne:b'≠b:=fun e=>by have:=(h.dis true d false d' b hm ⟨_,hd',e ▸ hb'⟩).1; cases this
   exact ⟨b',hb',c',el',by rw [hblk _ hne]; exact h4,hrep h.le.tok h5,h6⟩
  | frz es =>
   obtain ⟨b',ws,hb',h4,h5⟩:=this
   exact ⟨b',ws,hb',hat h4,hrep hnn h5⟩
  | row u f =>
   obtain ⟨t,ht,h4⟩:=this
   refine ⟨t,ht,?_⟩
   cases t with
   | no=>trivial
   | «at» b' n cap =>
    obtain ⟨c',el',h5,h6⟩:=h4
    exact ⟨c',el',by rw [hblk _ (htk (fun _ _ h=>h) _ _ _ _ ht)]; exact h5,h6⟩
  | mp kvs =>
   obtain ⟨b',hb',hmp⟩:=this
   have hne:b'≠b:=fun e=>by have:=(h.dis true d false d' b hm ⟨_,hd',e ▸ hb'⟩).1; cases this
   exact ⟨b',hb',hmp.mono (hblk _ hne) (hrep hnn) fun o=>by obtain ⟨es,ck,_,_,h3⟩:=hmp; exact h3 o⟩
  | mpz ks us=>obtain ⟨b2,hb2,hmz⟩:=this; exact ⟨b2,hb2,(hrep hnn) hmz⟩
 simp only [lookA_putA] at hd'
 by_cases hdd:d=d'
 ·subst hdd; rw [if_pos rfl] at hd'; cases hd'
  exact ⟨b,ho,c,el,by rw [putRow_heap,if_pos ⟨rfl,hb⟩],hrep hnk hr,h3⟩
 rw [if_neg hdd] at hd'
 have:=h.up d' ao' hd'
 cases ao' with
 | cells es =>
  obtain ⟨b',hb',c',el',h4,h5,h6⟩:=this
  have hne:b'≠b:=fun e=>hdd (h.dis true d true d' b hm ⟨_,hd',trivial,e ▸ hb'⟩).2
  exact ⟨b',hb',c',el',by rw [hblk _ hne]; exact h4,hrep hnk h5,h6⟩
 | frz es =>
  obtain ⟨b',ws,hb',h4,h5⟩:=this
  exact ⟨b',ws,hb',hat h4,hrep hnn h5⟩
 | row u f=>trivial
 | mp kvs =>
  obtain ⟨b',hb',hmp⟩:=this
  have hne:b'≠b:=fun e=>hdd (h.dis true d true d' b hm ⟨_,hd',trivial,e ▸ hb'⟩).2
  exact ⟨b',hb',hmp.mono (hblk _ hne) (hrep hnn) fun o=>by obtain ⟨es,ck,_,_,h3⟩:=hmp; exact h3 o⟩
 | mpz ks us=>obtain ⟨b2,hb2,hmz⟩:=this; exact ⟨b2,hb2,(hrep hnn) hmz⟩
theorem run_storeAt {P:Program} {t:Nat} {i:TypeInfo} (hi:P.info? t=some i) {b o:Nat} {v:Value} {c:Array Value} {el:TypeId} (hc:w.heap[b]?=some (.cells c el (0,0))) (hs:v.cells.size=i.size)
  (hb:o+v.cells.size≤c.size) (hp:∀ u∈v.cells.toList,Plain u):(Instr.storeAt t (.pointer (some ⟨b,o,none⟩)) v).run P w=.ok () (putRow w b (lay c o v.cells.toList) el):=by
 have h:=run_storeCells (P:=P) (b:=b) (o:=o) (el:=el) v.cells.toList 0 w c hc (by simpa using hb) hp
 simp only [Nat.add_zero] at h
 simp [Instr.storeAt,Instr.sureAddr,storeVar,Sem.run_bind,Result.andThen,pure,run_sizeOf hi,hs,h]
theorem store_ok [LawCod S] {P:Program} {a:Act} {t:Nat} {ty:TyI S} (hty:TyOk P t ty) {pv v:Value} {p c:AV S} {K:St S→Prop} (hs:SR gl En x w V l a.tmps st) (hp:Rep w V l pv p) (hv:Rep w V l v c)
  (h:storeK ty p c st K):∃ w' st' V' l',(Instr.storeAt t pv v).run P w=.ok () w'∧K st'∧SR gl En x w' V' l' a.tmps st':=by
 obtain ⟨i,z,hi,hsz,hzz⟩:=hty.info
 clear hzz
 obtain ⟨vs,h,hvs⟩:=cellsK_elim h
 obtain ⟨hr,hpl⟩:=hvs _ _ _ _ hv
 cases hw:Nat.beq ((vs.map width).sum) ty.size with
 | false=>rw [hw] at h; exact h.elim
 | true =>
 rw [hw] at h
 have hlen:v.cells.size=i.size:=by
  rw [hsz,←Nat.eq_of_beq_eq_true hw,←Array.length_toList,hr.length]; rfl
 cases p with
 | own d q =>
  obtain ⟨b,hb,rfl⟩:=hp.own
  simp only at h
  rw [findK_eq] at h
  cases hl:lookA st.seg d with
  | none=>rw [hl] at h; exact h.elim
  | some ao =>
   rw [hl] at h
   cases ao with
   | frz cs=>exact h.elim
   | row u f=>exact h.elim
   | mp kvs=>exact h.elim
   | mpz ks us=>exact h.elim
   | cells cs =>
    have hgo:∀ {l1:Loc} {st1:St S} {vs1:List (AV S)},l.le l1→SR gl En x w V l1 a.tmps st1→lookA st1.seg d=some (.cells cs)→Reps w V l1 v.cells.toList vs1 →
      (writeK cs q vs1 fun cs'=>putK st1.seg d (.cells cs') fun sg'=>K { st1 with seg:=sg' }) →
      ∃ w' st' V' l',(Instr.storeAt t (.pointer (some ⟨b,poff q,none⟩)) v).run P w=.ok () w'∧K st'∧SR gl En x w' V' l' a.tmps st':=by
     intro l1 st1 vs1 hle hs1 hl1 hr1 h
     obtain ⟨cs',h,h1⟩:=writeK_elim q cs vs1 _ h
     rw [putK_eq] at h
     obtain ⟨b',hb',c0,el,h2,h3,h4⟩:=hs1.seg d _ hl1
     have:=hle.own _ _ hb; rw [hb'] at this; cases this
     obtain ⟨wa,wm,wb,h5,h6,h7,h8⟩:=h1 w V l1 _ _ h3 hr1
     have h9:=lay_toList c0 wa wm wb v.cells.toList h5 h7.symm
     rw [h6] at h9
     have h10:(wa++v.cells.toList++wb).length=c0.size:=by
      rw [←Array.length_toList,h5]; simp only [List.length_append]; omega
     have h11:poff q+v.cells.size≤c0.size:=by
      rw [←h10]; simp only [List.length_append,Array.length_toList]; omega
     exact ⟨_,_,V,l1,run_storeAt hi h2 hlen h11 hpl,h,hs1.write hl1 hb' (by rw [h9]; exact h8)⟩
    have htok:∀ id,(tokK id ty.zero vs st.seg fun vs' sg=>writeK cs q vs' fun cs'=>putK sg d (.cells cs') fun sg'=>K { st with seg:=sg' }) →
      ∃ w' st' V' l',(Instr.storeAt t (.pointer (some ⟨b,poff q,none⟩)) v).run P w=.ok () w'∧K st'∧SR gl En x w' V' l' a.tmps st':=by
     intro id h
     obtain ⟨vs',sg,h,hkeep,h1⟩:=tokK_elim (gl:=gl) (En:=En) (x:=x) _ _ _ st _ h
     obtain ⟨l',hle,hs',hr'⟩:=h1 hs
     exact hgo (st1:={ st with seg:=sg }) hle hs' (hkeep _ _ hl) (hr' _ hr) h
    match q,h with
    | [],h=>exact htok _ h
    | [.off k],h =>
     simp only [findK_eq] at h
     cases hk:lookA st.seg (d+1000 * (k+1)) with
     | none=>rw [hk] at h; exact htok _ h
     | some ao=>rw [hk] at h; exact htok _ h
    | [.idx i es],h=>exact hgo (Loc.le_refl _) hs hl hr h
    | .off k :: s :: r,h=>exact hgo (Loc.le_refl _) hs hl hr h
    | .idx i es :: s :: r,h=>exact hgo (Loc.le_refl _) hs hl hr h
 | up d q =>
  obtain ⟨b,hb,rfl⟩:=hp.up
  simp only at h
  cases hpu:vs.all (pureB 5) with
  | false=>rw [hpu] at h; exact h.elim
  | true =>
  rw [hpu] at h
  simp only at h
  rw [findK_eq] at h
  cases hl:lookA st.up d with
  | none=>rw [hl] at h; exact h.elim
  | some ao =>
   rw [hl] at h
   cases ao with
   | frz cs=>exact h.elim
   | row u f=>exact h.elim
   | mp kvs=>exact h.elim
   | mpz ks us=>exact h.elim
   | cells cs =>
    obtain ⟨cs',h,h1⟩:=writeK_elim q cs vs _ h
    rw [putK_eq] at h
    obtain ⟨b',hb',c0,el,h2,h3,h4⟩:=hs.up d _ hl
    rw [hb'] at hb; cases hb
    obtain ⟨wa,wm,wb,h5,h6,h7,h8⟩:=h1 w V l.notok _ _ h3 ((pure_reps hr 5 hpu).of_none _)
    have h9:=lay_toList c0 wa wm wb v.cells.toList h5 h7.symm
    rw [h6] at h9
    have h10:(wa++v.cells.toList++wb).length=c0.size:=by
     rw [←Array.length_toList,h5]; simp only [List.length_append]; omega
    have h11:poff q+v.cells.size≤c0.size:=by
     rw [←h10]; simp only [List.length_append,Array.length_toList]; omega
    exact ⟨_,_,V,l,run_storeAt hi h2 hlen h11 hpl,h,hs.writeUp hl hb' (by rw [h9]; exact h8)⟩
 | elp u e i' q =>
  obtain ⟨b,n,cap,⟨hb,hle⟩,hpv⟩:Flat l pv (.elp u e i' q):=by
   unfold Rep at hp
   generalize hvs:[pv]=vs at hp
   cases hp with
   | flat h t=>cases hvs; exact h
  subst hpv
  simp only at h
  obtain ⟨vs1,sg,h,_,ho⟩:=(outK_elim 60).2 _ _ _ h
  obtain ⟨V1,hV1,hs,_,hr1⟩:=ho.out hs
  have hr:=(hr1 _ hr).of_none l
  rw [findK_eq] at h
  cases hl:lookA sg e with
  | none=>rw [hl] at h; exact h.elim
  | some ao =>
   rw [hl] at h
   cases ao <;> try exact h.elim
   case row u' f =>
    cases f with
    | false=>exact h.elim
    | true =>
     simp only at h
     cases hu:Cod.ueq u' u with
     | isFalse hne=>rw [hu] at h; exact h.elim
     | isTrue he =>
      rw [hu] at h
      subst he
      cases hpu:vs1.all (pureB 5) with
      | false=>rw [hpu] at h; exact h.elim
      | true =>
       rw [hpu] at h
       obtain ⟨t,ht',hro⟩:=hs.seg e _ hl
       rw [hb] at ht'; cases ht'
       obtain ⟨c0,el,h1,h2,h3,h4⟩:=hro
       have hmul:(i'+1) * Cod.size u'=i' * Cod.size u'+Cod.size u':=Nat.succ_mul _ _
       have hgo:∀ (y:S.T u'),repAllK u' e (fun zs=>zs.set i' y) { st with seg:=sg } K →
         (∀ (xs:List (S.T u')) (ws:List Value),ws.length=n→Reps w V1 Loc.none ws (xs.flatMap (Cod.enc u'))→(∀ k v,ws[k]?=some v→w.cell? ⟨b,k,none⟩=some v) →
          ∀ va vm vb:List Value,ws=va++vm++vb→va.length=i' * Cod.size u'→vm.length=Cod.size u' →
          ∃ wa wm wb,vm=wa++wm++wb∧wa.length=poff q∧wm.length=v.cells.toList.length∧Reps w V1 Loc.none (wa++v.cells.toList++wb) (Cod.enc u' y)) →
         (poff q+v.cells.size≤Cod.size u') →
         ∃ w' st' V' l',(Instr.storeAt t (.pointer (some ⟨b,i' * Cod.size u'+poff q,none⟩)) v).run P w=.ok () w'∧K st'∧SR gl En x w' V' l' a.tmps st':=by
        intro y h hy hq
        have hfit:i' * Cod.size u'+poff q+v.cells.size≤c0.size:=by omega
        have hsz':=lay_size c0 (i' * Cod.size u'+poff q) v.cells.toList
        obtain ⟨st',hK,hsr⟩:=SR.rowRep hs h hl hb h1 hsz' (fun xs ws hwl hwr hwc=>by
         have hxl:ws.length=xs.length * Cod.size u':=by rw [hwr.length,widths_flatMap]
         have hi':i' < xs.length:=by
          have:(i'+1) * Cod.size u'≤xs.length * Cod.size u':=by omega
          exact Nat.le_of_mul_le_mul_right this (LawCod.pos u')
         obtain ⟨va,vm,vb,rfl,h5,h6⟩:=Reps.elem hwr (show xs[i']?=some xs[i'] by simp [hi'])
         have hvm:vm.length=Cod.size u':=by rw [h6.length,LawCod.width]
         obtain ⟨wa,wm,wb,rfl,h7,h8,h9⟩:=hy xs _ hwl hwr hwc va vm vb rfl h5 hvm
         refine ⟨va++(wa++v.cells.toList++wb)++vb,by rw [←hwl]; simp only [List.length_append]; omega,by simp,Reps.set_elem hwr hi' h5 hvm h9,fun k u hk=>?_⟩
         have hct:c0.toList=(va++wa)++wm++(wb++vb++c0.toList.drop n):=by
          have:va++(wa++wm++wb)++vb=c0.toList.take n:=by
           apply List.ext_getElem?
           intro k
           by_cases hkn:k < n
           ·have h7:=hwc k (va++(wa++wm++wb)++vb)[k] (by simp [])
            rw [cell_of_heap h1] at h7
            rw [List.getElem?_take,if_pos hkn]; simp only [Array.getElem?_toList]; rw [h7]; simp []
           rw [List.getElem?_eq_none (by omega),List.getElem?_eq_none (by rw [List.length_take]; omega)]
          have h10:(va++wa)++wm++(wb++vb++c0.toList.drop n)=(va++(wa++wm++wb)++vb)++c0.toList.drop n:=by simp only [List.append_assoc]
          rw [h10,this,List.take_append_drop]
         have hlay:=lay_toList c0 (va++wa) wm (wb++vb++c0.toList.drop n) v.cells.toList hct (by omega)
         rw [show (va++wa).length=i' * Cod.size u'+poff q by rw [List.length_append,h5,h7]] at hlay
         have:(lay c0 (i' * Cod.size u'+poff q) v.cells.toList).toList[k]?=some u:=by
          rw [hlay,show va++wa++v.cells.toList++(wb++vb++c0.toList.drop n)=(va++(wa++v.cells.toList++wb)++vb)++c0.toList.drop n by simp only [List.append_assoc],List.getElem?_append_left (List.getElem?_eq_some_iff.1 hk).1]; exact hk
         simpa using this)
        exact ⟨_,st',V1,l,run_storeAt hi h1 hlen hfit hpl,hK,hsr⟩
       have hpart:(holdK u' e st.tmps fun xs=>optK (getI xs (i':Int)) fun y0=>writeK (Cod.enc u' y0) q vs1 fun cs'=>optK (Cod.dec u' cs') fun y=>repAllK u' e (fun zs=>zs.set i' y) { st with seg:=sg } K) →
         ∃ w' st' V' l',(Instr.storeAt t (.pointer (some ⟨b,i' * Cod.size u'+poff q,none⟩)) v).run P w=.ok () w'∧K st'∧SR gl En x w' V' l' a.tmps st':=by
        intro h
        obtain ⟨xs0,⟨y0,hy0,h⟩,j,hj⟩:=holdK_elim h
        obtain ⟨hi0,hy0⟩:=getI_some hy0
        rw [Int.toNat_natCast] at hy0
        obtain ⟨cs',⟨y,hy,h⟩,hwr0⟩:=writeK_elim q _ vs1 _ h
        have hr0:=hs.tmps j _ hj
        generalize a.tmps.getD j Go.undef=v0 at hr0
        unfold Rep at hr0
        generalize hvs:[v0]=vs0 at hr0
        cases hr0 with
        | flat h0 t=>rw [h0.1] at hy0; simp at hy0
        | tok ht hc r hcp t =>
         rename_i ws0 _
         cases hvs
         rw [hb] at ht; cases ht
         obtain ⟨va0,vm0,vb0,rfl,h13,h14⟩:=Reps.elem r hy0
         obtain ⟨wa,wm,wb,rfl,h15,h16,h17⟩:=hwr0 w V1 Loc.none _ _ h14 (pure_reps hr 5 hpu)
         have hvl0:(wa++wm++wb).length=Cod.size u':=by rw [h14.length,LawCod.width]
         refine hgo y h (fun xs ws hwl hwr hwc va vm vb he hva hvm=>⟨wa,wm,wb,?_,h15,h16,LawCod.back _ _ _ hy _ _ _ _ h17⟩) ?_
         ·apply List.ext_getElem?
          intro k
          by_cases hk:k < Cod.size u'
          ·have e1:ws[i' * Cod.size u'+k]?=some vm[k]:=by
            rw [he,List.append_assoc,List.getElem?_append_right (by omega),hva,Nat.add_sub_cancel_left,List.getElem?_append_left (by omega)]; simp
           have e2:=hwc _ _ e1
           have e3:=hc (i' * Cod.size u'+k) (wa++wm++wb)[k] (by
            rw [List.append_assoc,List.getElem?_append_right (by omega),h13,Nat.add_sub_cancel_left,List.getElem?_append_left (by omega)]; simp)
           rw [e2] at e3
           rw [List.getElem?_eq_getElem (by omega),List.getElem?_eq_getElem (by omega)]; exact e3
          rw [List.getElem?_eq_none (by omega),List.getElem?_eq_none (by omega)]
         rw [←Array.length_toList]; simp only [List.length_append] at hvl0; omega
       cases q with
       | nil =>
        simp only at h
        cases hbe:Nat.beq ((vs1.map width).sum) (Cod.size u') with
        | false=>rw [hbe] at h; exact hpart h
        | true =>
        rw [hbe] at h
        obtain ⟨y,hy,h⟩:=h
        have hry:=LawCod.back _ _ _ hy _ _ _ _ hr
        have hvl:v.cells.toList.length=Cod.size u':=by rw [hry.length,LawCod.width]
        refine hgo y h (fun xs ws _ _ _ va vm vb _ _ hvm=>⟨[],vm,[],by simp,rfl,by omega,by simpa using hry⟩) ?_
        simp only [poff,Nat.zero_add,←Array.length_toList]; omega
       | cons s q=>exact hpart h
 | _=>exact h.elim
end Go.Ab
namespace Go.Ab
open Go
variable {S:Sig} [Cod S]
variable {X:Type} {gl:Gl} {En:Env X} {x:X} {w w':World} {V V':Nat→Nat→Prop} {l l0:Loc} {ts:Array Value} {st:St S}
def PartR (w:World) (V:Nat→Nat→Prop) (l:Loc) (p:Nat×AV S) (q:Nat×Value):Prop:=p.1=q.1∧Rep w V l q.2 p.2
theorem evPK_elim {a:Act} (hs:SRx gl En x w V l l0 a.tmps st):∀ {ps:List (Nat×Operand)} {K:List (Nat×AV S)→Prop},evPK st.tmps ps K →
  ∃ vs,K vs∧All2 (PartR w V l0) vs (ps.map fun p=>(p.1,a.eval p.2))
 | [],K,h=>⟨[],h,.nil⟩
 | (i,y) :: ps,K,h=>by
  simp only [evPK] at h
  obtain ⟨c,h,h1⟩:=evK_elim hs h
  obtain ⟨vs,h,h2⟩:=evPK_elim hs h
  exact ⟨_,h,.cons ⟨rfl,h1⟩ h2⟩
theorem partsK_elim [LawCod S] {fs:List (Nat×Nat×Nat)} {places:List (Nat×Nat)} (hpl:∀ (i off ft sz:Nat),fs[i]?=some (off,ft,sz)→places[i]?=some (off,sz)) :
  ∀ (ps:List (Nat×AV S)) (cs:List (AV S)) (K:List (AV S)→Prop),partsK ps fs cs K→∃ cs',K cs' ∧
   ∀ w V l qs,All2 (PartR w V l) ps qs→∀ c:Array Value,Reps w V l c.toList cs→∃ d,Instr.fill (places.toArray[·]?) c qs=some d∧Reps w V l d.toList cs'
 | [],cs,K,h=>⟨cs,h,fun w V l qs hq c hr=>by cases hq; exact ⟨c,rfl,hr⟩⟩
 | (i, v) :: ps,cs,K,h=>by
  simp only [partsK] at h
  cases hf:fs[i]? with
  | none=>rw [hf] at h; exact h.elim
  | some q =>
   obtain ⟨off,ft,sz⟩:=q
   rw [hf] at h
   simp only at h
   obtain ⟨vs,h,hvs⟩:=cellsK_elim h
   cases hb:Nat.beq ((vs.map width).sum) sz with
   | false=>rw [hb] at h; exact h.elim
   | true =>
    rw [hb] at h
    simp only at h
    obtain ⟨a,b,rfl,hw,h⟩:=splitK_elim _ _ _ _ h
    obtain ⟨b1,b2,rfl,hw2,h⟩:=overK_elim h
    rw [appK_eq] at h
    obtain ⟨cs',hK,hd⟩:=partsK_elim hpl ps _ K h
    refine ⟨cs',hK,fun w V l qs hq c hr=>?_⟩
    cases hq with
    | @cons _ q _ qs hpq hq =>
     obtain ⟨j,u⟩:=q
     obtain ⟨rfl,hru⟩:=hpq
     obtain ⟨hcu,_⟩:=hvs _ _ _ _ hru
     obtain ⟨va,vb,he,h1,h2⟩:=hr.split a
     obtain ⟨vb1,vb2,rfl,h3,h4⟩:=h2.split b1
     have hsz:u.cells.size=sz:=by rw [←Array.length_toList,hcu.length,←Nat.eq_of_beq_eq_true hb]; rfl
     have hva:va.length=off:=by rw [h1.length,hw]
     have hvb:vb1.length=u.cells.toList.length:=by rw [h3.length,hw2,hcu.length]
     have hlen:c.size=off+u.cells.size+vb2.length:=by
      rw [←Array.length_toList,he]; simp only [List.length_append]; rw [hva,hvb,Array.length_toList]; omega
     have hlay:=lay_toList c va vb1 vb2 u.cells.toList (by rw [he,List.append_assoc]) hvb.symm
     rw [hva] at hlay
     obtain ⟨d,h5,h6⟩:=hd w V l qs hq (lay c off u.cells.toList) (by rw [hlay,List.append_assoc]; exact h1.append (hcu.append h4))
     refine ⟨d,?_,h6⟩
     rw [fill_cons (size:=sz) (by simpa using hpl _ _ _ _ hf) hsz (by omega)]
     exact h5
theorem partsArrK_elim [LawCod S] {u:S.U} {n:Nat}:∀ (ps:List (Nat×AV S)) (xs:List (S.T u)) (K:List (S.T u)→Prop),xs.length=n→partsArrK u n ps xs K→∃ ys,K ys∧ys.length=n ∧
      ∀ w V l qs,All2 (PartR w V l) ps qs→∀ c:Array Value,Reps w V Loc.none c.toList (xs.flatMap (Cod.enc u)) →
       ∃ d,Instr.fill (fun i=>some (i * Cod.size u,Cod.size u)) c qs=some d∧Reps w V Loc.none d.toList (ys.flatMap (Cod.enc u))
 | [],xs,K,hn,h=>⟨xs,h,hn,fun w V l qs hq c hr=>by cases hq; exact ⟨c,rfl,hr⟩⟩
 | (i, v) :: ps,xs,K,hn,h=>by
  simp only [partsArrK] at h
  cases hb:Nat.blt i n with
  | false=>rw [hb] at h; exact h.elim
  | true =>
   rw [hb] at h
   have hi:i < n:=Nat.le_of_ble_eq_true hb
   obtain ⟨vs,h,hvs⟩:=cellsK_elim h
   obtain ⟨y,hy,h⟩:=h
   obtain ⟨ys,hK,hl,hd⟩:=partsArrK_elim ps (xs.set i y) K (by simp [hn]) h
   refine ⟨ys,hK,hl,fun w V l qs hq c hr=>?_⟩
   cases hq with
   | @cons _ q _ qs hpq hq =>
    obtain ⟨j,z⟩:=q
    obtain ⟨rfl,hrz⟩:=hpq
    obtain ⟨hcz,_⟩:=hvs _ _ _ _ hrz
    have hback:=LawCod.back u vs y hy _ _ _ _ hcz
    have hsz:z.cells.size=Cod.size u:=by rw [←Array.length_toList,hback.length,LawCod.width]
    obtain ⟨va,vm,vb,he,h1,h2⟩:=Reps.elem hr (i:=i) (x:=xs[i]'(by omega)) (by simp)
    have hvm:vm.length=Cod.size u:=by rw [h2.length,LawCod.width]
    have hlay:=lay_toList c va vm vb z.cells.toList he (by rw [hvm,Array.length_toList,hsz])
    rw [h1] at hlay
    have hlen:c.size=va.length+vm.length+vb.length:=by rw [←Array.length_toList,he]; simp only [List.length_append]
    obtain ⟨d,h3,h4⟩:=hd w V l qs hq (lay c (i * Cod.size u) z.cells.toList) (by
     rw [hlay]; rw [he] at hr; exact Reps.set_elem hr (by omega) h1 hvm hback)
    refine ⟨d,?_,h4⟩
    rw [fill_cons (size:=Cod.size u) rfl hsz (by rw [←h1]; omega)]
    exact h3
theorem build_ok [LawCod S] {P:Program} {a:Act} {t:Nat} {ty:TyI S} (hty:TyOk P t ty) {ps:Array (Nat×Operand)} {vs:List (Nat×AV S)} {K:AV S→Prop}
  (hv:All2 (PartR w V l) vs (ps.toList.map fun p=>(p.1,a.eval p.2)))
  (h:match ty.kind with
   | .struct fs=>mapK nilsK ty.zero fun zs=>partsK vs fs zs fun cs=>K (.agg cs)
   | .array ua na=>match ty.zero with
    | [.arr u n zs]=>match Nat.beq n na with
     | true=>castL u ua zs fun zs=>partsArrK ua na vs zs fun xs=>K (.agg [.arr ua na xs])
     | false=>False
    | _=>False
   | _=>False):∃ v c,(Instr.build t (ps.map fun (i,y)=>(i,a.eval y))).run P w=.ok v w∧K c∧Rep w V l v c:=by
 obtain ⟨i,z,hi,hsz,hz,hz0⟩:=hty.info
 have hps:(ps.map fun (i,y)=>(i,a.eval y)).toList=ps.toList.map fun p=>(p.1,a.eval p.2):=by simp
 cases hk:ty.kind with
 | struct fs =>
  rw [hk] at h
  simp only at h
  have hkind:=hty.kind
  rw [hk] at hkind
  obtain ⟨fds,places,h1,h2,h3⟩:=hkind
  rw [nilsK_map] at h
  obtain ⟨cs,hK,h4⟩:=partsK_elim (fun i off ft sz hf=>(h3 i off ft sz hf).1) vs _ _ h
  obtain ⟨d,h5,h6⟩:=h4 w V l _ hv z.cells ((hz0 w V).2.of_none l)
  refine ⟨_,_,run_build w t _ d ?_,hK,Reps.agg h6 (.nil _)⟩
  unfold Program.built
  rw [hps]
  simp only [hi,h1,hz,h2]
  exact h5
 | array u n =>
  rw [hk] at h
  simp only at h
  have hkind:=hty.kind
  rw [hk] at hkind
  obtain ⟨e,ie,h1,h2,h3,h4⟩:=hkind
  generalize hzero:ty.zero=zl at h
  match zl,h with
  | [.arr u' n' zs],h =>
   simp only at h
   cases hb:Nat.beq n' n with
   | false=>rw [hb] at h; exact h.elim
   | true =>
    rw [hb] at h
    obtain rfl:=Nat.eq_of_beq_eq_true hb
    simp only [castL] at h
    cases hu:Cod.ueq u' u with
    | isFalse hne=>rw [hu] at h; exact h.elim
    | isTrue he =>
     rw [hu] at h
     subst he
     have hzr:=(hz0 w V).1
     rw [hzero] at hzr
     generalize hzc:z.cells.toList=zc at hzr
     cases hzr with
     | flat hf _=>exact hf.elim
     | @arr _ _ _ _ ws vs' _ hxn r tl =>
      rw [tl.nil_inv,List.append_nil] at hzc
      obtain ⟨ys,hK,hyl,h5⟩:=partsArrK_elim vs zs _ hxn h
      obtain ⟨d,h6,h7⟩:=h5 w V l _ hv z.cells (by rw [hzc]; exact r)
      refine ⟨_,_,run_build w t _ d ?_,hK,Reps.agg (by have:=Reps.arr hyl h7 (.nil l); rwa [List.append_nil] at this) (.nil _)⟩
      unfold Program.built
      rw [hps]
      simp only [hi,h1,hz,h2,h3]
      exact h6
 | _=>rw [hk] at h; exact h.elim
end Go.Ab
namespace Go.Ab
open Go
variable {S:Sig} [Cod S]
variable {X:Type} {gl:Gl} {En:Env X} {x:X} {w w1 w':World} {V V':Nat→Nat→Prop} {l l0:Loc} {ts:Array Value} {st:St S}
theorem SRx.own_row (h:SRx gl En x w V l l0 ts st) {d:Nat} (hd:lookA st.seg d=none∨∃ u f,lookA st.seg d=some (.row u f)):l.own d=none:=by
 rcases hd with hd | ⟨u,f,hd⟩
 ·exact (h.own_none hd).1
 cases ho:l.own d with
 | none=>rfl
 | some b=>obtain ⟨cs,h1,h2⟩:=h.rego d b ho; rw [hd] at h1; cases h1; exact h2.elim
theorem SRx.newRow [LawCod S] (h:SRx gl En x w V l l0 ts st) (hg:Grow w w1) {c:Array Value} {el:TypeId} (hb:w1.heap[w.heap.size]?=some (.cells c el (0,0)))
  {d:Nat} (hd:lookA st.seg d=none∨∃ u f,lookA st.seg d=some (.row u f)) (h0:l0.tok d=none) {u:S.U} {xs:List (S.T u)} (f:Bool) {cap:Nat} {ws tail:List Value}
  (hc:c.toList=ws++tail) (hr:Reps w V Loc.none ws (xs.flatMap (Cod.enc u))) (hcap:cap * Cod.size u≤c.size) (hlen:xs.length≤cap) :
  ∃ V',SRx gl En x w1 V' (l.setTok d (.at w.heap.size ws.length cap)) (l0.setTok d (.at w.heap.size ws.length cap)) ts { st with seg:=putA st.seg d (.row u f) } ∧
   Rep w1 V' (l0.setTok d (.at w.heap.size ws.length cap)) (.slice (some ⟨w.heap.size,0,none⟩) xs.length cap) (.sl u xs (some d)):=by
 have h1:SRx gl En x w1 V l l0 ts st:=h.grow hg (fun _ _ h=>h) (fun _ _ h=>.inl h)
 have hlt:=lt_of_heap hb
 have hnm:∀ k d',¬ Mut l st k d' w.heap.size:=fun k d'=>h.no_mut (Nat.le_refl _) k d'
 have hnE:¬ En.E x w.heap.size:=fun hE=>absurd (En.lt _ _ _ h.inv hE) (Nat.lt_irrefl _)
 have hnV:∀ o,¬ V w.heap.size o:=fun o hv=>absurd (h.vlt _ _ hv) (Nat.lt_irrefl _)
 have hws:ws.length=xs.length * Cod.size u:=by rw [hr.length,widths_flatMap]
 have hused:ws.length≤cap * Cod.size u:=by rw [hws]; exact Nat.mul_le_mul_right _ hlen
 have hrep:∀ V',(∀ b o,V b o→V' b o)→Reps w1 V' Loc.none ws (xs.flatMap (Cod.enc u)):=fun V' hV=>hr.grown hg hV h.vlt
 have hcell:∀ k v,ws[k]?=some v→w1.cell? ⟨w.heap.size,k,none⟩=some v:=fun k v hk=>by
  rw [cell_of_heap hb]
  have:c.toList[k]?=some v:=by rw [hc,List.getElem?_append_left (List.getElem?_eq_some_iff.1 hk).1]; exact hk
  simpa using this
 have hmo:∀ b,MutO (l.setTok d (.at w.heap.size ws.length cap)) d (.row u f:AO S) b→¬ En.E x b∧gl.g0≤b∧∀ k d',Mut l st k d' b→k=false∧d'=d:=by
  rintro b ⟨n,cap',hm⟩
  simp only [Loc.setTok,if_true] at hm
  cases hm
  exact ⟨hnE,gl.le _ h.g,fun k d' hm=>absurd hm (hnm k d')⟩
 have hro:∀ b,(l.setTok d (.at w.heap.size ws.length cap)).own d=some b→BoxO (.row u f:AO S):=fun b hb=>by
  have:l.own d=some b:=hb
  rw [h.own_row hd] at this; cases this
 have htok:(l.setTok d (.at w.heap.size ws.length cap)).tok d=some (.at w.heap.size ws.length cap):=by simp [Loc.setTok]
 cases f with
 | true =>
  exact ⟨V,h1.turn (Loc.setTok_le h.le) (Loc.le_setTok h0) (fun _ _=>rfl) (fun k hk=>by simp [Loc.setTok,hk]) rfl rfl (fun _ _ h=>h) (fun _ _ h=>.inl h)
   ⟨_,htok,c,el,hb,hcap,hused,hnV⟩ hmo hro (fun _ _=>⟨_,_,rfl⟩),.tok (by simp [Loc.setTok]) hcell (hrep V fun _ _ h=>h) hlen (.nil _)⟩
 | false =>
  refine ⟨fun b o=>V b o∨(b=w.heap.size∧o < ws.length),h1.turn (Loc.setTok_le h.le) (Loc.le_setTok h0) (fun _ _=>rfl) (fun k hk=>by simp [Loc.setTok,hk]) rfl rfl (fun _ _ h=>.inl h)
   (fun b o hv=>hv.imp id fun hv=>by rw [hv.1]; exact ⟨hlt,hnE,fun k d' hm=>absurd hm (hnm k d')⟩)
   ⟨_,htok,c,el,hb,hcap,hused,fun o=>⟨fun hv=>hv.elim (fun hv=>absurd hv (hnV o)) fun hv=>hv.2,fun ho=>.inr ⟨rfl,ho⟩⟩⟩ hmo hro (fun _ _=>⟨_,_,rfl⟩),
   .tok (by simp [Loc.setTok]) hcell (hrep _ fun _ _ h=>.inl h) hlen (.nil _)⟩
theorem elemsK_elim [LawCod S] {u:S.U}:∀ (vs:List (AV S)) (K:List (S.T u)→Prop),elemsK u vs K→∃ xs,K xs∧xs.length=vs.length∧∀ w V l qs,Reps w V l qs vs →
  qs.length=vs.length∧(∀ q∈qs,q.cells.size=Cod.size u)∧Reps w V Loc.none (qs.flatMap fun q=>q.cells.toList) (xs.flatMap (Cod.enc u))
 | [],K,h=>⟨[],h,rfl,fun w V l qs hq=>by rw [hq.nil_inv]; exact ⟨rfl,(fun q h=>by cases h),.nil _⟩⟩
 | v :: vs,K,h=>by
  have hna:NotArr v:=by cases v <;> first | trivial | exact h.elim
  have h:cellsK v fun cs=>optK (Cod.dec u cs) fun x=>elemsK u vs fun l=>K (x :: l):=by cases v <;> first | exact h | exact h.elim
  obtain ⟨cs,h,hcs⟩:=cellsK_elim h
  obtain ⟨y,hy,h⟩:=h
  obtain ⟨xs,hK,hl,h1⟩:=elemsK_elim vs _ h
  refine ⟨_,hK,by simp [hl],fun w V l qs hq=>?_⟩
  obtain ⟨q,qs',rfl,h2,h3⟩:=hq.head hna
  obtain ⟨h4,h5,h6⟩:=h1 w V l qs' h3
  have h7:=LawCod.back u cs y hy _ _ _ _ (hcs _ _ _ _ h2).1
  refine ⟨by simp [h4],fun q' hq'=>?_,?_⟩
  ·rcases List.mem_cons.1 hq' with rfl | hq'
   ·rw [←Array.length_toList,h7.length,LawCod.width]
   exact h5 _ hq'
  simp only [List.flatMap_cons]; exact h7.append h6
theorem seqB_get:∀ (ps:List (Nat×Operand)) (n:Nat),seqB n ps=true→∀ j p,ps[j]?=some p→p.1=n+j
 | [],_,_,j,p,h=>by simp at h
 | (i,y) :: ps,n,h,j,p,hj=>by
  simp only [seqB] at h
  cases hb:Nat.beq i n with
  | false=>rw [hb] at h; cases h
  | true =>
   rw [hb] at h
   cases j with
   | zero=>simp at hj; subst hj; exact Nat.eq_of_beq_eq_true hb
   | succ j=>simp at hj; have:=seqB_get ps (n+1) h j p hj; omega
theorem buildSlice_ok [LawCod S] {P:Program} {par:Par S X} (htis:TisOk P par.ti) {a:Act} {d t len:Nat} {ps:Array (Nat×Operand)} {K:AV S→St S→X→Prop} (hs:SR gl En x w V l a.tmps st)
  (h:findK st.seg d (tyK par t fun ty=>match ty.kind with
   | .slice u _ _=>evLK st.tmps (ps.toList.map fun p=>p.2) fun vs=>outK.outLK 60 vs st.seg fun vs' sg0=>match seqB 0 ps.toList with
    | true=>elemsK u vs' fun xs=>match Nat.beq len ps.size&&Nat.ble (len * Cod.size u) 16777216 with
     | true=>putK sg0 d (.row u (zeroB len)) fun sg=>K (.sl u xs (some d)) { st with seg:=sg } x
     | false=>False
    | false=>False
   | _=>False) fun _=>False) :
  ∃ v w',(Instr.buildSlice t len (ps.map fun (i,y)=>(i,a.eval y))).run P w=.ok v w'∧Res gl En a K v w':=by
 rw [findK_eq] at h
 cases hl:lookA st.seg d with
 | some ao=>rw [hl] at h; exact h.elim
 | none =>
 rw [hl] at h
 simp only at h
 obtain ⟨ty,h,hty⟩:=tyK_elim htis h
 cases hk:ty.kind with
 | slice u bytes ez =>
  rw [hk] at h
  simp only at h
  obtain ⟨vs,h,hvl,hvs⟩:=evLK_elim hs h
  obtain ⟨vs',sg0,h,hvl',hout⟩:=(outK_elim 60).2 _ _ _ h
  cases hsq:seqB 0 ps.toList with
  | false=>rw [hsq] at h; exact h.elim
  | true =>
  rw [hsq] at h
  simp only at h
  obtain ⟨xs,h,hxl,hel⟩:=elemsK_elim _ _ h
  cases hbb:Nat.beq len ps.size&&Nat.ble (len * Cod.size u) 16777216 with
  | false=>rw [hbb] at h; exact h.elim
  | true =>
  rw [hbb] at h
  simp only [putK_eq] at h
  simp only [Bool.and_eq_true] at hbb
  have hlen:=Nat.eq_of_beq_eq_true hbb.1
  have hlim:=Nat.le_of_ble_eq_true hbb.2
  have hkind:=hty.kind
  rw [hk] at hkind
  obtain ⟨e,ie,z,h1,h2,h3,h4,h5,h6,h7,h8,h9⟩:=hkind
  obtain ⟨V1,hV1,hs1,_,hr1⟩:=hout.out hs
  obtain ⟨h10,h11,h12⟩:=hel _ _ _ _ (hr1 _ hvs)
  have hpl:(ps.map fun (i,y)=>(i,a.eval y)).toList=ps.toList.map fun p=>(p.1,a.eval p.2):=by simp
  let c0:Array Value:=(Array.range (len * Cod.size u)).map fun k=>(if len * Cod.size u=0 then #[] else z.cells)[k % (if len * Cod.size u=0 then #[] else z.cells).size]!
  have hc0:c0.size=len * Cod.size u:=by simp [c0]
  obtain ⟨c,h13,h14⟩:=fill_row (size:=Cod.size u) (ps.toList.map fun p=>(p.1,a.eval p.2)) 0 [] c0 c0.toList (fun j p hj=>by
    simp only [List.getElem?_map,Option.map_eq_some_iff] at hj
    obtain ⟨q,hq,rfl⟩:=hj
    refine ⟨seqB_get _ _ hsq j q hq,h11 _ ?_⟩
    exact List.mem_map.2 ⟨q.2,List.mem_map.2 ⟨q,List.mem_of_getElem? hq,rfl⟩,rfl⟩)
   (by simp) (by simp) (by rw [Array.length_toList,hc0,hlen]; simp)
  have h15:c.toList=((ps.toList.map fun p=>p.2).map a.eval).flatMap fun q=>q.cells.toList:=by
   rw [h14]; simp [List.flatMap_map]
  have hxs:xs.length=len:=by rw [hxl,hvl',hvl,hlen]; simp
  have hcs:c.size=len * Cod.size u:=by rw [←Array.length_toList,h15,h12.length,widths_flatMap,hxs]
  have hw1:(w.alloc (.cells c e)).heap[w.heap.size]?=some (.cells c e (0,0)):=heap_alloc_new _ _
  have hlook:lookA sg0 d=none∨∃ u f,lookA sg0 d=some (.row u f):=by
   cases hl0:lookA sg0 d with
   | none=>exact .inl rfl
   | some ao =>
    have:=hs1.seg d ao hl0
    obtain ⟨hn1,hn2⟩:=hs.own_none hl
    cases ao with
    | cells cs=>obtain ⟨b,hb,_⟩:=this; rw [hn1] at hb; cases hb
    | frz cs=>obtain ⟨b,ws,hb,_⟩:=this; rw [hn1] at hb; cases hb
    | mpz ks us=>obtain ⟨b,hb,_⟩:=this; rw [hn1] at hb; cases hb
    | mp kvs=>obtain ⟨b,hb,_⟩:=this; rw [hn1] at hb; cases hb
    | row u f=>exact .inr ⟨u,f,rfl⟩
  obtain ⟨V2,hs2,hrep⟩:=hs1.newRow (Grow.alloc _ _) hw1 hlook (hs.own_none hl).2 (u:=u) (xs:=xs) (zeroB len) (cap:=len) (ws:=c.toList) (tail:=[]) (by simp)
   (by rw [h15]; exact h12) (by rw [hcs]; exact Nat.le_refl _) (by omega)
  refine ⟨_,_,?_,_,_,x,V2,_,h,hs2,by rw [hxs] at hrep; exact hrep⟩
  have hz0:¬ len * ie.size > 2 ^ 24:=by rw [h3]; omega
  have hfill:Instr.fill (fun i=>some (i * ie.size,ie.size)) c0 (ps.toList.map fun p=>(p.1,a.eval p.2))=some c:=by rw [h3]; exact h13
  simp only [Instr.buildSlice,Sem.run_bind,run_underlying h1,run_sizeOf h2,Result.andThen,hz0,if_false]
  simp [pure]
  by_cases hz1:len * ie.size=0
  ·have hc0e:(Array.range (len * ie.size)).map (fun _=>(default:Value))=c0:=by
    apply Array.ext'
    rw [h3] at hz1
    simp [c0,h3,hz1]
   rw [if_pos hz1,hc0e,hfill]
   simp [run_newRow,Result.andThen]
  have hc0e:(Array.range (len * ie.size)).map (fun k=>z.cells[k % z.cells.size]!)=c0:=by
   rw [h3] at hz1
   simp [c0,h3,hz1]
  rw [if_neg hz1,run_zeroValue h2 h7]
  simp only [Result.andThen]
  rw [hc0e,hfill]
  simp [run_newRow,Result.andThen]
 | _=>rw [hk] at h; exact h.elim
theorem buildSlice_nil [LawCod S] {P:Program} {par:Par S X} (htis:TisOk P par.ti) {a:Act} {t len:Nat} {ps:Array (Nat×Operand)} {K:AV S→St S→X→Prop} (hs:SR gl En x w V l a.tmps st) (hps:ps.toList=[])
  (h:tyK par t fun ty=>match ty.kind with
   | .slice _ _ _=>match len with
    | 0=>K .nils st x
    | _+1=>False
   | _=>False) :
  ∃ v w',(Instr.buildSlice t len (ps.map fun (i,y)=>(i,a.eval y))).run P w=.ok v w'∧Res gl En a K v w':=by
 obtain ⟨ty,h,hty⟩:=tyK_elim htis h
 have hps':ps=#[]:=by apply Array.ext'; simpa using hps
 subst hps'
 cases hk:ty.kind with
 | slice u bytes ez =>
  rw [hk] at h
  simp only at h
  cases len with
  | succ n=>exact h.elim
  | zero =>
  have hkind:=hty.kind
  rw [hk] at hkind
  obtain ⟨e,ie,z,h1,h2,h3,h4,h5,h6,h7,h8,h9⟩:=hkind
  refine ⟨.slice (some ⟨w.heap.size,0,none⟩) 0 0,w.alloc (.cells #[] e),?_,_,_,x,V,l,h,hs.grow (Grow.alloc _ _) (fun _ _ h=>h) (fun _ _ h=>.inl h),.flat ⟨_,rfl⟩ (.nil _)⟩
  simp [Instr.buildSlice,Sem.run_bind,run_underlying h1,run_sizeOf h2,Result.andThen,pure,Instr.fill,run_newRow]
  rw [show Array.map (fun _=>(default:Value)) (Array.range 0)=#[] from Array.ext (by simp) (fun i h _=>by simp at h)]
 | _=>rw [hk] at h; exact h.elim
end Go.Ab
namespace Go.Ab
open Go
variable {S:Sig} [Cod S]
variable {X:Type} {gl:Gl} {En:Env X} {x:X} {w w1 w':World} {V V':Nat→Nat→Prop} {l l0:Loc} {ts:Array Value} {st:St S}
theorem SRx.rowWrite (h:SRx gl En x w V l l0 ts st) {e b used cap:Nat} {u:S.U} {f:Bool} (hd:lookA st.seg e=some (.row u f)) (ht:l.tok e=some (.at b used cap)) (h0:l0.tok e=none)
  {c c':Array Value} {el:TypeId} (hc:w.heap[b]?=some (.cells c el (0,0))) (hsz:c'.size=c.size) (hsame:∀ o,o < used→c'[o]?=c[o]?) :
  SRx gl En x (putRow w b c' el) V l l0 ts st:=by
 have hm:Mut l st false e b:=⟨_,hd,_,_,ht⟩
 have hb:=lt_of_heap hc
 obtain ⟨t,ht',hro⟩:=h.seg e _ hd
 rw [ht] at ht'; cases ht'
 obtain ⟨c0,el0,h1,h2,h3,h4⟩:=hro
 rw [hc] at h1; cases h1
 have hVb:∀ o,V b o→o < used:=fun o hv=>by
  cases f with
  | true=>exact absurd hv (h4 o)
  | false=>exact (h4 o).1 hv
 have hblk:∀ b',b'≠b→(putRow w b c' el).heap[b']?=w.heap[b']?:=fun b' hne=>by rw [putRow_heap,if_neg]; exact fun e=>hne e.1
 have hcell:∀ b' o,V b' o→eye (putRow w b c' el) b' o=eye w b' o:=fun b' o hv=>by
  by_cases hbb:b'=b
  ·subst hbb
   exact eye_cells hc (w':=putRow w b' c' el) (c':=c') (el':=el) (fr':=(0,0)) (by rw [putRow_heap,if_pos ⟨rfl,hb⟩]) (hsame o (hVb o hv))
  exact cell_congr (hblk _ hbb) o
 have htk:∀ d' b' n cap',d'≠e→l.tok d'=some (.at b' n cap')→b'≠b:=fun d' b' n cap' hne ht2 hbb=>by
  obtain ⟨u',f',hreg⟩:=h.regt _ _ ht2
  exact hne (h.dis false d' false e b ⟨_,hreg,n,cap',hbb ▸ ht2⟩ hm).2
 have hrep:∀ {l1:Loc} {vs:List Value} {es:List (AV S)},(∀ d t,l1.tok d=some t→d≠e∧l.tok d=some t)→Reps w V l1 vs es→Reps (putRow w b c' el) V l1 vs es:=fun hl1 hr =>
  hr.mono (fun _ _ h=>h) hcell _ (Loc.le_refl _) fun d' b' n cap' ht2 o _=>cell_congr (hblk _ (htk d' b' n cap' (hl1 _ _ ht2).1 (hl1 _ _ ht2).2)) o
 have hl0:∀ d t,l0.tok d=some t→d≠e∧l.tok d=some t:=fun d t ht2=>⟨(fun he=>by subst he; rw [h0] at ht2; cases ht2),h.le.tok _ _ ht2⟩
 have hnk:∀ d t,l0.notok.tok d=some t→d≠e∧l.tok d=some t:=fun d t e=>by simp [Loc.notok] at e
 have hnn:∀ d t,Loc.none.tok d=some t→d≠e∧l.tok d=some t:=fun d t e=>by simp [Loc.none] at e
 have hat:∀ {b' o:Nat} {ws:List Value},CellsAt w V b' o ws→CellsAt (putRow w b c' el) V b' o ws:=fun h=>h.mono (fun _ _ h=>h) hcell
 have hk:=Keep.putRow (h.mine _ _ _ hm).1 c' el (w:=w)
 refine ⟨h.le,h.cb.world (fun _ _ h=>h) hcell,En.stable _ _ _ h.inv hk,gl.st _ _ h.g hk.size fun b' hb' o=>cell_congr (hblk b' fun e=>by have:=(h.mine _ _ _ hm).2; omega) o,
  fun b' o hv=>by rw [putRow_size]; exact h.vlt b' o hv,h.vem,h.sz,fun i c2 hi=>hrep hl0 (h.tmps i c2 hi),fun d' ao' hd'=>?_,fun d' ao' hd'=>?_,h.rego,h.regt,h.mine,h.dis⟩
 ·have:=h.seg d' ao' hd'
  cases ao' with
  | cells es =>
   obtain ⟨b',hb',c2,el',h5,h6,h7⟩:=this
   have hne:b'≠b:=fun hbb=>by
    have:=(h.dis false d' false e b ⟨_,hd',hbb ▸ hb'⟩ hm).2
    subst this; rw [hd] at hd'; cases hd'
   exact ⟨b',hb',c2,el',by rw [hblk _ hne]; exact h5,hrep hl0 h6,h7⟩
  | frz es =>
   obtain ⟨b',ws,hb',h5,h6⟩:=this
   exact ⟨b',ws,hb',hat h5,hrep hnn h6⟩
  | row u' f' =>
   obtain ⟨t,ht2,h5⟩:=this
   refine ⟨t,ht2,?_⟩
   cases t with
   | no=>trivial
   | «at» b' n cap' =>
    obtain ⟨c2,el',h6,h7,h8,h9⟩:=h5
    by_cases hde:d'=e
    ·subst hde
     rw [ht] at ht2; cases ht2
     rw [hc] at h6; cases h6
     exact ⟨c',el,by rw [putRow_heap,if_pos ⟨rfl,hb⟩],by rw [hsz]; exact h7,h8,h9⟩
    exact ⟨c2,el',by rw [hblk _ (htk _ _ _ _ hde ht2)]; exact h6,h7,h8,h9⟩
  | mp kvs =>
   obtain ⟨b',hb',hmp⟩:=this
   have hne:b'≠b:=fun hbb=>by
    have:=(h.dis false d' false e b ⟨_,hd',hbb ▸ hb'⟩ hm).2
    subst this; rw [hd] at hd'; cases hd'
   exact ⟨b',hb',hmp.mono (hblk _ hne) (hrep hnn) fun o=>by obtain ⟨es,ck,_,_,h3⟩:=hmp; exact h3 o⟩
  | mpz ks us=>obtain ⟨b2,hb2,hmz⟩:=this; exact ⟨b2,hb2,(hrep hnn) hmz⟩
 have:=h.up d' ao' hd'
 cases ao' with
 | cells es =>
  obtain ⟨b',hb',c2,el',h5,h6,h7⟩:=this
  have hne:b'≠b:=fun hbb=>by have:=(h.dis true d' false e b ⟨_,hd',trivial,hbb ▸ hb'⟩ hm).1; cases this
  exact ⟨b',hb',c2,el',by rw [hblk _ hne]; exact h5,hrep hnk h6,h7⟩
 | frz es =>
  obtain ⟨b',ws,hb',h5,h6⟩:=this
  exact ⟨b',ws,hb',hat h5,hrep hnn h6⟩
 | row u' f'=>trivial
 | mp kvs =>
  obtain ⟨b',hb',hmp⟩:=this
  have hne:b'≠b:=fun hbb=>by have:=(h.dis true d' false e b ⟨_,hd',trivial,hbb ▸ hb'⟩ hm).1; cases this
  exact ⟨b',hb',hmp.mono (hblk _ hne) (hrep hnn) fun o=>by obtain ⟨es,ck,_,_,h3⟩:=hmp; exact h3 o⟩
 | mpz ks us=>obtain ⟨b2,hb2,hmz⟩:=this; exact ⟨b2,hb2,(hrep hnn) hmz⟩
theorem moreK_elim {u:S.U} {y:AV S} {K:List (S.T u)→Prop} (h:moreK u y K):∃ ys:List (S.T u),K ys∧∀ w V l v,Rep w V l v y →
  ∃ xb mcap ws,v=.slice xb ys.length mcap∧Reps w V Loc.none ws (ys.flatMap (Cod.enc u))∧((ys=[]∧ws=[])∨∃ b off,xb=some ⟨b,off,none⟩∧∀ k v,ws[k]?=some v→w.cell? ⟨b,off+k,none⟩=some v):=by
 unfold moreK at h
 cases y with
 | nils=>exact ⟨[],h,fun w V l v hr=>by obtain ⟨base,hb⟩:=hr.nils; exact ⟨base,0,[],hb,.nil _,.inl ⟨rfl,rfl⟩⟩⟩
 | sl v ys o =>
  simp only [castL] at h
  cases hu:Cod.ueq v u with
  | isFalse hne=>rw [hu] at h; exact h.elim
  | isTrue he =>
   rw [hu] at h
   subst he
   exact ⟨ys,h,fun w V l v hr=>hr.sl⟩
 | _=>exact h.elim
theorem run_more {P:Program} {w:World} {size m mcap:Nat} {xb:Option Addr} {ws:List Value} (hl:ws.length=m * size)
  (hm:(m=0∧ws=[])∨∃ b off,xb=some ⟨b,off,none⟩∧∀ k v,ws[k]?=some v→w.cell? ⟨b,off+k,none⟩=some v) :
  ∀ w',(∀ k:Nat,w'.heap[k]?=w.heap[k]?)→(Builtin.firstCells size m (.slice xb m mcap)).run P w'=.ok ws.toArray w':=by
 intro w' hw
 refine run_firstCells' hl ?_
 rcases hm with ⟨rfl,rfl⟩ | ⟨b,off,rfl,h⟩
 ·cases xb with
  | none=>exact .inl ⟨rfl,rfl⟩
  | some a=>exact .inr (.inl ⟨rfl,_,rfl⟩)
 exact .inr (.inr ⟨b,off,rfl,fun k v hk=>by rw [eye_cell (cell_congr (hw b) _)]; exact h k v hk⟩)
variable [LawCod S]
theorem append_core {P:Program} {sT xT elem:TypeId} {i:TypeInfo} {z:Value} {type:TypeId} {rest:List TypeId} {u:S.U} (hty:AppTy P sT xT elem i z (Cod.lim u)) (hsize:i.size=Cod.size u)
  {e:Nat} (hs:SRx gl En x w V l l0 ts st) (h0:l0.tok e=none) {xs ys:List (S.T u)} (hlim:xs.length+ys.length≤Cod.lim u) {f f':Bool}
  (hd:lookA st.seg e=some (.row u f)∨lookA st.seg e=none) (hf:f'=f∨f'=false)
  {base:Option Addr} {cap:Nat} {wsx:List Value} (hx:Reps w V Loc.none wsx (xs.flatMap (Cod.enc u)))
  (hsv:(xs=[]∧cap=0∧(l.tok e=some .no∨lookA st.seg e=none))∨∃ b,base=some ⟨b,0,none⟩∧l.tok e=some (.at b wsx.length cap)∧lookA st.seg e=some (.row u f)∧∀ k v,wsx[k]?=some v→w.cell? ⟨b,k,none⟩=some v)
  {xb:Option Addr} {mcap:Nat} {wsy:List Value} (hy:Reps w V Loc.none wsy (ys.flatMap (Cod.enc u)))
  (hyv:(ys=[]∧wsy=[])∨∃ b off,xb=some ⟨b,off,none⟩∧∀ k v,wsy[k]?=some v→w.cell? ⟨b,off+k,none⟩=some v)
  (hpl:∀ v∈wsy,Plain v) :
  ∃ v w' V' l',(Builtin.append_ (sT :: xT :: rest).toArray type #[.slice base xs.length cap,.slice xb ys.length mcap]).run P w=.ok v w' ∧
   SR gl En x w' V' l' ts { st with seg:=putA st.seg e (.row u f') }∧Rep w' V' l' v (.sl u (xs++ys) (some e)):=by
 have hlx:wsx.length=xs.length * i.size:=by rw [hx.length,widths_flatMap,hsize]
 have hly:wsy.length=ys.length * i.size:=by rw [hy.length,widths_flatMap,hsize]
 have hys:=run_more (P:=P) (w:=w) (mcap:=mcap) hly (hyv.imp (fun h=>⟨by rw [h.1]; rfl,h.2⟩) id)
 have hxs:=run_more (P:=P) (w:=w) (size:=i.size) (m:=xs.length) (mcap:=cap) (xb:=base) hlx (by
  rcases hsv with ⟨h1,_⟩ | ⟨b,h1,_,_,h2⟩
  ·exact .inl ⟨by rw [h1]; rfl,by rw [h1] at hx; exact hx.nil_inv⟩
  exact .inr ⟨b,0,h1,fun k v hk=>by rw [Nat.zero_add]; exact h2 k v hk⟩)
 have hd':lookA st.seg e=none∨∃ u f,lookA st.seg e=some (.row u f):=hd.elim (fun h=>.inr ⟨_,_,h⟩) .inl
 have hsame:l0.setTok e=l0.setTok e:=rfl
 have hup:∀ {t:Tk} {w2:World} {V2:Nat→Nat→Prop} {st2:St S},SRx gl En x w2 V2 (l.setTok e t) (l0.setTok e t) ts st2→SR gl En x w2 V2 (l.setTok e t) ts st2:=fun h =>
  ⟨Loc.le_refl _,h.cb.mono rfl rfl (fun d b _ e=>h.le.own d b e) (fun _ _ h=>h) (fun _ _ _=>rfl),h.inv,h.g,h.vlt,h.vem,h.sz,fun i c hi=>(h.tmps i c hi).more (fun _ _ h=>h) h.le,fun d ao hd=>by
   have:=h.seg d ao hd
   cases ao with
   | cells cs=>obtain ⟨b,hb,c,el,h1,h2,h3⟩:=this; exact ⟨b,hb,c,el,h1,h2.more (fun _ _ h=>h) h.le,h3⟩
   | frz cs=>exact this
   | row u f=>exact this
   | mpz ks us=>exact this
   | mp kvs=>exact this,fun d ao hd=>by
   have:=h.up d ao hd
   cases ao with
   | cells cs=>obtain ⟨b,hb,c,el,h1,h2,h3⟩:=this; exact ⟨b,hb,c,el,h1,h2.more (fun _ _ h=>h) (Loc.notok_le h.le),h3⟩
   | frz cs=>exact this
   | row u f=>exact this
   | mpz ks us=>exact this
   | mp kvs=>exact this,h.rego,h.regt,h.mine,h.dis⟩
 by_cases hroom:xs.length+ys.length≤cap
 ·
  rcases hsv with ⟨rfl,rfl,hno⟩ | ⟨b,rfl,ht,hdr,hcx⟩
  ·
   have hy0:ys=[]:=by cases ys with
    | nil=>rfl
    | cons=>simp at hroom
   subst hy0
   have hw0:wsy=[]:=hy.nil_inv
   subst hw0
   have hrun:(Builtin.append_ (sT :: xT :: rest).toArray type #[.slice base 0 0,.slice xb 0 mcap]).run P w=.ok (.slice base 0 0) w:=by
    obtain ⟨e',hx'⟩:=hty.x
    have hys0:=hys w (fun _=>rfl)
    simp only [Builtin.append_]
    cases base <;> simp [Sem.run_bind,run_underlying hty.s,run_underlying hx',run_sizeOf hty.e,Result.andThen,pure,Builtin.lenOf] at hys0 ⊢ <;> simp [hys0,pure,storeCells]
   have hro:∀ b,(l.setTok e .no).own e=some b→BoxO (.row u f':AO S):=fun b hb=>by
    have:l.own e=some b:=hb
    rw [hs.own_row hd'] at this; cases this
   refine ⟨_,w,V,l.setTok e .no,hrun,hup (hs.turn (Loc.setTok_le hs.le) (Loc.le_setTok h0) (fun _ _=>rfl) (fun k hk=>by simp [Loc.setTok,hk]) rfl rfl (fun _ _ h=>h) (fun _ _ h=>.inl h)
    ⟨.no,by simp [Loc.setTok],trivial⟩ (fun b hm=>?_) hro (fun _ _=>⟨_,_,rfl⟩)),.flat ⟨rfl,by simp [Loc.setTok],base,rfl⟩ (.nil _)⟩
   obtain ⟨n,cap,hm⟩:=hm; simp [Loc.setTok] at hm
  ·
   obtain ⟨t,ht',hro⟩:=hs.seg e _ hdr
   rw [ht] at ht'; cases ht'
   obtain ⟨c,el,h1,h2,h3,h4⟩:=hro
   have hb:=lt_of_heap h1
   have hm:Mut l st false e b:=⟨_,hdr,_,_,ht⟩
   have hfit:xs.length * i.size+wsy.length≤c.size:=by
    rw [hly,hsize,←Nat.add_mul]; exact Nat.le_trans (Nat.mul_le_mul_right _ hroom) h2
   have hrun:=run_append_room (P:=P) (w:=w) (type:=type) (rest:=rest) hty hroom (hys w fun _=>rfl) h1 hfit hpl
   have hctake:c.toList=wsx++((c.toList.drop wsx.length).take wsy.length)++((c.toList.drop wsx.length).drop wsy.length):=by
    rw [List.append_assoc,List.take_append_drop]
    have:wsx=c.toList.take wsx.length:=by
     apply List.ext_getElem?
     intro k
     by_cases hk:k < wsx.length
     ·have h5:=hcx k wsx[k] (by simp [hk])
      rw [cell_of_heap h1] at h5
      rw [List.getElem?_take,if_pos hk]; simp only [Array.getElem?_toList]; rw [h5]; simp [hk]
     rw [List.getElem?_eq_none (by omega),List.getElem?_eq_none (by rw [List.length_take]; omega)]
    conv=>lhs; rw [←List.take_append_drop wsx.length c.toList]
    rw [←this]
   have hlay:=lay_toList c wsx _ _ wsy hctake (by rw [List.length_take,List.length_drop,Array.length_toList (xs:=c)]; have h5:=hfit; rw [←hlx] at h5; omega)
   rw [hlx] at hlay
   have hsz:=lay_size c (xs.length * i.size) wsy
   have hw1:=hs.rowWrite hdr ht h0 (c':=lay c (xs.length * i.size) wsy) h1 hsz (fun o ho=>by
    have h6:(lay c (xs.length * i.size) wsy).toList[o]?=c.toList[o]?:=by
     rw [hlay,hctake,List.append_assoc,List.append_assoc,List.getElem?_append_left ho,List.getElem?_append_left ho]
    simpa using h6)
   have hheap:(putRow w b (lay c (xs.length * i.size) wsy) el).heap[b]?=some (.cells (lay c (xs.length * i.size) wsy) el (0,0)):=by rw [putRow_heap,if_pos ⟨rfl,hb⟩]
   have hcells:∀ k v,(wsx++wsy)[k]?=some v→(putRow w b (lay c (xs.length * i.size) wsy) el).cell? ⟨b,k,none⟩=some v:=fun k v hk=>by
    rw [cell_of_heap hheap]
    have:(lay c (xs.length * i.size) wsy).toList[k]?=some v:=by rw [hlay,List.getElem?_append_left (List.getElem?_eq_some_iff.1 hk).1]; exact hk
    simpa using this
   have hnk:∀ d t,Loc.none.tok d=some t→l0.tok d=some t:=fun d t e=>by simp [Loc.none] at e
   have hVsub:∀ o,V b o→o < wsx.length:=fun o hv=>by
    cases f with
    | true=>exact absurd hv (h4 o)
    | false=>exact (h4 o).1 hv
   have hcellV:∀ b' o,V b' o→eye (putRow w b (lay c (xs.length * i.size) wsy) el) b' o=eye w b' o:=fun b' o hv=>by
    by_cases hbb:b'=b
    ·subst hbb
     have ho:=hVsub o hv
     have h7:=hcells o wsx[o] (by rw [List.getElem?_append_left ho]; simp [ho])
     have h8:=hcx o wsx[o] (by simp [ho])
     rw [cell_of_heap hheap] at h7
     rw [cell_of_heap h1] at h8
     exact eye_cells h1 hheap (h7.trans h8.symm)
    exact cell_congr (by rw [putRow_heap,if_neg]; exact fun e=>hbb e.1) o
   have hrep:∀ {vs:List Value} {es:List (AV S)},Reps w V Loc.none vs es→Reps (putRow w b (lay c (xs.length * i.size) wsy) el) V Loc.none vs es:=fun hr =>
    hr.mono (fun _ _ h=>h) hcellV _ (Loc.le_refl _) fun d b n cap e=>by simp [Loc.none] at e
   have hxy:Reps (putRow w b (lay c (xs.length * i.size) wsy) el) V Loc.none (wsx++wsy) ((xs++ys).flatMap (Cod.enc u)):=by
    rw [List.flatMap_append]; exact (hrep hx).append (hrep hy)
   have hall:∀ k d',Mut l st k d' b→k=false∧d'=e:=fun k d' h=>hs.dis k d' false e b h hm
   have hmo:∀ b',MutO (l.setTok e (.at b (wsx++wsy).length cap)) e (.row u f':AO S) b'→¬ En.E x b'∧gl.g0≤b'∧∀ k d',Mut l st k d' b'→k=false∧d'=e:=by
    rintro b' ⟨n,cap',hm'⟩
    simp only [Loc.setTok,if_true] at hm'
    cases hm'
    exact ⟨(hs.mine _ _ _ hm).1,(hs.mine _ _ _ hm).2,hall⟩
   have hrown:∀ b',(l.setTok e (.at b (wsx++wsy).length cap)).own e=some b'→BoxO (.row u f':AO S):=fun b' hb'=>by
    have:l.own e=some b':=hb'
    rw [hs.own_row hd'] at this; cases this
   have hused:(wsx++wsy).length≤cap * Cod.size u:=by
    rw [List.length_append,hlx,hly,hsize,←Nat.add_mul]; exact Nat.mul_le_mul_right _ hroom
   have hval:(Value.slice (some ⟨b,0,none⟩) (xs.length+ys.length) cap)=.slice (some ⟨b,0,none⟩) (xs++ys).length cap:=by rw [List.length_append]
   have htok:(l.setTok e (.at b (wsx++wsy).length cap)).tok e=some (.at b (wsx++wsy).length cap):=by simp [Loc.setTok]
   refine ⟨_,_,fun b' o=>V b' o∨(f'=false∧b'=b∧o < (wsx++wsy).length),l.setTok e (.at b (wsx++wsy).length cap),hrun,
    hup (hw1.turn (Loc.setTok_le hs.le) (Loc.le_setTok h0) (fun _ _=>rfl) (fun k hk=>by simp [Loc.setTok,hk]) rfl rfl (fun _ _ h=>.inl h)
     (fun b' o hv=>hv.imp id fun hv=>by rw [hv.2.1]; exact ⟨by rw [putRow_size]; exact hb,(hs.mine _ _ _ hm).1,hall⟩)
     ⟨_,htok,_,el,hheap,by rw [hsz]; exact h2,hused,?_⟩ hmo hrown (fun _ _=>⟨_,_,rfl⟩)),?_⟩
   ·cases f' with
    | true =>
     have hff:f=true:=by rcases hf with h | h <;> cases h; rfl
     subst hff
     exact fun o hv=>hv.elim (h4 o) fun h=>by cases h.1
    | false=>exact fun o=>⟨fun hv=>hv.elim (fun hv=>by have:=hVsub o hv; rw [List.length_append]; omega) fun hv=>hv.2.2,fun ho=>.inr ⟨rfl,rfl,ho⟩⟩
   rw [hval]
   exact .tok (by simp [Loc.setTok]) hcells (hxy.more (fun _ _ h=>.inl h) (Loc.le_refl _)) (by rw [List.length_append]; exact hroom) (.nil _)
 ·
  obtain ⟨nc,tail,hnc,htl,hrun⟩:=run_append_grows (P:=P) (w:=w) (type:=type) (rest:=rest) hty (Nat.lt_of_not_le hroom) hlim hys hxs
  have hg:Grow w (w.drew.alloc (.cells (wsx++wsy++tail:List Value).toArray elem)):=Grow.trans (b:=w.drew) ⟨rfl,rfl,rfl,Nat.le_refl _,fun _ _=>rfl⟩ (Grow.alloc _ _)
  have hheap:(w.drew.alloc (.cells (wsx++wsy++tail:List Value).toArray elem)).heap[w.heap.size]?=some (.cells (wsx++wsy++tail:List Value).toArray elem (0,0)):=heap_alloc_new w.drew _
  obtain ⟨V',h1,h2⟩:=hs.newRow hg hheap hd' h0 (u:=u) (xs:=xs++ys) f' (cap:=nc) (ws:=wsx++wsy) (tail:=tail) (by simp) (by rw [List.flatMap_append]; exact hx.append hy)
   (by simp only [List.size_toArray,List.length_append]; rw [htl,hlx,hly,hsize,←Nat.add_mul,←Nat.add_mul]; exact Nat.mul_le_mul_right _ (by omega)) (by rw [List.length_append]; exact hnc)
  refine ⟨_,_,V',_,hrun,hup h1,?_⟩
  have h3:=h2.more (fun _ _ h=>h) h1.le
  have hval:(Value.slice (some ⟨w.heap.size,0,none⟩) (xs.length+ys.length) nc)=.slice (some ⟨w.heap.size,0,none⟩) (xs++ys).length nc:=by rw [List.length_append]
  rw [hval]
  exact h3
end Go.Ab
namespace Go.Ab
open Go
variable {S:Sig} [Cod S]
variable {X:Type} {gl:Gl} {En:Env X} {x:X} {w w1 w':World} {V V':Nat→Nat→Prop} {l l0:Loc} {ts:Array Value} {st:St S}
theorem Rep.slTok {v:Value} {u:S.U} {xs:List (S.T u)} {e:Nat} (h:Rep w V l v (.sl u xs (some e))) :
  ∃ base cap ws,v=.slice base xs.length cap∧Reps w V Loc.none ws (xs.flatMap (Cod.enc u)) ∧
   ((xs=[]∧cap=0∧l.tok e=some .no)∨∃ b,base=some ⟨b,0,none⟩∧l.tok e=some (.at b ws.length cap)∧∀ k v,ws[k]?=some v→w.cell? ⟨b,k,none⟩=some v):=by
 unfold Rep at h
 generalize hvs:[v]=vs at h
 cases h with
 | flat h t =>
  cases hvs
  obtain ⟨hx,ht,base,hv⟩:=h
  subst hx
  exact ⟨base,0,[],hv,.nil _,.inl ⟨rfl,rfl,ht⟩⟩
 | tok ht h r hcp t=>cases hvs; exact ⟨_,_,_,rfl,r,.inr ⟨_,rfl,ht,h⟩⟩
theorem memb_one {d e:Nat} (h:memb [e] d=true):d=e:=by
 simp only [memb] at h
 cases hb:Nat.beq e d with
 | true=>exact (Nat.eq_of_beq_eq_true hb).symm
 | false=>simp [hb] at h
variable [LawCod S]
omit [LawCod S] in
theorem castL_elim {u v:S.U} {xs:List (S.T u)} {K:List (S.T v)→Prop} (h:castL u v xs K):∃ (e:u=v),K (e ▸ xs):=by
 unfold castL at h
 cases hu:Cod.ueq u v with
 | isFalse hne=>rw [hu] at h; exact h.elim
 | isTrue he=>rw [hu] at h; exact ⟨he,h⟩
theorem append_held {P:Program} {sT xT elem:TypeId} {i:TypeInfo} {z:Value} {type:TypeId} {rest:List TypeId} {u:S.U} (hty:AppTy P sT xT elem i z (Cod.lim u)) (hsize:i.size=Cod.size u)
  {e:Nat} (hs:SR gl En x w V l ts st) {f f':Bool} (hd:lookA st.seg e=some (.row u f)) (hf:f'=f∨f'=false) (hsh:Shared V l [e])
  {xs ys:List (S.T u)} (hlim:xs.length+ys.length≤Cod.lim u) {sv yv:Value} (hsv:Rep w V l sv (.sl u xs (some e)))
  {xb:Option Addr} {mcap:Nat} {wsy:List Value} (hyw:yv=.slice xb ys.length mcap) (hy:Reps w V Loc.none wsy (ys.flatMap (Cod.enc u)))
  (hyv:(ys=[]∧wsy=[])∨∃ b off,xb=some ⟨b,off,none⟩∧∀ k v,wsy[k]?=some v→w.cell? ⟨b,off+k,none⟩=some v)
  {K:St S→Prop} (h:letAllK [e] st fun st'=>putK st'.seg e (.row u f') fun sg=>K { st' with seg:=sg }) :
  ∃ v w' st' V' l',(Builtin.append_ (sT :: xT :: rest).toArray type #[sv,yv]).run P w=.ok v w' ∧
   K st'∧SR gl En x w' V' l' ts st'∧Rep w' V' l' v (.sl u (xs++ys) (some e)):=by
 obtain ⟨st',h,_,hrow,hlet⟩:=letAllK_elim h
 simp only [putK_eq] at h
 have hs':=hlet hsh hs
 obtain ⟨base,cap,wsx,rfl,hx,hxv⟩:=hsv.slTok
 have h0:(l.untok [e]).tok e=none:=by simp [Loc.untok,memb]
 have hd':lookA st'.seg e=some (.row u f):=by rw [hrow e ⟨_,_,hd⟩]; exact hd
 have hpl:=plain_of hy (all_flatMap_cell ys)
 subst hyw
 obtain ⟨v,w',V',l',h1,h2,h3⟩:=append_core (rest:=rest) (type:=type) hty hsize hs' h0 hlim (.inl hd') hf hx (hxv.imp (fun h=>⟨h.1,h.2.1,.inl h.2.2⟩) fun ⟨b,h1,h2,h3⟩=>⟨b,h1,h2,hd',h3⟩) hy hyv hpl
 exact ⟨v,w',_,V',l',h1,h,h2,h3⟩
where
 all_flatMap_cell {u:S.U} (ys:List (S.T u)):(ys.flatMap (Cod.enc u)).all cellOk=true:=by
  induction ys with
  | nil=>rfl
  | cons y ys ih=>simp only [List.flatMap_cons,List.all_append,LawCod.cell,ih,Bool.and_self]
theorem append_ok {P:Program} {sT xT elem:TypeId} {i:TypeInfo} {z:Value} {type:TypeId} {rest:List TypeId} {u:S.U} (hty:AppTy P sT xT elem i z (Cod.lim u)) (hsize:i.size=Cod.size u)
  {d:Nat} {s y:AV S} {K:AV S→St S→Prop} (hs:SR gl En x w V l ts st) {sv yv:Value} (hsv:Rep w V l sv s) (hyv:Rep w V l yv y) (h:appendK d u s y st K) :
  ∃ v w' c st' V' l',(Builtin.append_ (sT :: xT :: rest).toArray type #[sv,yv]).run P w=.ok v w' ∧
   K c st'∧SR gl En x w' V' l' ts st'∧Rep w' V' l' v c:=by
 unfold appendK at h
 cases s with
 | nils =>
  simp only at h
  obtain ⟨ys,h,hy⟩:=moreK_elim h
  obtain ⟨hlim,fr,h⟩:=h
  rw [findK_eq] at h
  cases hl:lookA st.seg d with
  | some ao=>rw [hl] at h; exact h.elim
  | none =>
   rw [hl] at h
   simp only [putK_eq] at h
   obtain ⟨xb,mcap,wsy,rfl,hyr,hyc⟩:=hy _ _ _ _ hyv
   obtain ⟨base,hbase⟩:=hsv.nils
   rw [hbase]
   obtain ⟨v,w',V',l',h1,h2,h3⟩:=append_core (rest:=rest) (type:=type) (f:=fr) (f':=fr) (e:=d) (xs:=[]) (cap:=0) (base:=base) (wsx:=[]) hty hsize hs (hs.own_none hl).2
    (by simpa using hlim) (.inr hl) (.inl rfl) (.nil _) (.inl ⟨rfl,rfl,.inr hl⟩) hyr hyc (plain_of hyr (append_held.all_flatMap_cell ys))
   exact ⟨v,w',_,_,V',l',h1,h,h2,h3⟩
 | sl v xs o =>
  cases o with
  | none=>exact h.elim
  | some e =>
   simp only at h
   obtain ⟨he,h⟩:=castL_elim h
   subst he
   obtain ⟨ys,h,hy⟩:=moreK_elim h
   obtain ⟨hlim,h⟩:=h
   rw [findK_eq] at h
   obtain ⟨xb,mcap,wsy,hyw,hyr,hyc⟩:=hy _ _ _ _ hyv
   cases hl:lookA st.seg e with
   | none=>rw [hl] at h; exact h.elim
   | some ao =>
    rw [hl] at h
    cases ao with
    | cells cs=>exact h.elim
    | frz cs=>exact h.elim
    | mp kvs=>exact h.elim
    | mpz ks us=>exact h.elim
    | row u' f =>
     simp only at h
     cases hu:Cod.ueq u' v with
     | isFalse hne=>rw [hu] at h; exact h.elim
     | isTrue he =>
     rw [hu] at h
     subst he
     simp only at h
     obtain ⟨t,ht,hro⟩:=hs.seg e _ hl
     cases f with
     | false =>
      obtain ⟨v,w',st',V',l',h1,h2,h3,h4⟩:=append_held (rest:=rest) (type:=type) (K:=fun st'=>K (.sl u' (xs++ys) (some e)) st') hty hsize hs hl (.inl rfl) (fun d' hd' b n cap ht' o ho=>by
       obtain rfl:d'=e:=memb_one hd'
       rw [ht] at ht'; cases ht'
       obtain ⟨c,el,h5,h6,h7,h8⟩:=hro
       exact (h8 o).2 ho) hlim hsv hyw hyr hyc h
      exact ⟨v,w',_,_,V',l',h1,h2,h3,h4⟩
     | true =>
      cases xs with
      | nil =>
       obtain ⟨v,w',st',V',l',h1,h2,h3,h4⟩:=append_held (rest:=rest) (type:=type) (K:=fun st'=>K (.sl u' ys (some e)) st') hty hsize hs hl (.inl rfl) (fun d' hd' b n cap ht' o ho=>by
        obtain rfl:d'=e:=memb_one hd'
        obtain ⟨base,cap',ws,_,h5,h6⟩:=hsv.slTok
        rw [h5.nil_inv] at h6
        rcases h6 with ⟨_,_,h6⟩ | ⟨b',_,h6,_⟩
        ·rw [ht'] at h6; cases h6
        rw [ht'] at h6; cases h6; exact absurd ho (Nat.not_lt_zero _)) hlim hsv hyw hyr hyc h
       exact ⟨v,w',_,_,V',l',h1,h2,h3,h4⟩
      | cons x0 xs =>
       simp only at h
       rw [putK_eq] at h
       obtain ⟨V1,hV1,hs1,_,hp1⟩:=(publish hl).out hs
       obtain ⟨v,w',st',V',l',h1,h2,h3,h4⟩:=append_held (rest:=rest) (type:=type) (st:={ st with seg:=putA st.seg e (.row u' false) }) (K:=fun st'=>K (.sl u' (x0 :: xs++ys) (some e)) st') hty hsize hs1
        (by rw [lookA_putA,if_pos rfl]) (.inl rfl) (fun d' hd' b n cap ht' o ho=>by
         obtain rfl:d'=e:=memb_one hd'
         exact hp1 _ _ _ ht' o ho) hlim (hsv.more hV1 (Loc.le_refl _)) hyw (hyr.more hV1 (Loc.le_refl _)) hyc h
       exact ⟨v,w',_,_,V',l',h1,h2,h3,h4⟩
 | _=>exact h.elim
theorem append_own {P:Program} {sT xT elem:TypeId} {i:TypeInfo} {z:Value} {type:TypeId} {rest:List TypeId} {u:S.U} (hty:AppTy P sT xT elem i z (Cod.lim u)) (hsize:i.size=Cod.size u)
  {e:Nat} (hs:SR gl En x w V l ts st) {f f':Bool} (hd:lookA st.seg e=some (.row u f)) (hf:f'=f∨f'=false)
  {xs ys:List (S.T u)} (hlim:xs.length+ys.length≤Cod.lim u) {sv yv:Value} (hsv:Rep w V l sv (.sl u xs (some e)))
  {xb:Option Addr} {mcap:Nat} {wsy:List Value} (hyw:yv=.slice xb ys.length mcap) (hy:Reps w V Loc.none wsy (ys.flatMap (Cod.enc u)))
  (hyv:(ys=[]∧wsy=[])∨∃ b off,xb=some ⟨b,off,none⟩∧∀ k v,wsy[k]?=some v→w.cell? ⟨b,off+k,none⟩=some v)
  {K:St S→Prop} (h:undAllK [e] st fun st'=>putK st'.seg e (.row u f') fun sg=>K { st' with seg:=sg }) :
  ∃ v w' st' V' l',(Builtin.append_ (sT :: xT :: rest).toArray type #[sv,yv]).run P w=.ok v w' ∧
   K st'∧SR gl En x w' V' l' ts st'∧Rep w' V' l' v (.sl u (xs++ys) (some e)):=by
 obtain ⟨st',h,hrow,hlet⟩:=undAllK_elim h
 simp only [putK_eq] at h
 have hs':=hlet hs
 obtain ⟨base,cap,wsx,rfl,hx,hxv⟩:=hsv.slTok
 have h0:(l.untok [e]).tok e=none:=by simp [Loc.untok,memb]
 have hd':lookA st'.seg e=some (.row u f):=by rw [hrow e ⟨_,_,hd⟩]; exact hd
 have hpl:=plain_of hy (append_held.all_flatMap_cell ys)
 subst hyw
 obtain ⟨v,w',V',l',h1,h2,h3⟩:=append_core (rest:=rest) (type:=type) hty hsize hs' h0 hlim (.inl hd') hf hx (hxv.imp (fun h=>⟨h.1,h.2.1,.inl h.2.2⟩) fun ⟨b,h1,h2,h3⟩=>⟨b,h1,h2,hd',h3⟩) hy hyv hpl
 exact ⟨v,w',_,V',l',h1,h,h2,h3⟩
theorem appendO_ok {P:Program} {sT xT elem:TypeId} {i:TypeInfo} {z:Value} {type:TypeId} {rest:List TypeId} {u:S.U} (hty:AppTy P sT xT elem i z (Cod.lim u)) (hsize:i.size=Cod.size u)
  {d:Nat} {s y:AV S} {K:AV S→St S→Prop} (hs:SR gl En x w V l ts st) {sv yv:Value} (hsv:Rep w V l sv s) (hyv:Rep w V l yv y) (h:appendO d u s y st K) :
  ∃ v w' c st' V' l',(Builtin.append_ (sT :: xT :: rest).toArray type #[sv,yv]).run P w=.ok v w' ∧
   K c st'∧SR gl En x w' V' l' ts st'∧Rep w' V' l' v c:=by
 unfold appendO at h
 cases s with
 | sl v xs o =>
  cases o with
  | none=>exact h.elim
  | some e =>
   simp only at h
   obtain ⟨he,h⟩:=castL_elim h
   subst he
   obtain ⟨ys,h,hy⟩:=moreK_elim h
   obtain ⟨hlim,h⟩:=h
   rw [findK_eq] at h
   obtain ⟨xb,mcap,wsy,hyw,hyr,hyc⟩:=hy _ _ _ _ hyv
   cases hl:lookA st.seg e with
   | none=>rw [hl] at h; exact h.elim
   | some ao =>
    rw [hl] at h
    cases ao with
    | cells cs=>exact h.elim
    | frz cs=>exact h.elim
    | mp kvs=>exact h.elim
    | mpz ks us=>exact h.elim
    | row u' f =>
     simp only at h
     cases hu:Cod.ueq u' v with
     | isFalse hne=>rw [hu] at h; exact h.elim
     | isTrue he =>
     rw [hu] at h
     subst he
     simp only at h
     obtain ⟨t,ht,hro⟩:=hs.seg e _ hl
     cases f with
     | false =>
      obtain ⟨v,w',st',V',l',h1,h2,h3,h4⟩:=append_held (rest:=rest) (type:=type) (K:=fun st'=>K (.sl u' (xs++ys) (some e)) st') hty hsize hs hl (.inl rfl) (fun d' hd' b n cap ht' o ho=>by
       obtain rfl:d'=e:=memb_one hd'
       rw [ht] at ht'; cases ht'
       obtain ⟨c,el,h5,h6,h7,h8⟩:=hro
       exact (h8 o).2 ho) hlim hsv hyw hyr hyc h
      exact ⟨v,w',_,_,V',l',h1,h2,h3,h4⟩
     | true =>
      obtain ⟨v,w',st',V',l',h1,h2,h3,h4⟩:=append_own (rest:=rest) (type:=type) (K:=fun st'=>K (.sl u' (xs++ys) (some e)) st') hty hsize hs hl (.inl rfl) hlim hsv hyw hyr hyc h
      exact ⟨v,w',_,_,V',l',h1,h2,h3,h4⟩
 | _=>exact append_ok hty hsize hs hsv hyv h
end Go.Ab
namespace Go.Ab
open Go
variable {S:Sig} [Cod S]
variable {X:Type} {gl:Gl} {En:Env X} {x:X} {w w1 w':World} {V V':Nat→Nat→Prop} {l l0:Loc} {ts:Array Value} {st:St S}
def VOK (P:Program) (gl:Gl) (En:Env X) (a:Act) (w:World) (s:Sem Value) (K:AV S→St S→X→Prop):Prop :=
 ∃ v w',s.run P w=.ok v w'∧Res gl En a K v w'
variable {P:Program} {par:Par S X} {a:Act} {K:AV S→St S→X→Prop}
theorem VOK.here (hs:SR gl En x w V l a.tmps st) {s:Sem Value} {v:Value} {c:AV S} (hr:s.run P w=.ok v w) (hK:K c st x) (hv:Rep w V l v c):VOK P gl En a w s K :=
 ⟨v,w,hr,c,st,x,V,l,hK,hs,hv⟩
theorem Rep.flat1 {v:Value} {c:AV S} (h:Flat l v c):Rep w V l v c:=.flat h (.nil _)
theorem assign_ok (htis:TisOk P par.ti) {d t:Nat} {y:Operand} (hs:SR gl En x w V l a.tmps st)
  (h:evK st.tmps y fun v=>match v with
  | .nils => match par.nk with
   | true => ∃ keep:Bool,match keep with
    | true=>K .nils st x
    | false =>
     tyK par t fun ty=>match ty.kind with
       | .slice u _ _=>findK st.seg d (putK st.seg d (.row u true) fun sg=>K (.sl u [] (some d)) { st with seg:=sg } x) fun ao=>match par.nl with
        | true=>match ao with
         | .row _ _=>undAllK [d] st fun st'=>putK st'.seg d (.row u true) fun sg=>K (.sl u [] (some d)) { st' with seg:=sg } x
         | _=>False
        | false=>findK st.seg (d+900000) (putK st.seg (d+900000) (.row u true) fun sg=>K (.sl u [] (some (d+900000))) { st with seg:=sg } x) fun _=>K (.sl u [] none) st x
       | _=>False
   | false =>
   tyK par t fun ty=>match ty.kind with
     | .slice u _ _=>findK st.seg d (putK st.seg d (.row u true) fun sg=>K (.sl u [] (some d)) { st with seg:=sg } x) fun ao=>match par.nl with
      | true=>match ao with
       | .row _ _=>undAllK [d] st fun st'=>putK st'.seg d (.row u true) fun sg=>K (.sl u [] (some d)) { st' with seg:=sg } x
       | _=>False
      | false=>findK st.seg (d+900000) (putK st.seg (d+900000) (.row u true) fun sg=>K (.sl u [] (some (d+900000))) { st with seg:=sg } x) fun _=>K (.sl u [] none) st x
     | _=>False
  | v=>K v st x):VOK P gl En a w (pure (a.eval y)) K:=by
 obtain ⟨c,h,hc⟩:=evK_elim hs h
 by_cases hn:c=.nils
 ·subst hn
  simp only at h
  have h:K .nils st x∨(tyK par t fun ty=>match ty.kind with
   | .slice u _ _=>findK st.seg d (putK st.seg d (.row u true) fun sg=>K (.sl u [] (some d)) { st with seg:=sg } x) fun ao=>match par.nl with
    | true=>match ao with
     | .row _ _=>undAllK [d] st fun st'=>putK st'.seg d (.row u true) fun sg=>K (.sl u [] (some d)) { st' with seg:=sg } x
     | _=>False
    | false=>findK st.seg (d+900000) (putK st.seg (d+900000) (.row u true) fun sg=>K (.sl u [] (some (d+900000))) { st with seg:=sg } x) fun _=>K (.sl u [] none) st x
   | _=>False):=by
   cases hnk:par.nk with
   | true =>
    rw [hnk] at h
    obtain ⟨b,h⟩:=h
    cases b with
    | true=>exact .inl h
    | false=>exact .inr h
   | false=>rw [hnk] at h; exact .inr h
  rcases h with h | h
  ·exact ⟨_,w,rfl,_,_,_,_,_,h,hs,hc⟩
  obtain ⟨ty,h,_⟩:=tyK_elim htis h
  cases hk:ty.kind with
  | slice u b ez =>
   rw [hk] at h
   simp only [putK_eq] at h
   rw [findK_eq] at h
   cases hl:lookA st.seg d with
   | none =>
    rw [hl] at h
    obtain ⟨_,h2⟩:=hs.newTok hl u true
    exact ⟨_,w,rfl,_,_,_,_,_,h,h2,Rep.flat1 ⟨rfl,by simp [Loc.setTok],hc.nils⟩⟩
   | some ao =>
    rw [hl] at h
    cases hnl:par.nl with
    | true =>
     rw [hnl] at h
     cases ao with
     | row u' f =>
      simp only at h
      obtain ⟨st',h,hrow,hlet⟩:=undAllK_elim h
      have hs':=hlet hs
      have h0:(l.untok [d]).tok d=none:=by simp [Loc.untok,memb]
      have ht:(l.setTok d .no).tok d=some .no:=by simp [Loc.setTok]
      refine ⟨_,w,rfl,_,_,_,V,l.setTok d .no,h,hs'.turn (Loc.le_refl _) (Loc.le_trans (b:=(l.untok [d]).setTok d .no) (Loc.le_setTok h0) (Loc.setTok_le (Loc.untok_le l [d]))) (fun _ _=>rfl) (fun k hk=>by simp [Loc.setTok,hk]) rfl rfl
       (fun _ _ h=>h) (fun _ _ h=>.inl h) ⟨.no,ht,trivial⟩ (fun b hm=>?_) (fun b hb=>?_) (fun _ _=>⟨_,_,rfl⟩),Rep.flat1 ⟨rfl,ht,hc.nils⟩⟩
      ·obtain ⟨n,cap,hm⟩:=hm; rw [ht] at hm; cases hm
      have hb:l.own d=some b:=hb
      rw [hs.own_row (.inr ⟨_,_,hl⟩)] at hb; cases hb
     | _=>exact h.elim
    | false =>
     rw [hnl] at h
     simp only [findK_eq] at h
     cases hl2:lookA st.seg (d+900000) with
     | none =>
      rw [hl2] at h
      obtain ⟨_,h2⟩:=hs.newTok hl2 u true
      exact ⟨_,w,rfl,_,_,_,_,_,h,h2,Rep.flat1 ⟨rfl,by simp [Loc.setTok],hc.nils⟩⟩
     | some ao=>rw [hl2] at h; exact ⟨_,w,rfl,_,_,_,_,_,h,hs,Rep.flat1 (by obtain ⟨base,hb⟩:=hc.nils; exact ⟨rfl,base,0,hb⟩)⟩
  | _=>rw [hk] at h; exact h.elim
 have h:K c st x:=by
  cases c <;> first | exact h | exact absurd rfl hn
 exact ⟨_,w,rfl,_,_,_,_,_,h,hs,hc⟩
theorem pick_ok {c y z:Operand} (hs:SR gl En x w V l a.tmps st)
  (h:evK st.tmps c fun cv=>evK st.tmps y fun av=>evK st.tmps z fun bv=>match cv with
  | .bool t=>match av,bv with
   | .bool p,.bool q=>K (.bool (cond t p q)) st x
   | av,bv=>bcase t (K av st x) (K bv st x)
  | _=>False):VOK P gl En a w (do pure (if ←asBool (a.eval c) then a.eval y else a.eval z)) K:=by
 obtain ⟨cc,h,hc⟩:=evK_elim hs h
 obtain ⟨cy,h,hy⟩:=evK_elim hs h
 obtain ⟨cz,h,hz⟩:=evK_elim hs h
 cases cc with
 | bool t =>
  simp only at h
  have hg:bcase t (K cy st x) (K cz st x)→VOK P gl En a w (do Pure.pure (if ←asBool (a.eval c) then a.eval y else a.eval z)) K:=fun h=>by
   rw [hc.bool]
   cases t with
   | true=>exact ⟨_,w,by simp [asBool,Pure.pure],_,_,_,_,_,h,hs,hy⟩
   | false=>exact ⟨_,w,by simp [asBool,Pure.pure],_,_,_,_,_,h,hs,hz⟩
  by_cases hb:∃ p q,cy=.bool p∧cz=.bool q
  ·obtain ⟨p,q,rfl,rfl⟩:=hb
   apply hg
   cases t <;> exact h
  apply hg
  cases cy <;> try exact h
  cases cz <;> first | exact h | exact absurd ⟨_,_,rfl,rfl⟩ hb
 | _=>exact h.elim
theorem nilCheck_ok {y:Operand} (hs:SR gl En x w V l a.tmps st)
  (h:evK st.tmps y fun v=>match v with
  | .ref _=>K v st x
  | .own _ _=>K v st x
  | .up _ _=>K v st x
  | .elp ..=>K v st x
  | _=>False):∃ ad,a.eval y=.pointer (some ad)∧Res gl En a K (a.eval y) w:=by
 obtain ⟨c,h,hc⟩:=evK_elim hs h
 cases c <;> try exact h.elim
 case ref cs=>obtain ⟨b,o,ws,hv,_⟩:=hc.ref; exact ⟨_,hv,_,_,_,_,_,h,hs,hc⟩
 case own d q=>obtain ⟨b,_,hv⟩:=hc.own; exact ⟨_,hv,_,_,_,_,_,h,hs,hc⟩
 case up d q=>obtain ⟨b,_,hv⟩:=hc.up; exact ⟨_,hv,_,_,_,_,_,h,hs,hc⟩
 case elp u d i q=>obtain ⟨b,_,_,_,hv⟩:=hc.elp; exact ⟨_,hv,_,_,_,_,_,h,hs,hc⟩
theorem binTK_run {op:BinOp} {t:TypeId} {y z:Operand} [LawCod S] (htis:TisOk P par.ti) (heq:EqtOk P par.eqt) {c d:AV S} {v u:Value} {K:AV S→Prop} (h:binTK par op t c d K) (hv:Rep w V l v c) (hu:Rep w V l u d) :
  ∃ e r,K e∧Rep w V l r e∧(do eqGuard op t y z v u; binOp op t v u:Sem Value).run P w=.ok r w:=by
 by_cases hc:∃ xs,c=.agg xs
 ·obtain ⟨xs,rfl⟩:=hc
  cases d <;> try exact h.elim
  case agg ys =>
   cases op <;> try exact h.elim
   case eql=>obtain ⟨b,hb,h⟩:=h; exact ⟨_,_,h,Rep.flat1 rfl,(heq _ _ _ _ hb _ _ _ _ _ _ _ hv hu).1⟩
   case neq=>obtain ⟨b,hb,h⟩:=h; exact ⟨_,_,h,Rep.flat1 rfl,(heq _ _ _ _ hb _ _ _ _ _ _ _ hv hu).2⟩
 by_cases hcb:∃ p,c=.bool p
 ·obtain ⟨p,rfl⟩:=hcb
  cases d <;> try exact h.elim
  case bool q =>
   obtain ⟨ty,h,hty⟩:=tyK_elim htis h
   obtain rfl:=hv.bool
   obtain rfl:=hu.bool
   have hkind:=hty.kind
   cases hk:ty.kind <;> rw [hk] at h hkind <;> try exact h.elim
   have hd:∀ d,(Op.equalIn (d+1) t (.bool p) (.bool q)).run P w=.ok (p==q) w:=fun d=>by
    simp only [Op.equalIn,Sem.run_bind,run_underlying hkind,Result.andThen]; rfl
   have he:(Op.equal t (.bool p) (.bool q)).run P w=.ok (p==q) w:=hd (Op.maxDepth - 1)
   have hg:∀ op,(eqGuard op t y z (.bool p) (.bool q)).run P w=.ok () w:=fun op=>by unfold eqGuard; cases op <;> simp [pure]
   cases op <;> try exact h.elim
   ·exact ⟨_,.bool _,h,Rep.flat1 rfl,by simp only [Sem.run_bind,hg,Result.andThen,binOp,he]; rfl⟩
   exact ⟨_,.bool _,h,Rep.flat1 rfl,by simp only [Sem.run_bind,hg,Result.andThen,binOp,he]; rfl⟩
 have hb:binTK par op t c d K=binK op c d K:=by cases c <;> first | rfl | exact absurd ⟨_,rfl⟩ hc | exact absurd ⟨_,rfl⟩ hcb
 rw [hb] at h
 exact binK_run h hv hu
theorem binOp_ok {op:BinOp} {t:TypeId} {y z:Operand} [LawCod S] (htis:TisOk P par.ti) (heq:EqtOk P par.eqt) (hs:SR gl En x w V l a.tmps st)
  (h:evK st.tmps y fun av=>evK st.tmps z fun bv=>binTK par op t av bv fun v=>K v st x) :
  VOK P gl En a w (do eqGuard op t y z (a.eval y) (a.eval z); binOp op t (a.eval y) (a.eval z)) K:=by
 obtain ⟨cy,h,hy⟩:=evK_elim hs h
 obtain ⟨cz,h,hz⟩:=evK_elim hs h
 obtain ⟨e,r,h1,h2,h3⟩:=binTK_run (y:=y) (z:=z) htis heq h hy hz
 exact ⟨_,w,h3,_,_,_,_,_,h1,hs,h2⟩
theorem nilOp_eval {z:Operand} (hz:nilOpB z=true):a.eval z=.slice none 0 0:=by
 unfold nilOpB at hz
 split at hz
 ·split at hz
  ·rfl
  cases hz
 cases hz
theorem nilBin_ok {op:BinOp} {t:TypeId} {y z:Operand} (htis:TisOk P par.ti) (hs:SR gl En x w V l a.tmps st) (hz:nilOpB z=true)
  (h:evK st.tmps y fun av=>nilBinK par op t av fun v=>K v st x) :
  VOK P gl En a w (do eqGuard op t y z (a.eval y) (a.eval z); binOp op t (a.eval y) (a.eval z)) K:=by
 obtain ⟨c,h,hc⟩:=evK_elim hs h
 have hze:a.eval z=.slice none 0 0:=nilOp_eval hz
 cases c with
 | sl u xs o =>
  unfold nilBinK at h
  simp only at h
  obtain ⟨ty,h,hty⟩:=tyK_elim htis h
  have hkind:=hty.kind
  cases hk:ty.kind <;> rw [hk] at h hkind <;> try exact h.elim
  obtain ⟨e,_,_,hu,_⟩:=hkind
  have hv:xs≠[]→∃ ad n cap,a.eval y=.slice (some ad) n cap:=fun hne=>by
   unfold Rep at hc
   generalize hvs:[a.eval y]=vs at hc
   generalize hcs:([AV.sl u xs o]:List (AV S))=cs at hc
   cases hc with
   | flat h t =>
    cases hcs
    cases o with
    | none=>exact absurd h.1 hne
    | some d=>exact absurd h.1 hne
   | sl h r hcp t=>exact ⟨_,_,_,(List.cons.inj hvs).1⟩
   | tok ht h r hcp t=>exact ⟨_,_,_,(List.cons.inj hvs).1⟩
   | _=>cases hcs
  rw [hze]
  have hgo:∀ ad n cap,(Op.equal t (.slice (some ad) n cap) (.slice none 0 0)).run P w=.ok false w:=fun ad n cap=>by
   show (Op.equalIn (Op.maxDepth - 1+1) t _ _).run P w=_
   simp only [Op.equalIn,Sem.run_bind,run_underlying hu,Result.andThen]; rfl
  have hg:∀ op ad n cap,(eqGuard op t y z (.slice (some ad) n cap) (.slice none 0 0)).run P w=.ok () w:=fun op ad n cap=>by unfold eqGuard; cases op <;> simp [pure]
  cases op <;> try exact h.elim
  ·obtain ⟨ad,n,cap,hv⟩:=hv h.1
   rw [hv]
   exact ⟨.bool false,w,by simp only [Sem.run_bind,hg,Result.andThen,binOp,hgo]; rfl,_,_,_,_,_,h.2,hs,Rep.flat1 rfl⟩
  obtain ⟨ad,n,cap,hv⟩:=hv h.1
  rw [hv]
  exact ⟨.bool true,w,by simp only [Sem.run_bind,hg,Result.andThen,binOp,hgo]; rfl,_,_,_,_,_,h.2,hs,Rep.flat1 rfl⟩
 | nil0 =>
  unfold nilBinK at h
  simp only at h
  obtain ⟨ty,h,hty⟩:=tyK_elim htis h
  have hkind:=hty.kind
  cases hk:ty.kind <;> rw [hk] at h hkind <;> try exact h.elim
  obtain ⟨e,_,_,hu,_⟩:=hkind
  have hv:a.eval y=.slice none 0 0:=hc.nil0
  rw [hze,hv]
  have hgo:(Op.equal t (.slice none 0 0) (.slice none 0 0)).run P w=.ok true w:=by
   show (Op.equalIn (Op.maxDepth - 1+1) t _ _).run P w=_
   simp only [Op.equalIn,Sem.run_bind,run_underlying hu,Result.andThen]; rfl
  have hg:∀ op,(eqGuard op t y z (.slice none 0 0) (.slice none 0 0)).run P w=.ok () w:=fun op=>by unfold eqGuard; cases op <;> simp [pure]
  cases op <;> try exact h.elim
  ·exact ⟨.bool true,w,by simp only [Sem.run_bind,hg,Result.andThen,binOp,hgo]; rfl,_,_,_,_,_,h,hs,Rep.flat1 rfl⟩
  exact ⟨.bool false,w,by simp only [Sem.run_bind,hg,Result.andThen,binOp,hgo]; rfl,_,_,_,_,_,h,hs,Rep.flat1 rfl⟩
 | _=>exact h.elim
theorem unOp_ok {op:UnOp} {y:Operand} (hs:SR gl En x w V l a.tmps st)
  (h:evK st.tmps y fun av=>unK op av fun v=>K v st x):VOK P gl En a w (Op.unary op (a.eval y)) K:=by
 obtain ⟨c,h,hc⟩:=evK_elim hs h
 unfold unK at h
 cases op <;> cases c <;> try exact h.elim
 case not.bool b=>rw [hc.bool]; exact ⟨_,w,rfl,_,_,_,_,_,h,hs,Rep.flat1 rfl⟩
 case neg.int k n=>rw [hc.int]; exact ⟨_,w,rfl,_,_,_,_,_,h,hs,Rep.flat1 rfl⟩
theorem convert_ok (htis:TisOk P par.ti) {s t:TypeId} {y:Operand} (hsrc:∃ d,P.underlying s=some d) (hs:SR gl En x w V l a.tmps st)
  (h:tyK par t fun ty=>evK st.tmps y fun av=>match ty.kind,av with
  | .int k,.int _ n=>K (.int k (k.wrap n)) st x
  | .str,.str s=>K (.str s) st x
  | _,_=>False):VOK P gl En a w (convert s t (a.eval y)) K:=by
 obtain ⟨ty,h,hty⟩:=tyK_elim htis h
 obtain ⟨c,h,hc⟩:=evK_elim hs h
 obtain ⟨ds,hds⟩:=hsrc
 have hkind:=hty.kind
 cases hk:ty.kind <;> rw [hk] at h hkind <;> try exact h.elim
 case int k =>
  cases c <;> try exact h.elim
  case int k' n =>
   rw [hc.int]
   exact ⟨_,w,by simp [convert,Sem.run_bind,run_underlying hds,run_underlying hkind,Result.andThen]; rfl,_,_,_,_,_,h,hs,Rep.flat1 rfl⟩
 case str =>
  cases c <;> try exact h.elim
  case str s =>
   rw [hc.str]
   exact ⟨_,w,by simp [convert,Sem.run_bind,run_underlying hds,run_underlying (d:=.string) hkind,Result.andThen,Pure.pure],_,_,_,_,_,h,hs,Rep.flat1 rfl⟩
theorem notok_cap {vs:List Value}:∀ {cs:List (AV S)},Reps w V l vs cs→∀ n,cs.all (capN n)=true→Reps w V l.notok vs cs
 | cs,h=>by
  have hnn:l.notok.notok=l.notok:=rfl
  have hcap:∀ {n:Nat} {c:AV S},capN n c=true→(∀ ds,c≠.agg ds)→capB c=true:=fun {n c} h hne=>by
   cases n with
   | zero=>exact h
   | succ n=>cases c <;> first | exact h | exact absurd rfl (hne _)
  induction h with
  | nil=>exact fun _ _=>.nil _
  | flat h _ ih =>
   intro n hc
   simp only [List.all_cons,Bool.and_eq_true] at hc
   refine .flat ?_ (ih rfl n hc.2)
   rename_i v c vs cs _
   have h1:=hcap hc.1 (fun ds e=>by subst e; exact h.elim)
   cases c with
   | sl u xs o=>cases o with
    | none=>exact h
    | some d=>cases h1
   | _=>first | exact h | cases h1
  | ref h r _ _ ih=>intro n hc; simp only [List.all_cons,Bool.and_eq_true] at hc; exact .ref h r (ih rfl n hc.2)
  | sl h r hcp _ _ ih=>intro n hc; simp only [List.all_cons,Bool.and_eq_true] at hc; exact .sl h r hcp (ih rfl n hc.2)
  | tok ht h r hcp _ _ ih=>intro n hc; simp only [List.all_cons,Bool.and_eq_true] at hc; cases hcap hc.1 (fun ds e=>by cases e)
  | clo r r' _ _ _ ih=>intro n hc; simp only [List.all_cons,Bool.and_eq_true] at hc; exact .clo r r' (ih rfl n hc.2)
  | agg r _ ih1 ih =>
   intro n hc
   simp only [List.all_cons,Bool.and_eq_true] at hc
   cases n with
   | zero=>cases hc.1
   | succ n=>exact .agg (ih1 rfl n hc.1) (ih rfl _ hc.2)
  | tup r _ _ ih=>intro n hc; simp only [List.all_cons,Bool.and_eq_true] at hc; cases hcap hc.1 (fun ds e=>by cases e)
  | arr hx r _ _ ih=>intro n hc; simp only [List.all_cons,Bool.and_eq_true] at hc; cases hcap hc.1 (fun ds e=>by cases e)
  | mpf hv hm hb r r' _ _ _ ih=>intro n hc; simp only [List.all_cons,Bool.and_eq_true] at hc; exact .mpf hv hm hb r r' (ih rfl n hc.2)
theorem makeFunc_ok {fn:Fn} {first caps:Array Operand} (hs:SR gl En x w V l a.tmps st)
  (h:evLK st.tmps first.toList fun f=>evLK st.tmps caps.toList fun c=>match f.all (capN 4)&&c.all (capN 4) with
  | true=>K (.clo fn f c) st x
  | false=>False):VOK P gl En a w (Instr.makeFunc fn (first.map a.eval) (caps.map a.eval)) K:=by
 obtain ⟨cf,h,_,hf⟩:=evLK_elim hs h
 obtain ⟨cc,h,_,hc⟩:=evLK_elim hs h
 cases hb:cf.all (capN 4)&&cc.all (capN 4) with
 | false=>rw [hb] at h; exact h.elim
 | true =>
  rw [hb] at h
  simp only [Bool.and_eq_true] at hb
  exact ⟨_,w,rfl,_,_,_,_,_,h,hs,Reps.clo (by simpa using notok_cap hf 4 hb.1) (by simpa using notok_cap hc 4 hb.2) (.nil _)⟩
theorem All2.get {α β:Type} {R:α→β→Prop} {l:List α} {m:List β} (h:All2 R l m):∀ i:Nat,(l[i]?=none∧m[i]?=none)∨∃ a b,l[i]?=some a∧m[i]?=some b∧R a b:=by
 induction h with
 | nil=>exact fun i=>.inl ⟨rfl,rfl⟩
 | cons hr _ ih=>exact fun i=>match i with
  | 0=>.inr ⟨_,_,rfl,rfl,hr⟩
  | i+1=>ih i
theorem Reps.nth:∀ {vs:List Value} {cs:List (AV S)},Reps w V l vs cs→∀ {i:Nat},(∀ j,j≤i→match cs[j]? with | some c=>NotArr c | none=>True)→∀ {c},cs[i]?=some c→∃ v,vs[i]?=some v∧Rep w V l v c
 | _,[],_,i,_,c,hc=>by simp at hc
 | vs,d :: cs,h,i,hn,c,hc=>by
  obtain ⟨v,vs',rfl,h1,h2⟩:=h.head (hn 0 (Nat.zero_le _))
  cases i with
  | zero=>simp at hc; subst hc; exact ⟨v,rfl,h1⟩
  | succ i=>exact h2.nth (fun j hj=>hn (j+1) (by omega)) (by simpa using hc)
omit [Cod S] in
theorem bareB_get:∀ {cs:List (AV S)},bareB cs=true→∀ j:Nat,match cs[j]? with | some c=>NotArr c | none=>True
 | [],_,j=>by simp
 | c :: cs,h,j=>by
  have hc:NotArr c∧bareB cs=true:=by cases c <;> first | exact ⟨trivial,h⟩ | cases h
  cases j with
  | zero=>exact hc.1
  | succ j=>simpa using bareB_get hc.2 j
theorem extract_ok {y:Operand} {i:Nat} (hs:SR gl En x w V l a.tmps st)
  (h:evK st.tmps y fun v=>match v with
  | .tup vs=>match bareB vs with
   | true=>nthK vs i fun r=>match r with
    | .undef=>False
    | r=>K r st x
   | false=>False
  | _=>False):VOK P gl En a w (Instr.extract (a.eval y) i) K:=by
 obtain ⟨c,h,hc⟩:=evK_elim hs h
 cases c with
 | tup vs =>
  simp only at h
  cases hb:bareB vs with
  | false=>rw [hb] at h; exact h.elim
  | true =>
   rw [hb] at h
   simp only [nthK_eq] at h
   obtain ⟨t,ht,hr⟩:=hc.tup
   cases hi:vs[i]? with
   | none =>
    rw [List.getD_eq_getElem?_getD,hi] at h; exact h.elim
   | some c =>
    rw [List.getD_eq_getElem?_getD,hi] at h
    obtain ⟨v,hv,hrv⟩:=hr.nth (fun j _=>bareB_get hb j) hi
    have hK:K c st x:=by
     simp only [Option.getD_some] at h
     cases c <;> first | exact h | exact h.elim
    rw [ht]
    have hv':t[i]?=some v:=by simpa using hv
    exact ⟨v,w,by simp [Instr.extract,hv',Pure.pure],_,_,_,_,_,hK,hs,hrv⟩
 | _=>exact h.elim
variable [LawCod S]
theorem fieldAddr_ok (htis:TisOk P par.ti) {t:TypeId} {y:Operand} {f:Nat} (hs:SR gl En x w V l a.tmps st)
  (h:tyK par t fun ty=>evK st.tmps y fun pv=>match ty.kind with
  | .struct fs=>match fs[f]? with
   | some (off,_,_)=>match pv with
    | .ref cs=>dropK cs off fun l=>K (.ref l) st x
    | .own d q=>stepOff off q fun q'=>K (.own d q') st x
    | .up d q=>stepOff off q fun q'=>K (.up d q') st x
    | .elp u d i q=>stepOff off q fun q'=>K (.elp u d i q') st x
    | _=>False
   | none=>False
  | _=>False):VOK P gl En a w (Instr.fieldAt t (a.eval y) f) K:=by
 obtain ⟨ty,h,hty⟩:=tyK_elim htis h
 obtain ⟨c,h,hc⟩:=evK_elim hs h
 have hkind:=hty.kind
 cases hk:ty.kind with
 | struct fs =>
  rw [hk] at h hkind
  simp only at h
  obtain ⟨fds,places,h1,h2,h3⟩:=hkind
  cases hf:fs[f]? with
  | none=>rw [hf] at h; exact h.elim
  | some p =>
   obtain ⟨off,ft,sz⟩:=p
   rw [hf] at h
   obtain ⟨_,hsz,fd,hfd,ho,hft,inf,hinf,hisz⟩:=h3 f off ft sz hf
   have hrun:∀ ad:Addr,(Instr.fieldAt t (.pointer (some ad)) f).run P w=.ok (.pointer (some (ad.add off))) w:=fun ad=>by
    have:¬ inf.size=0:=by omega
    subst hft; subst ho
    simp [Instr.fieldAt,Sem.run_bind,run_underlying h1,Result.andThen,hfd,Instr.sureAddr,Pure.pure,fieldPlace,run_sizeOf hinf,this]
   have hadd:∀ b o,(⟨b,o,none⟩:Addr).add off=⟨b,o+off,none⟩:=fun b o=>Addr.add_at _ _ _
   cases c with
   | ref cs =>
    obtain ⟨b,o,ws,hv,hat,hr⟩:=hc.ref
    obtain ⟨ca,cb,rfl,hw,hK⟩:=dropK_elim h
    obtain ⟨wa,wb,rfl,ha,hb⟩:=hr.split ca
    rw [hv]
    refine ⟨_,w,hrun _,_,_,_,_,_,hK,hs,?_⟩
    rw [hadd]
    refine Reps.ref (ws:=wb) (fun k v hk=>?_) hb (.nil _)
    have:=hat (off+k) v (by rw [List.getElem?_append_right (by rw [ha.length,hw]; omega),ha.length,hw,Nat.add_sub_cancel_left]; exact hk)
    rwa [←Nat.add_assoc] at this
   | own d q =>
    obtain ⟨b,hb,hv⟩:=hc.own
    obtain ⟨q',hq,hK⟩:=stepOff_elim _ _ _ h
    rw [hv]
    exact ⟨_,w,hrun _,_,_,_,_,_,hK,hs,Rep.flat1 ⟨b,hb,by rw [hadd,hq]⟩⟩
   | up d q =>
    obtain ⟨b,hb,hv⟩:=hc.up
    obtain ⟨q',hq,hK⟩:=stepOff_elim _ _ _ h
    rw [hv]
    exact ⟨_,w,hrun _,_,_,_,_,_,hK,hs,Rep.flat1 ⟨b,hb,by rw [hadd,hq]⟩⟩
   | elp u d i q =>
    obtain ⟨b,n,cap,hb,hv⟩:Flat l (a.eval y) (.elp u d i q):=by
     unfold Rep at hc
     generalize hvs:[a.eval y]=vs at hc
     cases hc with
     | flat h t=>cases hvs; exact h
    obtain ⟨q',hq,hK⟩:=stepOff_elim _ _ _ h
    rw [hv]
    exact ⟨_,w,hrun _,_,_,_,_,_,hK,hs,Rep.flat1 ⟨b,n,cap,hb,by rw [hadd,hq,Nat.add_assoc]⟩⟩
   | _=>exact h.elim
 | _=>rw [hk] at h; exact h.elim
theorem field_ok (htis:TisOk P par.ti) {t:TypeId} {y:Operand} {f:Nat} (hs:SR gl En x w V l a.tmps st)
  (h:tyK par t fun ty=>evK st.tmps y fun v=>match ty.kind,v with
  | .struct fs,.agg cs=>match fs[f]? with
   | some (off,ft,_)=>tyK par ft fun ty'=>dropK cs off fun l=>valK ty' l fun v'=>K v' st x
   | none=>False
  | _,_=>False):VOK P gl En a w (Instr.field t (a.eval y) f) K:=by
 obtain ⟨ty,h,hty⟩:=tyK_elim htis h
 obtain ⟨c,h,hc⟩:=evK_elim hs h
 have hkind:=hty.kind
 cases hk:ty.kind with
 | struct fs =>
  rw [hk] at h hkind
  cases c with
  | agg cs =>
   simp only at h
   obtain ⟨fds,places,h1,h2,h3⟩:=hkind
   cases hf:fs[f]? with
   | none=>rw [hf] at h; exact h.elim
   | some p =>
    obtain ⟨off,ft,sz⟩:=p
    rw [hf] at h
    simp only at h
    obtain ⟨_,hsz,fd,hfd,ho,hft,inf,hinf,hisz⟩:=h3 f off ft sz hf
    obtain ⟨ty',h,hty'⟩:=tyK_elim htis h
    obtain ⟨ca,cb,rfl,hw,h⟩:=dropK_elim h
    obtain ⟨c',hK,hd⟩:=valK_elim h
    obtain ⟨t0,ht0,hr⟩:=hc.agg
    obtain ⟨wa,wb,hwab,ha,hb⟩:=hr.split ca
    have hlen:wa.length=off:=by rw [ha.length,hw]
    obtain ⟨i,z,hi,hsz',_⟩:=hty'.info
    have hag:=run_isAgg (w:=w) hty'.kind
    have hd:=hd w V l wb hb
    rw [ht0]
    subst hft; subst ho
    cases hag':ty'.kind.isAgg with
    | true =>
     rw [hag'] at hd hag
     obtain ⟨wc,wd,rfl,hl2,hrep⟩:=hd
     refine ⟨_,w,?_,_,_,_,_,_,hK,hs,hrep⟩
     have hex:t0.extract fd.offset (fd.offset+i.size)=wc.toArray:=by
      apply Array.ext'
      rw [Array.toList_extract,hwab,←hlen,hsz',←hl2]
      simp [List.extract_eq_take_drop]
     simp [Instr.field,Sem.run_bind,run_underlying h1,Result.andThen,hfd,asAgg,Pure.pure,part,hag,run_sizeOf hi,hex]
    | false =>
     rw [hag'] at hd hag
     obtain ⟨v,vs,rfl,hrep⟩:=hd
     refine ⟨_,w,?_,_,_,_,_,_,hK,hs,hrep⟩
     have hex:t0[fd.offset]?=some v:=by
      rw [←Array.getElem?_toList,hwab,←hlen,List.getElem?_append_right (Nat.le_refl _),Nat.sub_self]; rfl
     simp [Instr.field,Sem.run_bind,run_underlying h1,Result.andThen,hfd,asAgg,Pure.pure,part,hag,hex]
  | _=>exact h.elim
 | _=>rw [hk] at h; exact h.elim
end Go.Ab
namespace Go.Ab
open Go
variable {S:Sig} [Cod S]
variable {X:Type} {gl:Gl} {En:Env X} {x:X} {w w1 w':World} {V V':Nat→Nat→Prop} {l l0:Loc} {ts:Array Value} {st:St S}
variable {P:Program} {par:Par S X} {a:Act} {K:AV S→St S→X→Prop}
theorem castL_elim' {u v:S.U} {xs:List (S.T u)} {K:List (S.T v)→Prop} (h:castL u v xs K):∃ ys,K ys∧(⟨u,xs⟩:(u:S.U)×List (S.T u))=⟨v,ys⟩:=by
 obtain ⟨he,h⟩:=castL_elim h
 subst he
 exact ⟨xs,h,rfl⟩
theorem bytes_get (s:ByteArray) (n:Nat):s[n]?=s.data.toList[n]?:=by
 simp only [Array.getElem?_toList]
 rcases Nat.lt_or_ge n s.size with h | h
 ·have h':n < s.data.size:=h
  rw [getElem?_pos s n h,Array.getElem?_eq_getElem h']; rfl
 have h':s.data.size≤n:=h
 rw [getElem?_neg s n (by omega),Array.getElem?_eq_none h']
theorem index_ok [LawCod S] (htis:TisOk P par.ti) (hai:∀ t e,lookA par.ai t=some e→∃ n,P.underlying t=some (.array n e)) {t:TypeId} {y i:Operand} (hs:SR gl En x w V l a.tmps st)
  (h:tyK par t fun ty=>evK st.tmps y fun v=>evK st.tmps i fun iv=>match ty.kind,v,iv with
  | .str,.str s,.int _ n=>optK (getI s.data.toList n) fun b=>K (.int .u8 b.toNat) st x
  | .array ua len,.agg cs,.int _ n=>findK par.ai t False fun et=>tyK par et fun ty'=>match cs with
   | .arr u m xs :: _=>match Nat.beq m len with
    | true=>castL u ua xs fun xs=>optK (getI xs n) fun e=>valK ty' (Cod.enc ua e) fun v'=>K v' st x
    | false=>False
   | _=>False
  | _,_,_=>False):VOK P gl En a w (Instr.index t (a.eval y) (a.eval i)) K:=by
 obtain ⟨ty,h,hty⟩:=tyK_elim htis h
 obtain ⟨c,h,hc⟩:=evK_elim hs h
 obtain ⟨ci,h,hi⟩:=evK_elim hs h
 have hkind:=hty.kind
 cases hk:ty.kind with
 | str =>
  rw [hk] at h hkind
  cases c with
  | str s =>
   cases ci with
   | int k n =>
    simp only at h
    obtain ⟨b,hb,hK⟩:=h
    obtain ⟨h0,h1⟩:=getI_some hb
    have h2:s.data[n.toNat]?=some b:=by simpa using h1
    rw [hc.str,hi.int]
    exact ⟨_,w,by simp [Instr.index,asIntOf,Sem.run_bind,Pure.pure,Result.andThen,run_underlying (d:=.string) hkind,h0,bytes_get,h2],_,_,_,_,_,hK,hs,Rep.flat1 rfl⟩
   | _=>exact h.elim
  | _=>cases ci <;> exact h.elim
 | array ua len =>
  rw [hk] at h hkind
  cases c with
  | agg cs =>
   cases ci with
   | int k n =>
    simp only at h
    rw [findK_eq] at h
    cases hae:lookA par.ai t with
    | none=>rw [hae] at h; exact h.elim
    | some et =>
     rw [hae] at h
     simp only at h
     obtain ⟨ty',hq,hty'⟩:=tyK_elim htis h
     clear h
     obtain ⟨e0,inf,h1,h2,h3,h4⟩:=hkind
     obtain ⟨n',h1'⟩:=hai _ _ hae
     rw [h1] at h1'; cases h1'
     cases cs with
     | nil=>exact hq.elim
     | cons c0 rest =>
      cases c0 with
      | arr u m xs =>
        simp only at hq
        cases hm:Nat.beq m len with
        | false=>rw [hm] at hq; exact hq.elim
        | true =>
         rw [hm] at hq
         have:=Nat.eq_of_beq_eq_true hm
         subst this
         obtain ⟨he0,hq⟩:=castL_elim hq
         subst he0
         obtain ⟨e,he,hq⟩:=hq
         obtain ⟨h0,h5⟩:=getI_some he
         have h5:xs[n.toNat]?=some e:=h5
         obtain ⟨v',hK,hd⟩:=valK_elim hq
         obtain ⟨t0,ht0,hr⟩:=hc.agg
         obtain ⟨va,vb,hvab,ha,_⟩:=hr.uncons
         have hxl:xs.length=m∧Reps w V Loc.none va (xs.flatMap (Cod.enc u)):=by
          generalize hcs:([AV.arr u m xs]:List (AV S))=cs at ha
          cases ha with
          | flat h t=>cases hcs; exact h.elim
          | arr hn r t=>cases hcs; rw [t.nil_inv,List.append_nil]; exact ⟨hn,r⟩
          | _=>cases hcs
         obtain ⟨wa,wm,wb,hw,hl,hrm⟩:=hxl.2.elem h5
         obtain ⟨i,z,hi',hsz',_⟩:=hty'.info
         have hag:=run_isAgg (w:=w) hty'.kind
         have hd:=hd w V Loc.none wm hrm
         have hnl:n < m:=by
          have:=(List.getElem?_eq_some_iff.1 h5).1
          omega
         have hsz:i.size=Cod.size u:=by rw [h2] at hi'; cases hi'; exact h3
         have hbound:0≤n∧n < (m:Int):=⟨h0,hnl⟩
         rw [ht0,hi.int]
         cases hag':ty'.kind.isAgg with
         | true =>
          rw [hag'] at hd hag
          obtain ⟨wc,wd,rfl,hl2,hrep⟩:=hd
          refine ⟨_,w,?_,_,_,_,_,_,hK,hs,hrep.of_none l⟩
          have hex:t0.extract (n.toNat * i.size) (n.toNat * i.size+i.size)=wc.toArray:=by
           apply Array.ext'
           rw [Array.toList_extract,hvab,hw,hsz,←hl,←hsz,hsz',←hl2]
           simp [List.extract_eq_take_drop]
          simp [Instr.index,asIntOf,Sem.run_bind,run_underlying h1,Result.andThen,Pure.pure,part,hag,run_sizeOf hi',hex,hbound]
         | false =>
          rw [hag'] at hd hag
          obtain ⟨v,vs,rfl,hrep⟩:=hd
          refine ⟨_,w,?_,_,_,_,_,_,hK,hs,hrep.of_none l⟩
          have hex:t0[n.toNat * i.size]?=some v:=by
           rw [←Array.getElem?_toList,hvab,hw,hsz,←hl]
           simp
          simp [Instr.index,asIntOf,Sem.run_bind,run_underlying h1,Result.andThen,Pure.pure,part,hag,run_sizeOf hi',hex,hbound]
      | _=>exact hq.elim
   | _=>exact h.elim
  | _=>cases ci <;> exact h.elim
 | _=>rw [hk] at h; cases c <;> cases ci <;> exact h.elim
variable [LawCod S]
omit [LawCod S] in
theorem pub_sl (hs:SR gl En x w V l ts st) {v:Value} {u:S.U} {xs:List (S.T u)} {o:Option Nat} (hc:Rep w V l v (.sl u xs o)) {K:List (Nat×AO S)→Prop} (h:pubK o st.seg K) :
  ∃ sg V',K sg∧(∀ b o,V b o→V' b o)∧SR gl En x w V' l ts { st with seg:=sg }∧Rep w V' Loc.none v (.sl u xs none):=by
 obtain ⟨sg,hK,h1⟩:=pubK_elim h
 obtain ⟨V',hV,hs',_,hr⟩:=h1.out hs
 exact ⟨sg,V',hK,hV,hs',slice_out hc hV hr⟩
theorem sl_elem {v:Value} {u:S.U} {xs:List (S.T u)} (hc:Rep w V Loc.none v (.sl u xs none)) {i:Nat} {e:S.T u} (hi:xs[i]?=some e) :
  ∃ b o cap vm,v=.slice (some ⟨b,o,none⟩) xs.length cap∧CellsAt w V b (o+i * Cod.size u) vm∧Reps w V Loc.none vm (Cod.enc u e):=by
 unfold Rep at hc
 generalize hvs:[v]=vs at hc
 cases hc with
 | flat h t=>obtain ⟨hx,_⟩:=h; subst hx; simp at hi
 | sl h r hcp t =>
  cases hvs
  obtain ⟨va,vm,vb,hw,hl,hr⟩:=r.elem hi
  refine ⟨_,_,_,vm,rfl,fun k v hk=>?_,hr⟩
  have:=h (i * Cod.size u+k) v (by
   rw [hw,List.append_assoc,List.getElem?_append_right (by omega),hl,Nat.add_sub_cancel_left,List.getElem?_append_left (List.getElem?_eq_some_iff.1 hk).1]; exact hk)
  rwa [←Nat.add_assoc] at this
omit [LawCod S] in
theorem arr_ref {v:Value} {u:S.U} {n:Nat} {xs:List (S.T u)} {cs:List (AV S)} (hc:Rep w V l v (.ref (.arr u n xs :: cs))) :
  ∃ b o ws,v=.pointer (some ⟨b,o,none⟩)∧xs.length=n∧CellsAt w V b o ws∧Reps w V Loc.none ws (xs.flatMap (Cod.enc u)):=by
 obtain ⟨b,o,ws,hv,hat,hr⟩:=hc.ref
 obtain ⟨wa,wb,rfl,h1,h2⟩:=hr.uncons
 refine ⟨b,o,wa,hv,?_,fun k v hk=>hat k v (by rw [List.getElem?_append_left (List.getElem?_eq_some_iff.1 hk).1]; exact hk),?_⟩
 ·generalize hcs:[AV.arr u n xs]=cs at h1
  cases h1 with
  | flat h t=>cases hcs; exact h.elim
  | arr hx r t=>cases hcs; exact hx
  | _=>cases hcs
 generalize hcs:[AV.arr u n xs]=cs at h1
 cases h1 with
 | flat h t=>cases hcs; exact h.elim
 | arr hx r t=>cases hcs; rw [t.nil_inv,List.append_nil]; exact r
 | _=>cases hcs
theorem indexAddr_ok (htis:TisOk P par.ti) {t:TypeId} {y i:Operand} (hs:SR gl En x w V l a.tmps st)
  (h:tyK par t fun ty=>evK st.tmps y fun v=>evK st.tmps i fun iv=>match iv with
  | .int _ n=>match ty.kind with
   | .array u len=>match v with
    | .ref cs=>match cs with
     | .arr u' m xs :: _=>match Nat.beq m len with
      | true=>castL u' u xs fun xs=>optK (getI xs n) fun e=>K (.ref (Cod.enc u e)) st x
      | false=>False
     | _=>False
    | .own d q=>0≤n∧n < len∧stepIdx n (Cod.size u) q fun q'=>K (.own d q') st x
    | .up d q=>0≤n∧n < len∧stepIdx n (Cod.size u) q fun q'=>K (.up d q') st x
    | _=>False
   | .slice ut _ _=>match v with
    | .sl u xs o=>castL u ut xs fun xs =>
     let rd:Prop:=pubK o st.seg fun sg=>optK (getI xs n) fun e=>K (.ref (Cod.enc ut e)) { st with seg:=sg } x
     match o with
     | none=>rd
     | some e=>findK st.seg e False fun
      | .row _ f=>match f with
       | true=>∃ wr:Bool,match wr with
        | true=>optK (getI xs n) fun _=>K (.elp ut e n.toNat []) st x
        | false=>rd
       | false=>rd
      | _=>False
    | _=>False
   | _=>False
  | _=>False):VOK P gl En a w (Instr.indexAt t (a.eval y) (a.eval i)) K:=by
 obtain ⟨ty,h,hty⟩:=tyK_elim htis h
 obtain ⟨c,h,hc⟩:=evK_elim hs h
 obtain ⟨ci,h,hi⟩:=evK_elim hs h
 have hkind:=hty.kind
 cases ci with
 | int k n =>
  simp only at h
  rw [hi.int]
  cases hk:ty.kind with
  | array u len =>
   rw [hk] at h hkind
   obtain ⟨e,ie,h1,h2,h3,h4⟩:=hkind
   have hrun:∀ ad:Addr,0≤n→n < len→(Instr.indexAt t (.pointer (some ad)) (.int k n)).run P w=.ok (.pointer (some (ad.add (n.toNat * Cod.size u)))) w:=fun ad h5 h6=>by
    simp [Instr.indexAt,Sem.run_bind,asIntOf,Pure.pure,Result.andThen,run_underlying h1,Instr.sureAddr,h5,h6,run_sizeOf h2,h3]
   have hpo:∀ q:List Stp,0≤n→∀ K:List Stp→Prop,stepIdx n (Cod.size u) q K→∃ q',poff q'=poff q+n.toNat * Cod.size u∧K q':=fun q h5 K h=>by
    unfold stepIdx at h
    rw [appK_eq] at h
    exact ⟨_,by
     clear h
     induction q with
     | nil=>simp [poff]
     | cons s q ih=>cases s <;> simp only [List.cons_append,poff,ih] <;> omega,h⟩
   cases c with
   | ref cs =>
    cases cs with
    | nil=>exact h.elim
    | cons c cs =>
     cases c with
     | arr u' m xs =>
      simp only at h
      cases hb:Nat.beq m len with
      | false=>rw [hb] at h; exact h.elim
      | true =>
       rw [hb] at h
       have:=Nat.eq_of_beq_eq_true hb
       subst this
       obtain ⟨ys,hq,he⟩:=castL_elim' h
       cases he
       obtain ⟨el,hel,hK⟩:=hq
       obtain ⟨h5,h6⟩:=getI_some hel
       obtain ⟨b,o,ws,hv,hlen,hat,hr⟩:=arr_ref hc
       have h7:n < m:=by have:=(List.getElem?_eq_some_iff.1 h6).1; omega
       rw [hv]
       refine ⟨_,w,hrun _ h5 h7,_,_,_,_,_,hK,hs,?_⟩
       rw [Addr.add_at]
       obtain ⟨va,vm,vb,hw,hl,hrm⟩:=hr.elem h6
       refine Reps.ref (ws:=vm) (fun k v hk=>?_) hrm (.nil _)
       have:=hat (n.toNat * Cod.size u+k) v (by
        rw [hw,List.append_assoc,List.getElem?_append_right (by omega),hl,Nat.add_sub_cancel_left,List.getElem?_append_left (List.getElem?_eq_some_iff.1 hk).1]; exact hk)
       rwa [←Nat.add_assoc] at this
     | _=>exact h.elim
   | own d q =>
    obtain ⟨h5,h6,h⟩:=h
    obtain ⟨q',hq,hK⟩:=hpo q h5 _ h
    obtain ⟨b,hb,hv⟩:=hc.own
    rw [hv]
    exact ⟨_,w,hrun _ h5 h6,_,_,_,_,_,hK,hs,Rep.flat1 ⟨b,hb,by rw [Addr.add_at,hq]⟩⟩
   | up d q =>
    obtain ⟨h5,h6,h⟩:=h
    obtain ⟨q',hq,hK⟩:=hpo q h5 _ h
    obtain ⟨b,hb,hv⟩:=hc.up
    rw [hv]
    exact ⟨_,w,hrun _ h5 h6,_,_,_,_,_,hK,hs,Rep.flat1 ⟨b,hb,by rw [Addr.add_at,hq]⟩⟩
   | _=>exact h.elim
  | slice ut bytes ez =>
   rw [hk] at h hkind
   obtain ⟨e,ie,z,h1,h2,h3,_⟩:=hkind
   cases c with
   | sl u xs o =>
    simp only at h
    obtain ⟨ys,hq,he⟩:=castL_elim' h
    cases he
    have hrd:(pubK o st.seg fun sg=>optK (getI ys n) fun e=>K (.ref (Cod.enc ut e)) { st with seg:=sg } x)→VOK P gl En a w (Instr.indexAt t (a.eval y) (.int k n)) K:=fun hq=>by
     obtain ⟨sg,V',h,hV,hs',hc'⟩:=pub_sl hs hc hq
     obtain ⟨el,hel,hK⟩:=h
     obtain ⟨h5,h6⟩:=getI_some hel
     obtain ⟨b,o,cap,vm,hv,hat,hr⟩:=sl_elem hc' h6
     have h7:n < ys.length:=by have:=(List.getElem?_eq_some_iff.1 h6).1; omega
     rw [hv]
     refine ⟨_,w,?_,_,_,_,_,_,hK,hs',Reps.ref hat hr (.nil _)⟩
     simp [Instr.indexAt,Sem.run_bind,asIntOf,Pure.pure,Result.andThen,run_underlying h1,h5,h7,run_sizeOf h2,h3,Addr.add_at]
    cases o with
    | none=>exact hrd hq
    | some e' =>
     simp only at hq
     rw [findK_eq] at hq
     cases hl:lookA st.seg e' with
     | none=>rw [hl] at hq; exact hq.elim
     | some ao =>
      rw [hl] at hq
      cases ao <;> try exact hq.elim
      case row u' f =>
       cases f with
       | false=>exact hrd hq
       | true =>
        obtain ⟨wr,hq⟩:=hq
        cases wr with
        | false=>exact hrd hq
        | true =>
         obtain ⟨el,hel,hK⟩:=hq
         obtain ⟨h5,h6⟩:=getI_some hel
         have h7:n < ys.length:=by have:=(List.getElem?_eq_some_iff.1 h6).1; omega
         unfold Rep at hc
         generalize hvs:[a.eval y]=vs at hc
         cases hc with
         | flat h0 t=>rw [h0.1] at h6; simp at h6
         | @tok _ _ _ _ b cap ws _ _ ht hcs r hcp t =>
          have hv:=(List.cons.inj hvs).1
          rw [hv]
          have hwl:ws.length=ys.length * Cod.size ut:=by rw [r.length,widths_flatMap]
          refine ⟨_,w,?_,_,_,_,_,_,hK,hs,Rep.flat1 ⟨b,ws.length,cap,⟨ht,by rw [hwl]; exact Nat.mul_le_mul_right _ (by omega)⟩,rfl⟩⟩
          simp [Instr.indexAt,Sem.run_bind,asIntOf,Pure.pure,Result.andThen,run_underlying h1,h5,h7,run_sizeOf h2,h3,Addr.add_at,poff]
   | _=>exact h.elim
  | _=>rw [hk] at h; exact h.elim
 | _=>exact h.elim
theorem bound_run {v:Value} {i:Int} {k:IntKind} {n:Nat} {code:BoundsCode} (hv:v=.int k i) (h0:0≤i) (h1:i.toNat≤n):(Instr.sliceBound v n code).run P w=.ok i.toNat w:=by
 subst hv
 have:i≤n:=by omega
 simp [Instr.sliceBound,asIntOf,Sem.run_bind,Pure.pure,Result.andThen,h0,this]
omit [LawCod S] in
theorem bounds_run {lo hi:Option Operand} {K:Option (AV S)→Option (AV S)→Prop} (hs:SR gl En x w V l a.tmps st) (h:optOp lo st.tmps fun lv=>optOp hi st.tmps fun hv=>K lv hv) :
  ∃ lv hv,K lv hv∧∀ (b:Bool) (n cap i j:Nat),n≤cap→(hv=none∧j=n∨∃ k q,hv=some (.int k q)∧0≤q∧j=q.toNat)→(lv=none∧i=0∨∃ k q,lv=some (.int k q)∧0≤q∧i=q.toNat)→i≤j→j≤cap →
   (Instr.sliceBounds b n cap (lo.map a.eval) (hi.map a.eval) none).run P w=.ok (i,j,cap) w:=by
 have hev:∀ {y:Option Operand} {K:Option (AV S)→Prop},optOp y st.tmps K→∃ c,K c∧((y=none∧c=none)∨∃ z d,y=some z∧c=some d∧Rep w V l (a.eval z) d):=fun {y K} h=>by
  cases y with
  | none=>exact ⟨none,h,.inl ⟨rfl,rfl⟩⟩
  | some z=>obtain ⟨d,hK,hd⟩:=evK_elim hs h; exact ⟨_,hK,.inr ⟨_,_,rfl,rfl,hd⟩⟩
 obtain ⟨lv,h,hl⟩:=hev h
 obtain ⟨hv,h,hh⟩:=hev h
 refine ⟨lv,hv,h,fun b n cap i j hn hj hi' hij hjc=>?_⟩
 rcases hh with ⟨rfl,rfl⟩ | ⟨z,d,rfl,rfl,hd⟩
 ·obtain rfl:j=n:=by
   rcases hj with ⟨_,h⟩ | ⟨_,_,h,_⟩
   ·exact h
   ·cases h
  rcases hl with ⟨rfl,rfl⟩ | ⟨z',d',rfl,rfl,hd'⟩
  ·obtain rfl:i=0:=by
    rcases hi' with ⟨_,h⟩ | ⟨_,_,h,_⟩
    ·exact h
    ·cases h
   simp [Instr.sliceBounds,Sem.run_bind,Pure.pure,Result.andThen]
  have hir:∀ code,(Instr.sliceBound (a.eval z') j code).run P w=.ok i w:=fun code=>by
   rcases hi' with ⟨h,_⟩ | ⟨k,q,h,h0,rfl⟩
   ·cases h
   ·cases h; exact bound_run hd'.int h0 hij
  simp [Instr.sliceBounds,Sem.run_bind,Pure.pure,Result.andThen,hir]
 have hjr:∀ code,(Instr.sliceBound (a.eval z) cap code).run P w=.ok j w:=fun code=>by
  rcases hj with ⟨h,_⟩ | ⟨k,q,h,h0,rfl⟩
  ·cases h
  ·cases h; exact bound_run hd.int h0 hjc
 rcases hl with ⟨rfl,rfl⟩ | ⟨z',d',rfl,rfl,hd'⟩
 ·obtain rfl:i=0:=by
   rcases hi' with ⟨_,h⟩ | ⟨_,_,h,_⟩
   ·exact h
   ·cases h
  simp [Instr.sliceBounds,Sem.run_bind,Pure.pure,Result.andThen,hjr]
 have hir:∀ code,(Instr.sliceBound (a.eval z') j code).run P w=.ok i w:=fun code=>by
  rcases hi' with ⟨h,_⟩ | ⟨k,q,h,h0,rfl⟩
  ·cases h
  ·cases h; exact bound_run hd'.int h0 hij
 simp [Instr.sliceBounds,Sem.run_bind,Pure.pure,Result.andThen,hjr,hir]
omit [Cod S] [LawCod S] in
theorem boundK_elim {v:Option (AV S)} {d:Nat} {K:Nat→Prop} (h:boundK v d K):∃ j,K j∧(v=none∧j=d∨∃ k q,v=some (.int k q)∧0≤q∧j=q.toNat):=by
 unfold boundK at h
 cases v with
 | none=>exact ⟨d,h,.inl ⟨rfl,rfl⟩⟩
 | some c =>
  cases c with
  | int k q=>exact ⟨_,h.2,.inr ⟨k,q,rfl,h.1,rfl⟩⟩
  | _=>exact h.elim
theorem sl_piece {base:Option Addr} {u:S.U} {xs:List (S.T u)} {cap:Nat} (hc:Rep w V Loc.none (.slice base xs.length cap) (.sl u xs none)) {i j:Nat} (hij:i≤j) (hj:j≤xs.length) (hcap:xs.length≤cap) :
  Rep w V Loc.none (.slice (if cap=i then base else base.map (·.add (i * Cod.size u))) (j - i) (cap - i)) (.sl u ((xs.take j).drop i) none):=by
 have hlen:((xs.take j).drop i).length=j - i:=by rw [List.length_drop,List.length_take,Nat.min_eq_left hj]
 by_cases he:(xs.take j).drop i=[]
 ·rw [he]
  have:j - i=0:=by rw [←hlen,he]; rfl
  rw [this]
  exact Rep.flat1 ⟨rfl,_,_,rfl⟩
 have hlt:i < j:=by
  rcases Nat.lt_or_ge i j with h | h
  ·exact h
  ·exact absurd (List.eq_nil_of_length_eq_zero (by omega)) he
 have hci:¬ cap=i:=by omega
 rw [if_neg hci]
 unfold Rep at hc
 generalize hvs:[Value.slice base xs.length cap]=vs at hc
 cases hc with
 | flat h t=>obtain ⟨hx,_⟩:=h; subst hx; simp at he
 | sl h r hcp t =>
  cases hvs
  have hsplit:xs.flatMap (Cod.enc u)=(xs.take i).flatMap (Cod.enc u)++(((xs.take j).drop i).flatMap (Cod.enc u)++(xs.drop j).flatMap (Cod.enc u)):=by
   rw [←List.flatMap_append,←List.flatMap_append]
   congr 1
   have h1:xs.take i=(xs.take j).take i:=by rw [List.take_take,Nat.min_eq_left hij]
   rw [h1,←List.append_assoc,List.take_append_drop,List.take_append_drop]
  rw [hsplit] at r
  obtain ⟨wa,wb,rfl,h1,h2⟩:=r.split _
  obtain ⟨wm,wc,rfl,h3,h4⟩:=h2.split _
  have hl:wa.length=i * Cod.size u:=by rw [h1.length,widths_flatMap,List.length_take,Nat.min_eq_left (by omega)]
  rw [Option.map_some,Addr.add_at,←hlen]
  refine Reps.sl (ws:=wm) (fun k v hk=>?_) h3 (by rw [hlen]; omega) (.nil _)
  have:=h (i * Cod.size u+k) v (by
   rw [List.getElem?_append_right (by omega),hl,Nat.add_sub_cancel_left,List.getElem?_append_left (List.getElem?_eq_some_iff.1 hk).1]; exact hk)
  rwa [←Nat.add_assoc] at this
theorem slice_own {e:Nat} {u:S.U} {xs:List (S.T u)} {j:Nat} (hs:SR gl En x w V l ts st) (hl:lookA st.seg e=some (.row u true)) {v:Value} (hv:Rep w V l v (.sl u xs (some e))) (hj:j≤xs.length) {K:AV S→St S→Prop}
  (h:undAllK [e] st fun st'=>putK st'.seg e (.row u true) fun sg=>K (.sl u (xs.take j) (some e)) { st' with seg:=sg }) :
  ∃ base cap st' l',v=.slice base xs.length cap∧xs.length≤cap∧K (.sl u (xs.take j) (some e)) st'∧SR gl En x w V l' ts st' ∧
   Rep w V l' (.slice (if cap=0 then base else base.map (·.add (0 * Cod.size u))) (j - 0) (cap - 0)) (.sl u (xs.take j) (some e)):=by
 obtain ⟨st',h,hrow,hlet⟩:=undAllK_elim h
 simp only [putK_eq] at h
 have hs':=hlet hs
 obtain ⟨base,cap,wsx,rfl,hx,hxv⟩:=hv.slTok
 obtain ⟨base2,cap2,he2,hcap⟩:=hv.slcap
 cases he2
 have h0:(l.untok [e]).tok e=none:=by simp [Loc.untok,memb]
 have hd':lookA st'.seg e=some (.row u true):=by rw [hrow e ⟨_,_,hl⟩]; exact hl
 have htl:(xs.take j).length=j:=by rw [List.length_take,Nat.min_eq_left hj]
 rcases hxv with ⟨rfl,rfl,ht⟩ | ⟨b,rfl,ht,hc⟩
 ·have hj0:j=0:=by simpa using hj
  subst hj0
  refine ⟨base,0,_,l,rfl,Nat.le_refl _,h,hs'.turn (Loc.le_refl _) (Loc.untok_le l [e]) (fun _ _=>rfl) (fun _ _=>rfl) rfl rfl (fun _ _ h=>h) (fun _ _ h=>.inl h) ⟨.no,ht,trivial⟩ (fun b hm=>?_) (fun b hb=>?_) (fun _ _=>⟨_,_,rfl⟩),?_⟩
  ·obtain ⟨n,cap,hm⟩:=hm; rw [ht] at hm; cases hm
  ·rw [hs.own_row (.inr ⟨_,_,hl⟩)] at hb; cases hb
  rw [if_pos rfl]
  exact Rep.flat1 ⟨by simp,ht,_,rfl⟩
 obtain ⟨t,ht',hro⟩:=hs'.seg e _ hd'
 rw [ht] at ht'; cases ht'
 obtain ⟨c,el,h1,h2,h3,h4⟩:=hro
 have hm:Mut l st' false e b:=⟨_,hd',_,_,ht⟩
 have hall:∀ k d',Mut l st' k d' b→k=false∧d'=e:=fun k d' h=>hs'.dis k d' false e b h hm
 have hsplit:xs.flatMap (Cod.enc u)=(xs.take j).flatMap (Cod.enc u)++(xs.drop j).flatMap (Cod.enc u):=by rw [←List.flatMap_append,List.take_append_drop]
 rw [hsplit] at hx
 obtain ⟨wa,wb,rfl,hxa,_⟩:=hx.split _
 have hla:wa.length=j * Cod.size u:=by rw [hxa.length,widths_flatMap,htl]
 have htok:(l.setTok e (.at b wa.length cap)).tok e=some (.at b wa.length cap):=by simp [Loc.setTok]
 refine ⟨_,cap,_,l.setTok e (.at b wa.length cap),rfl,hcap,h,hs'.turn (Loc.le_refl _) (Loc.le_trans (b:=(l.untok [e]).setTok e (.at b wa.length cap)) (Loc.le_setTok h0) (Loc.setTok_le (Loc.untok_le l [e]))) (fun _ _=>rfl) (fun k hk=>by simp [Loc.setTok,hk]) rfl rfl
  (fun _ _ h=>h) (fun _ _ h=>.inl h) ⟨_,htok,c,el,h1,h2,by rw [List.length_append] at h3; omega,h4⟩ (fun b' hm'=>?_) (fun b' hb'=>?_) (fun _ _=>⟨_,_,rfl⟩),?_⟩
 ·obtain ⟨n,cap',hm'⟩:=hm'
  rw [htok] at hm'; cases hm'
  exact ⟨(hs'.mine _ _ _ hm).1,(hs'.mine _ _ _ hm).2,hall⟩
 ·have:l.own e=some b':=hb'
  rw [hs.own_row (.inr ⟨_,_,hl⟩)] at this; cases this
 have hval:(Value.slice (if cap=0 then some ⟨b,0,none⟩ else (some (⟨b,0,none⟩:Addr)).map (·.add (0 * Cod.size u))) (j - 0) (cap - 0))=.slice (some ⟨b,0,none⟩) (xs.take j).length cap:=by
  rw [htl]; split <;> simp [Addr.add_at]
 rw [hval]
 exact .tok htok (fun k v hk=>hc k v (by rw [List.getElem?_append_left (List.getElem?_eq_some_iff.1 hk).1]; exact hk)) hxa (by rw [htl]; omega) (.nil _)
theorem sliceO_ok {bo:Bool} {u:S.U} {xs:List (S.T u)} {o:Option Nat} {i j:Nat} (hs:SR gl En x w V l ts st) {v:Value} (hc:Rep w V l v (.sl u xs o)) (hij:i≤j) (hj:j≤xs.length) {K:AV S→St S→Prop} (h:sliceO bo u xs o i j st K) :
  ∃ base cap c st' V' l',v=.slice base xs.length cap∧xs.length≤cap∧K c st'∧SR gl En x w V' l' ts st'∧Rep w V' l' (.slice (if cap=i then base else base.map (·.add (i * Cod.size u))) (j - i) (cap - i)) c:=by
 have hpub:(pubK o st.seg fun sg=>K (.sl u ((xs.take j).drop i) none) { st with seg:=sg })→∃ base cap c st' V' l',v=.slice base xs.length cap∧xs.length≤cap∧K c st'∧SR gl En x w V' l' ts st'∧Rep w V' l' (.slice (if cap=i then base else base.map (·.add (i * Cod.size u))) (j - i) (cap - i)) c:=fun h=>by
  obtain ⟨sg,V',hK,hV,hs',hc'⟩:=pub_sl hs hc h
  obtain ⟨base,cap,hv',hcap⟩:=hc'.slcap
  rw [hv'] at hc'
  exact ⟨base,cap,_,_,V',l,hv',hcap,hK,hs',(sl_piece hc' hij hj hcap).more (fun _ _ h=>h) (Loc.none_le _)⟩
 unfold sliceO at h
 cases bo with
 | false=>exact hpub h
 | true =>
  cases o with
  | none=>exact hpub (by simpa [pubK] using h)
  | some e =>
   simp only at h
   rw [findK_eq] at h
   cases hl:lookA st.seg e with
   | none=>rw [hl] at h; exact h.elim
   | some ao =>
    rw [hl] at h
    cases ao with
    | row v' f =>
     simp only at h
     cases f with
     | false=>exact hpub h
     | true =>
      simp only at h
      cases hu:Cod.ueq v' u with
      | isFalse hne=>rw [hu] at h; exact h.elim
      | isTrue he =>
       rw [hu] at h
       subst he
       obtain ⟨rfl,h⟩:=h
       obtain ⟨base,cap,st',l',h1,h2,h3,h4,h5⟩:=slice_own hs hl hc hj h
       exact ⟨base,cap,_,st',V,l',h1,h2,h3,h4,h5⟩
    | _=>exact h.elim
theorem slice_ok (htis:TisOk P par.ti) {t:TypeId} {y:Operand} {lo hi:Option Operand} (hs:SR gl En x w V l a.tmps st)
  (h : tyK par t fun ty=>evK st.tmps y fun v=>optOp lo st.tmps fun lv=>optOp hi st.tmps fun hv=>match ty.kind with
   | .slice ut _ _=>match v with
    | .sl u xs o=>castL u ut xs fun xs=>boundK hv xs.length fun h=>boundK lv 0 fun l=>l≤h∧h≤xs.length∧sliceO (par.ow&&lo.isNone) ut xs o l h st fun v st'=>K v st' x
    | _=>False
   | .str=>match v with
    | .str s=>boundK hv s.size fun h=>boundK lv 0 fun l=>l≤h∧h≤s.size∧K (.str (s.extract l h)) st x
    | _=>False
   | .array ua n=>outK 20 v st.seg fun r sg=>match r with
    | .ref (c :: _)=>match c with
     | .arr u m xs=>match Nat.beq m n with
      | true=>castL u ua xs fun xs=>boundK hv n fun h=>boundK lv 0 fun l=>l≤h∧h≤n∧K (.sl ua ((xs.take h).drop l) none) { st with seg:=sg } x
      | false=>False
     | _=>False
    | _=>False
   | _=>False):VOK P gl En a w (Instr.sliceAt t (a.eval y) (lo.map a.eval) (hi.map a.eval) none) K:=by
 obtain ⟨ty,h,hty⟩:=tyK_elim htis h
 obtain ⟨c,h,hc⟩:=evK_elim hs h
 obtain ⟨lv,hv,h,hb⟩:=bounds_run (P:=P) hs h
 have hkind:=hty.kind
 cases hk:ty.kind with
 | slice ut bytes ez =>
  rw [hk] at h hkind
  obtain ⟨e,ie,z,h1,h2,h3,_⟩:=hkind
  cases c with
  | sl u xs o =>
   simp only at h
   obtain ⟨ys,hq,he⟩:=castL_elim' h
   cases he
   obtain ⟨j,h,hj⟩:=boundK_elim hq
   obtain ⟨i,h,hii⟩:=boundK_elim h
   obtain ⟨hij,hjn,h⟩:=h
   obtain ⟨base,cap,c',st',V',l',hv',hcap,hK,hs',hp⟩:=sliceO_ok hs hc hij hjn h
   have hb:=hb true ys.length cap i j hcap hj hii hij (by omega)
   rw [hv']
   refine ⟨_,w,?_,_,_,_,_,_,hK,hs',hp⟩
   simp [Instr.sliceAt,Instr.slice,Sem.run_bind,Pure.pure,Result.andThen,run_underlying h1,hb,run_sizeOf h2,h3]
  | _=>exact h.elim
 | str =>
  rw [hk] at h hkind
  cases c with
  | str s =>
   simp only at h
   obtain ⟨j,h,hj⟩:=boundK_elim h
   obtain ⟨i,h,hii⟩:=boundK_elim h
   obtain ⟨hij,hjn,hK⟩:=h
   have hb:=hb false s.size s.size i j (Nat.le_refl _) hj hii hij hjn
   rw [hc.str]
   refine ⟨_,w,?_,_,_,_,_,_,hK,hs,Rep.flat1 rfl⟩
   simp [Instr.sliceAt,Instr.slice,Sem.run_bind,Pure.pure,Result.andThen,run_underlying (d:=.string) hkind,hb]
  | _=>exact h.elim
 | array ua n =>
  rw [hk] at h hkind
  obtain ⟨e,ie,h1,h2,h3,h4⟩:=hkind
  simp only at h
  obtain ⟨r,sg,h,ho⟩:=(outK_elim 20).1 _ _ _ h
  cases r with
  | ref cs =>
   cases cs with
   | nil=>exact h.elim
   | cons c' cs =>
    cases c' with
    | arr u m xs =>
     simp only at h
     cases hbm:Nat.beq m n with
     | false=>rw [hbm] at h; exact h.elim
     | true =>
      rw [hbm] at h
      have:=Nat.eq_of_beq_eq_true hbm
      subst this
      obtain ⟨ys,hq,he⟩:=castL_elim' h
      cases he
      obtain ⟨j,h,hj⟩:=boundK_elim hq
      obtain ⟨i,h,hii⟩:=boundK_elim h
      obtain ⟨hij,hjn,hK⟩:=h
      obtain ⟨V',hV,hs',_,hr⟩:=ho.out hs
      obtain ⟨b,o,ws,hv',hlen,hat,hrw⟩:=arr_ref (hr _ hc)
      have hb:=hb false m m i j (Nat.le_refl _) hj hii hij hjn
      rw [hv']
      have hsl:Rep w V' Loc.none (.slice (some ⟨b,o,none⟩) ys.length m) (.sl ua ys none):=Reps.sl hat hrw (by omega) (.nil _)
      have hp:=sl_piece hsl hij (by omega) (by omega)
      refine ⟨_,w,?_,_,_,_,_,_,hK,hs',hp.more (fun _ _ h=>h) (Loc.none_le _)⟩
      simp [Instr.sliceAt,Sem.run_bind,Pure.pure,Result.andThen,run_underlying h1,Instr.sureAddr,hb,run_sizeOf h2,h3]
      split <;> rfl
    | _=>exact h.elim
  | _=>exact h.elim
 | _=>rw [hk] at h; exact h.elim
end Go.Ab
namespace Go.Ab
open Go
variable {S:Sig} [Cod S]
variable {X:Type} {gl:Gl} {En:Env X} {x x':X} {w w1 w':World} {V V':Nat→Nat→Prop} {l l0:Loc} {ts:Array Value} {st:St S} {U:Nat→Prop}
theorem Reps.argB {lu:Nat→Option Nat} {fv:Option Value} {vs:List Value} {cs:List (AV S)} (h:Reps w V l vs cs):∀ n,cs.all (argB n)=true→(∀ d b,l.up d=some b→lu d=some b)→(∀ v,l.cbv=some v→fv=some v)→Reps w V (lc fv lu) vs cs:=by
 have hcons:∀ {n:Nat} {c:AV S} {cs:List (AV S)},(c :: cs).all (Go.Ab.argB n)=true→Go.Ab.argB n c=true∧cs.all (Go.Ab.argB n)=true:=fun h=>by simpa using h
 induction h with
 | nil=>exact fun _ _ _ _=>.nil _
 | @flat l v c vs cs h _ ih =>
  intro n hn hu hf
  obtain ⟨h1,h2⟩:=hcons hn
  refine .flat ?_ (ih n h2 hu hf)
  cases n with
  | zero=>cases c <;> simp [Go.Ab.argB] at h1
  | succ n =>
   cases c with
   | up d p=>obtain ⟨b,hb,hv⟩:=h; exact ⟨b,hu _ _ hb,hv⟩
   | own d p=>simp [Go.Ab.argB] at h1
   | mpv d=>simp [Go.Ab.argB] at h1
   | mpu d=>obtain ⟨b,hb,hv⟩:=h; exact ⟨b,hu _ _ hb,hv⟩
   | elp u d i p=>simp [Go.Ab.argB] at h1
   | sl u xs o =>
    cases o with
    | none=>exact h
    | some d=>simp [Go.Ab.argB] at h1
   | cb=>exact ⟨hf _ h.1,h.2⟩
   | _=>exact h
 | ref h r _ _ ih=>exact fun n hn hu hf=>.ref h r (ih n (hcons hn).2 hu hf)
 | sl h r hc _ _ ih=>exact fun n hn hu hf=>.sl h r hc (ih n (hcons hn).2 hu hf)
 | tok ht h r hc _ _ ih =>
  intro n hn hu hf
  have h1:=(hcons hn).1
  cases n <;> simp [Go.Ab.argB] at h1
 | clo r r' _ ih1 ih2 ih =>
  intro n hn hu hf
  obtain ⟨h1,h2⟩:=hcons hn
  cases n with
  | zero=>simp [Go.Ab.argB] at h1
  | succ n =>
   simp only [Go.Ab.argB,Bool.and_eq_true] at h1
   exact .clo (ih1 n h1.1 hu hf) (ih2 n h1.2 hu hf) (ih _ h2 hu hf)
 | agg r _ ih1 ih =>
  intro n hn hu hf
  obtain ⟨h1,h2⟩:=hcons hn
  cases n with
  | zero=>simp [Go.Ab.argB] at h1
  | succ n=>simp only [Go.Ab.argB] at h1; exact .agg (ih1 n h1 hu hf) (ih _ h2 hu hf)
 | tup r _ ih1 ih =>
  intro n hn hu hf
  obtain ⟨h1,h2⟩:=hcons hn
  cases n with
  | zero=>simp [Go.Ab.argB] at h1
  | succ n=>simp only [Go.Ab.argB] at h1; exact .tup (ih1 n h1 hu hf) (ih _ h2 hu hf)
 | arr hx r _ _ ih=>exact fun n hn hu hf=>.arr hx r (ih n (hcons hn).2 hu hf)
 | mpf hv hm hb r r' _ _ _ ih=>exact fun n hn hu hf=>.mpf hv hm hb r r' (ih n (hcons hn).2 hu hf)
theorem Reps.lift {lu:Nat→Option Nat} {fv:Option Value} {vs:List Value} {cs:List (AV S)} (h:Reps w V l vs cs):∀ n,cs.all (liftB n)=true→(∀ d b,l.own d=some b→lu d=some b)→(∀ v,l.cbv=some v→fv=some v)→Reps w V (lc fv lu) vs (cs.map (liftV n)):=by
 have hcons:∀ {n:Nat} {c:AV S} {cs:List (AV S)},(c :: cs).all (liftB n)=true→liftB n c=true∧cs.all (liftB n)=true:=fun h=>by simpa using h
 induction h with
 | nil=>exact fun _ _ _ _=>.nil _
 | @flat l v c vs cs h _ ih =>
  intro n hn hu hf
  obtain ⟨h1,h2⟩:=hcons hn
  rw [List.map_cons]
  refine .flat ?_ (ih n h2 hu hf)
  cases n with
  | zero=>cases c <;> simp [liftB] at h1
  | succ n =>
   cases c with
   | own d p=>obtain ⟨b,hb,hv⟩:=h; exact ⟨b,hu _ _ hb,hv⟩
   | up d p=>simp [liftB] at h1
   | mpv d=>obtain ⟨b,hb,hv⟩:=h; exact ⟨b,hu _ _ hb,hv⟩
   | mpu d=>simp [liftB] at h1
   | elp u d i p=>simp [liftB] at h1
   | sl u xs o =>
    cases o with
    | none=>exact h
    | some d=>simp [liftB] at h1
   | cb=>exact ⟨hf _ h.1,h.2⟩
   | agg cs=>exact h.elim
   | tup cs=>exact h.elim
   | clo a b c=>exact h.elim
   | _=>exact h
 | ref h r _ _ ih=>intro n hn hu hf; cases n <;> exact .ref h r (ih _ (hcons hn).2 hu hf)
 | sl h r hc _ _ ih=>intro n hn hu hf; cases n <;> exact .sl h r hc (ih _ (hcons hn).2 hu hf)
 | tok ht h r hc _ _ ih =>
  intro n hn hu hf
  have h1:=(hcons hn).1
  cases n <;> simp [liftB] at h1
 | clo r r' _ ih1 ih2 ih =>
  intro n hn hu hf
  obtain ⟨h1,h2⟩:=hcons hn
  cases n with
  | zero=>simp [liftB] at h1
  | succ n =>
   simp only [liftB,Bool.and_eq_true] at h1
   exact .clo (ih1 n h1.1 hu hf) (ih2 n h1.2 hu hf) (ih _ h2 hu hf)
 | agg r _ ih1 ih =>
  intro n hn hu hf
  obtain ⟨h1,h2⟩:=hcons hn
  cases n with
  | zero=>simp [liftB] at h1
  | succ n=>simp only [liftB] at h1; exact .agg (ih1 n h1 hu hf) (ih _ h2 hu hf)
 | tup r _ ih1 ih =>
  intro n hn hu hf
  obtain ⟨h1,h2⟩:=hcons hn
  cases n with
  | zero=>simp [liftB] at h1
  | succ n=>simp only [liftB] at h1; exact .tup (ih1 n h1 hu hf) (ih _ h2 hu hf)
 | arr hx r _ _ ih=>intro n hn hu hf; cases n <;> exact .arr hx r (ih _ (hcons hn).2 hu hf)
 | mpf hv hm hb r r' _ _ _ ih=>intro n hn hu hf; cases n <;> exact .mpf hv hm hb r r' (ih _ (hcons hn).2 hu hf)
theorem Reps.low {l':Loc} {vs:List Value} {cs:List (AV S)} (h:Reps w V l vs cs):∀ n,cs.all (lowB n)=true→(∀ d b,l.up d=some b→l'.own d=some b)→(∀ v,l.cbv=some v→l'.cbv=some v)→Reps w V l' vs (cs.map (lowV n)):=by
 have hcons:∀ {n:Nat} {c:AV S} {cs:List (AV S)},(c :: cs).all (lowB n)=true→lowB n c=true∧cs.all (lowB n)=true:=fun h=>by simpa using h
 induction h generalizing l' with
 | nil=>exact fun _ _ _ _=>.nil _
 | @flat l v c vs cs h _ ih =>
  intro n hn hu hf
  obtain ⟨h1,h2⟩:=hcons hn
  rw [List.map_cons]
  refine .flat ?_ (ih n h2 hu hf)
  cases n with
  | zero=>cases c <;> simp [lowB] at h1
  | succ n =>
   cases c with
   | up d p=>obtain ⟨b,hb,hv⟩:=h; exact ⟨b,hu _ _ hb,hv⟩
   | own d p=>simp [lowB] at h1
   | mpv d=>simp [lowB] at h1
   | mpu d=>obtain ⟨b,hb,hv⟩:=h; exact ⟨b,hu _ _ hb,hv⟩
   | elp u d i p=>simp [lowB] at h1
   | sl u xs o =>
    cases o with
    | none=>exact h
    | some d=>simp [lowB] at h1
   | cb=>exact ⟨hf _ h.1,h.2⟩
   | agg cs=>exact h.elim
   | tup cs=>exact h.elim
   | clo a b c=>exact h.elim
   | _=>exact h
 | ref h r _ _ ih=>intro n hn hu hf; cases n <;> exact .ref h r (ih _ (hcons hn).2 hu hf)
 | sl h r hc _ _ ih=>intro n hn hu hf; cases n <;> exact .sl h r hc (ih _ (hcons hn).2 hu hf)
 | tok ht h r hc _ _ ih =>
  intro n hn hu hf
  have h1:=(hcons hn).1
  cases n <;> simp [lowB] at h1
 | clo r r' _ ih1 ih2 ih =>
  intro n hn hu hf
  obtain ⟨h1,h2⟩:=hcons hn
  cases n with
  | zero=>simp [lowB] at h1
  | succ n =>
   simp only [lowB,Bool.and_eq_true] at h1
   exact .clo (ih1 n h1.1 hu hf) (ih2 n h1.2 hu hf) (ih _ h2 hu hf)
 | agg r _ ih1 ih =>
  intro n hn hu hf
  obtain ⟨h1,h2⟩:=hcons hn
  cases n with
  | zero=>simp [lowB] at h1
  | succ n=>simp only [lowB] at h1; exact .agg (ih1 n h1 hu hf) (ih _ h2 hu hf)
 | tup r _ ih1 ih =>
  intro n hn hu hf
  obtain ⟨h1,h2⟩:=hcons hn
  cases n with
  | zero=>simp [lowB] at h1
  | succ n=>simp only [lowB] at h1; exact .tup (ih1 n h1 hu hf) (ih _ h2 hu hf)
 | arr hx r _ _ ih=>intro n hn hu hf; cases n <;> exact .arr hx r (ih _ (hcons hn).2 hu hf)
 | mpf hv hm hb r r' _ _ _ ih=>intro n hn hu hf; cases n <;> exact .mpf hv hm hb r r' (ih _ (hcons hn).2 hu hf)
omit [Cod S] in
theorem upB_look:∀ {a b:List (Nat×AO S)},upB a b=true→∀ d,match lookA a d,lookA b d with
  | none,none=>True
  | some (.cells _),some (.cells cs)=>cs.all (Go.Ab.argB 6)=true
  | some (.frz _),some (.frz _)=>True
  | some (.row _ _),some (.row _ _)=>True
  | some (.mp _),some (.mp _)=>True
  | some (.mpz _ _),some (.mpz _ _)=>True
  | _,_=>False
 | [],[],_,d=>trivial
 | [],_ :: _,h,d=>by simp [upB] at h
 | _ :: _,[],h,d=>by simp [upB] at h
 | (k,a) :: l,(k',a') :: l',h,d=>by
  have hgo:Nat.beq k k'=true→upB l l'=true→(k=d→match some a,some a' with
   | none,none=>True
   | some (.cells _),some (.cells cs)=>cs.all (Go.Ab.argB 6)=true
   | some (.frz _),some (.frz _)=>True
   | some (.row _ _),some (.row _ _)=>True
   | some (.mp _),some (.mp _)=>True
   | some (.mpz _ _),some (.mpz _ _)=>True
   | _,_=>False)→match lookA ((k,a) :: l) d,lookA ((k',a') :: l') d with
   | none,none=>True
   | some (.cells _),some (.cells cs)=>cs.all (Go.Ab.argB 6)=true
   | some (.frz _),some (.frz _)=>True
   | some (.row _ _),some (.row _ _)=>True
   | some (.mp _),some (.mp _)=>True
   | some (.mpz _ _),some (.mpz _ _)=>True
   | _,_=>False:=fun h1 h3 h4=>by
   have:=Nat.eq_of_beq_eq_true h1
   subst this
   simp only [lookA]
   by_cases hk:k=d
   ·rw [if_pos hk,if_pos hk]; exact h4 hk
   rw [if_neg hk,if_neg hk]; exact upB_look h3 d
  cases a <;> cases a' <;> first
   | (simp [upB] at h; done)
   | (simp only [upB,Bool.and_eq_true] at h; exact hgo h.1 h.2 fun _=>trivial)
   | (simp only [upB,Bool.and_eq_true] at h; exact hgo h.1.1 h.2 fun _=>h.1.2)
omit [Cod S] in
theorem hasK_none {α:List (Nat×AO S)} {d:Nat} (h:hasK α d=false):lookA α d=none:=by
 induction α with
 | nil=>rfl
 | cons p l ih =>
  obtain ⟨k,a⟩:=p
  simp only [hasK] at h
  simp only [lookA]
  cases hb:Nat.beq k d with
  | true=>rw [hb] at h; cases h
  | false =>
   rw [hb] at h
   rw [if_neg (fun e=>by subst e; simp at hb)]
   exact ih h
omit [Cod S] in
theorem lookA_lift (sg:List (Nat×AO S)) (d:Nat):lookA (liftSeg sg) d=(lookA sg d).map liftO:=by
 induction sg with
 | nil=>rfl
 | cons p sg ih =>
  obtain ⟨k,a⟩:=p
  simp only [liftSeg,lookA]
  by_cases hk:k=d
  ·rw [if_pos hk,if_pos hk]; rfl
  rw [if_neg hk,if_neg hk]; exact ih
omit [Cod S] in
theorem backK_elim:∀ {ups sg:List (Nat×AO S)} {K:List (Nat×AO S)→Prop},backK ups sg K→∃ sg',K sg'∧∀ d,match lookA ups d with
  | some (.cells cs)=>cs.all (lowB 6)=true∧lookA sg' d=some (.cells (cs.map (lowV 6)))
  | some (.mp kvs)=>lookA sg' d=some (.mp kvs)
  | _=>lookA sg' d=lookA sg d
 | [],sg,K,h=>⟨sg,h,fun d=>rfl⟩
 | (k, a) :: l,sg,K,h=>by
  cases a with
  | cells cs =>
   simp only [backK] at h
   cases hb:cs.all (lowB 6) with
   | false=>rw [hb] at h; exact h.elim
   | true =>
    rw [hb] at h
    obtain ⟨sg',h,h1⟩:=backK_elim h
    simp only [putK_eq] at h
    refine ⟨_,h,fun d=>?_⟩
    simp only [lookA]
    by_cases hk:k=d
    ·rw [if_pos hk]
     exact ⟨hb,by rw [lookA_putA,if_pos hk]⟩
    rw [if_neg hk]
    have:=h1 d
    cases hl:lookA l d with
    | none=>rw [hl] at this; simp only; rw [lookA_putA,if_neg hk]; exact this
    | some ao =>
     rw [hl] at this
     cases ao with
     | cells cs'=>simp only at this ⊢; rw [lookA_putA,if_neg hk]; exact this
     | frz cs'=>simp only at this ⊢; rw [lookA_putA,if_neg hk]; exact this
     | row u f=>simp only at this ⊢; rw [lookA_putA,if_neg hk]; exact this
     | mpz ks us=>simp only at this ⊢; rw [lookA_putA,if_neg hk]; exact this
     | mp kvs=>simp only at this ⊢; rw [lookA_putA,if_neg hk]; exact this
  | frz cs =>
   simp only [backK] at h
   cases hb:hasK l k with
   | true=>rw [hb] at h; exact h.elim
   | false =>
    rw [hb] at h
    obtain ⟨sg',h,h1⟩:=backK_elim h
    refine ⟨_,h,fun d=>?_⟩
    simp only [lookA]
    by_cases hk:k=d
    ·subst hk
     rw [if_pos rfl]
     have:=h1 k
     rw [hasK_none hb] at this
     exact this
    rw [if_neg hk]; exact h1 d
  | mpz ks us =>
   simp only [backK] at h
   cases hb:hasK l k with
   | true=>rw [hb] at h; exact h.elim
   | false =>
    rw [hb] at h
    obtain ⟨sg',h,h1⟩:=backK_elim h
    refine ⟨_,h,fun d=>?_⟩
    simp only [lookA]
    by_cases hk:k=d
    ·subst hk
     rw [if_pos rfl]
     have:=h1 k
     rw [hasK_none hb] at this
     exact this
    rw [if_neg hk]; exact h1 d
  | row u f =>
   simp only [backK] at h
   cases hb:hasK l k with
   | true=>rw [hb] at h; exact h.elim
   | false =>
    rw [hb] at h
    obtain ⟨sg',h,h1⟩:=backK_elim h
    refine ⟨_,h,fun d=>?_⟩
    simp only [lookA]
    by_cases hk:k=d
    ·subst hk
     rw [if_pos rfl]
     have:=h1 k
     rw [hasK_none hb] at this
     exact this
    rw [if_neg hk]; exact h1 d
  | mp kvs =>
   simp only [backK] at h
   obtain ⟨sg',h,h1⟩:=backK_elim h
   simp only [putK_eq] at h
   refine ⟨_,h,fun d=>?_⟩
   simp only [lookA]
   by_cases hk:k=d
   ·rw [if_pos hk]
    simp only
    rw [lookA_putA,if_pos hk]
   rw [if_neg hk]
   have:=h1 d
   cases hl:lookA l d with
   | none=>rw [hl] at this; simp only; rw [lookA_putA,if_neg hk]; exact this
   | some ao =>
    rw [hl] at this
    cases ao with
    | cells cs'=>simp only at this ⊢; rw [lookA_putA,if_neg hk]; exact this
    | frz cs'=>simp only at this ⊢; rw [lookA_putA,if_neg hk]; exact this
    | row u f=>simp only at this ⊢; rw [lookA_putA,if_neg hk]; exact this
    | mpz ks us=>simp only at this ⊢; rw [lookA_putA,if_neg hk]; exact this
    | mp kvs=>simp only at this ⊢; rw [lookA_putA,if_neg hk]; exact this
end Go.Ab
namespace Go.Ab
open Go
variable {S:Sig} [Cod S]
variable {X:Type} {gl:Gl} {En:Env X} {x x':X} {w w1 w':World} {V V':Nat→Nat→Prop} {l l0:Loc} {ts:Array Value} {st:St S} {U:Nat→Prop}
structure Kept (gl:Gl) (En:Env X) (x x':X) (w w':World) (V V':Nat→Nat→Prop) (U:Nat→Prop):Prop where
 step:SubStep gl En x w U x' w'
 v:∀ b o,V b o→V' b o∧eye w' b o=eye w b o
 v':∀ b o,V' b o→b < w'.heap.size∧¬ En.EM x' b o∧(V b o∨U b∨w.heap.size≤b)
theorem Kept.mutBlock (hk:Kept gl En x x' w w' V V' U) (h:SR gl En x w V l ts st) {k:Bool} {d b:Nat} (hm:Mut l st k d b) (hu:¬ U b):w'.heap[b]?=w.heap[b]?:=by
 obtain ⟨o,hc⟩:=h.mlt hm
 exact hk.step.block b (lt_of_heap hc) (h.mine _ _ _ hm).1 hu
theorem Kept.notV (hk:Kept gl En x x' w w' V V' U) (h:SR gl En x w V l ts st) {k:Bool} {d b:Nat} (hm:Mut l st k d b) (hu:¬ U b) (o:Nat) (hn:¬ V b o):¬ V' b o:=fun hv=>by
 obtain ⟨o',hc⟩:=h.mlt hm
 rcases (hk.v' b o hv).2.2 with h1 | h1 | h1
 ·exact hn h1
 ·exact hu h1
 have:=lt_of_heap hc; omega
theorem Kept.reps (hk:Kept gl En x x' w w' V V' U) (h:SR gl En x w V l ts st) (hrow:∀ d b,(∃ u f,lookA st.seg d=some (.row u f))→Mut l st false d b→¬ U b) {vs:List Value} {cs:List (AV S)} (hr:Reps w V l vs cs):Reps w' V' l vs cs :=
 hr.mono (fun b o hv=>(hk.v b o hv).1) (fun b o hv=>(hk.v b o hv).2) l (Loc.le_refl l) fun d b n cap ht o _=>by
  obtain ⟨u,f,hl⟩:=h.regt d _ ht
  have hm:Mut l st false d b:=⟨_,hl,n,cap,ht⟩
  exact cell_congr (hk.mutBlock h hm (hrow d b ⟨u,f,hl⟩ hm)) o
theorem Kept.repsN (hk:Kept gl En x x' w w' V V' U) {vs:List Value} {cs:List (AV S)} (hr:Reps w V Loc.none vs cs):Reps w' V' Loc.none vs cs :=
 hr.mono (fun b o hv=>(hk.v b o hv).1) (fun b o hv=>(hk.v b o hv).2) _ (Loc.le_refl _) fun d b n cap ht=>by simp [Loc.none] at ht
theorem Kept.at (hk:Kept gl En x x' w w' V V' U) {b o:Nat} {ws:List Value} (h:CellsAt w V b o ws):CellsAt w' V' b o ws :=
 h.mono (fun b o hv=>(hk.v b o hv).1) fun b o hv=>(hk.v b o hv).2
theorem Kept.obj (hk:Kept gl En x x' w w' V V' U) (h:SR gl En x w V l ts st) (hrow:∀ d b,(∃ u f,lookA st.seg d=some (.row u f))→Mut l st false d b→¬ U b) {d:Nat} {ao:AO S} (hd:lookA st.seg d=some ao) (hu:∀ b,Mut l st false d b→¬ U b)
  (ho:ObOk w V l l d ao):ObOk w' V' l l d ao:=by
 cases ao with
 | cells cs =>
  obtain ⟨b,hb,c,el,h1,h2,h3⟩:=ho
  have hm:Mut l st false d b:=⟨_,hd,hb⟩
  exact ⟨b,hb,c,el,by rw [hk.mutBlock h hm (hu b hm)]; exact h1,hk.reps h hrow h2,fun o=>hk.notV h hm (hu b hm) o (h3 o)⟩
 | frz cs =>
  obtain ⟨b,ws,hb,h1,h2⟩:=ho
  exact ⟨b,ws,hb,hk.at h1,hk.repsN h2⟩
 | row u f =>
  obtain ⟨t,ht,h1⟩:=ho
  refine ⟨t,ht,?_⟩
  cases t with
  | no=>trivial
  | «at» b n cap =>
   obtain ⟨c,el,h2,h3,h4,h5⟩:=h1
   have hm:Mut l st false d b:=⟨_,hd,n,cap,ht⟩
   refine ⟨c,el,by rw [hk.mutBlock h hm (hu b hm)]; exact h2,h3,h4,?_⟩
   cases f with
   | true=>exact fun o=>hk.notV h hm (hu b hm) o (h5 o)
   | false=>exact fun o=>⟨fun hv=>Classical.byContradiction fun hn=>hk.notV h hm (hu b hm) o (fun hv'=>hn ((h5 o).1 hv')) hv,fun ho=>(hk.v b o ((h5 o).2 ho)).1⟩
 | mp kvs =>
  obtain ⟨b,hb,hmp⟩:=ho
  have hm:Mut l st false d b:=⟨_,hd,hb⟩
  exact ⟨b,hb,hmp.mono (hk.mutBlock h hm (hu b hm)) hk.repsN fun o=>hk.notV h hm (hu b hm) o (by obtain ⟨es,ck,_,_,h3⟩:=hmp; exact h3 o)⟩
 | mpz ks us=>obtain ⟨b2,hb2,hmz⟩:=ho; exact ⟨b2,hb2,hk.repsN hmz⟩
theorem SR.calledUp (h:SR gl En x w V l ts st) (hU:∀ b,U b↔∃ d,Mut l st true d b) (hk:Kept gl En x x' w w' V V' U) {ups:List (Nat×AO S)} (_hub:upB st.up ups=true)
  (huo:UpsOk gl w' V' (lc En.fv l.up) ups U):SR gl En x' w' V' l ts { st with up:=ups }:=by
 have hne:∀ d b,Mut l st false d b→¬ U b:=fun d b hm hu=>by
  obtain ⟨d',hm'⟩:=(hU b).1 hu
  have:=(h.dis _ _ _ _ _ hm hm').1
  cases this
 have hrow:∀ d b,(∃ u f,lookA st.seg d=some (.row u f))→Mut l st false d b→¬ U b:=fun d b _ hm=>hne d b hm
 have hlc:(lc En.fv l.up).le l:=⟨fun _ _ h=>by simp [lc] at h,fun _ _ h=>h,fun _ _ h=>by simp [lc] at h,fun v e=>by rw [h.cb.cb]; exact e⟩
 have hmu:∀ {d b},Mut l { st with up:=ups } true d b→U b∧gl.g0≤b:=fun {d b} hm=>by
  obtain ⟨ao,h1,hu,h2⟩:=hm
  exact huo.mine d ao b h1 hu h2
 refine ⟨Loc.le_refl _,h.cb.world (fun b o hv=>(hk.v b o hv).1) (fun b o hv=>(hk.v b o hv).2),hk.step.inv,hk.step.g,fun b o hv=>(hk.v' b o hv).1,fun b o hv=>(hk.v' b o hv).2.1,h.sz,
  fun i c hi=>hk.reps h hrow (h.tmps i c hi),fun d ao hd=>hk.obj h hrow hd (fun b hm=>hne d b hm) (h.seg d ao hd),fun d ao hd=>?_,h.rego,h.regt,fun k d b hm=>?_,fun k d k' d' b h1 h2=>?_⟩
 ·have:=huo.ok d ao hd
  cases ao with
  | cells cs=>obtain ⟨b,hb,c,el,h1,h2,h3⟩:=this; exact ⟨b,hb,c,el,h1,h2.more (fun _ _ h=>h) (Loc.notok_le hlc),h3⟩
  | frz cs=>exact this
  | row u f=>trivial
  | mpz ks us=>exact this
  | mp kvs=>exact this
 ·cases k with
  | false =>
   have hm':Mut l st false d b:=hm
   obtain ⟨o,hc⟩:=h.mlt hm'
   have hlt:=lt_of_heap hc
   refine ⟨fun hE=>(hk.step.e b hE).elim (h.mine _ _ _ hm').1 fun h2=>by omega,(h.mine _ _ _ hm').2⟩
  | true =>
   obtain ⟨hu,hg⟩:=hmu hm
   obtain ⟨d',hm'⟩:=(hU b).1 hu
   obtain ⟨o,hc⟩:=h.mlt hm'
   have hlt:=lt_of_heap hc
   exact ⟨fun hE=>(hk.step.e b hE).elim (h.mine _ _ _ hm').1 fun h2=>by omega,hg⟩
 cases k with
 | false =>
  cases k' with
  | false=>exact h.dis false d false d' b h1 h2
  | true=>exact absurd (hmu h2).1 (hne d b h1)
 | true =>
  cases k' with
  | false=>exact absurd (hmu h1).1 (hne d' b h2)
  | true =>
   obtain ⟨ao,h3,hu,h4⟩:=h1
   obtain ⟨ao',h5,hu',h6⟩:=h2
   exact ⟨rfl,huo.dis d ao d' ao' b h3 hu h5 hu' h4 h6⟩
omit [Cod S] in
theorem lift_mut {sg:List (Nat×AO S)} {d:Nat} {ao:AO S} (hd:lookA (liftSeg sg) d=some ao) (hu:MutU ao):∃ ao0,lookA sg d=some ao0∧MutU ao0:=by
 rw [lookA_lift] at hd
 cases hl:lookA sg d with
 | none=>rw [hl] at hd; cases hd
 | some a0 =>
  rw [hl] at hd
  cases a0 with
  | cells cs0=>exact ⟨_,rfl,trivial⟩
  | frz cs0=>cases hd; exact hu.elim
  | row u f=>cases hd; exact hu.elim
  | mpz ks us=>cases hd; exact hu.elim
  | mp kvs=>exact ⟨_,rfl,trivial⟩
omit [Cod S] in
theorem mutO_own {l:Loc} {d b:Nat} {ao:AO S} (hu:MutU ao):MutO l d ao b↔l.own d=some b:=by
 cases ao with
 | cells cs=>exact Iff.rfl
 | mp kvs=>exact Iff.rfl
 | mpz ks us=>exact hu.elim
 | frz cs=>exact hu.elim
 | row u f=>exact hu.elim
theorem SR.calledOwn (h:SR gl En x w V l ts st) (hup:st.up=[]) (hU:∀ b,U b↔∃ d ao,lookA (liftSeg st.seg) d=some ao∧MutU ao∧l.own d=some b) (hk:Kept gl En x x' w w' V V' U) {ups:List (Nat×AO S)} (hub:upB (liftSeg st.seg) ups=true)
  (huo:UpsOk gl w' V' (lc En.fv l.own) ups U) {sg:List (Nat×AO S)} (hsg:∀ d,match lookA ups d with
   | some (.cells cs)=>cs.all (lowB 6)=true∧lookA sg d=some (.cells (cs.map (lowV 6)))
   | some (.mp kvs)=>lookA sg d=some (.mp kvs)
   | _=>lookA sg d=lookA st.seg d):SR gl En x' w' V' l ts { st with seg:=sg }:=by
 have hUm:∀ {b},U b→∃ d ao0,lookA st.seg d=some ao0∧MutU ao0∧l.own d=some b∧∃ ao,lookA (liftSeg st.seg) d=some ao∧MutU ao:=fun {b} hb=>by
  obtain ⟨d,ao,h1,hu,h2⟩:=(hU b).1 hb
  obtain ⟨ao0,h3,hu0⟩:=lift_mut h1 hu
  exact ⟨d,ao0,h3,hu0,h2,ao,h1,hu⟩
 have hUd:∀ {d b},Mut l st false d b→U b→∃ ao,lookA (liftSeg st.seg) d=some ao∧MutU ao:=fun {d b} hm hb=>by
  obtain ⟨d',ao0,h1,hu0,h2,h3⟩:=hUm hb
  have:=(h.dis _ _ _ _ _ hm (show Mut l st false d' b from ⟨_,h1,(mutO_own hu0).2 h2⟩)).2
  subst this
  exact h3
 have hrow:∀ d b,(∃ u f,lookA st.seg d=some (.row u f))→Mut l st false d b→¬ U b:=fun d b ⟨u,f,hd⟩ hm hb=>by
  obtain ⟨ao,h1,hu⟩:=hUd hm hb
  obtain ⟨ao0,h2,hu0⟩:=lift_mut h1 hu
  rw [hd] at h2; cases h2; exact hu0
 have hlook:=upB_look hub
 have hnow:∀ d,(∃ ao0 ao,lookA st.seg d=some ao0∧MutU ao0∧lookA ups d=some ao∧MutU ao∧((∃ cs,ao=.cells cs∧cs.all (lowB 6)=true∧lookA sg d=some (.cells (cs.map (lowV 6))))∨∃ kvs,ao=.mp kvs∧lookA sg d=some (.mp kvs))) ∨
   (lookA sg d=lookA st.seg d∧∀ ao,lookA (liftSeg st.seg) d=some ao→¬ MutU ao):=fun d=>by
  have h1:=hlook d
  have h2:=hsg d
  cases hu:lookA ups d with
  | none =>
   rw [hu] at h1 h2
   refine .inr ⟨h2,fun ao e=>?_⟩
   rw [e] at h1; exact absurd h1 (by cases ao <;> exact id)
  | some ao =>
   rw [hu] at h1 h2
   cases hl:lookA (liftSeg st.seg) d with
   | none=>rw [hl] at h1; exact h1.elim
   | some ao1 =>
    rw [hl] at h1
    cases ao with
    | cells cs =>
     left
     cases ao1 with
     | cells cs1=>obtain ⟨ao0,h3,hu0⟩:=lift_mut hl trivial; exact ⟨ao0,_,h3,hu0,rfl,trivial,.inl ⟨cs,rfl,h2⟩⟩
     | frz cs1=>exact h1.elim
     | row u f=>exact h1.elim
     | mp kvs=>exact h1.elim
     | mpz ks us=>exact h1.elim
    | mp kvs =>
     left
     cases ao1 with
     | mp kvs1=>obtain ⟨ao0,h3,hu0⟩:=lift_mut hl trivial; exact ⟨ao0,_,h3,hu0,rfl,trivial,.inr ⟨kvs,rfl,h2⟩⟩
     | frz cs1=>exact h1.elim
     | row u f=>exact h1.elim
     | mpz ks us=>exact h1.elim
     | cells cs1=>exact h1.elim
    | frz cs =>
     refine .inr ⟨h2,fun ao e=>?_⟩
     cases e
     cases ao1 <;> first | exact h1.elim | exact id
    | row u f =>
     refine .inr ⟨h2,fun ao e=>?_⟩
     cases e
     cases ao1 <;> first | exact h1.elim | exact id
    | mpz ks us =>
     refine .inr ⟨h2,fun ao e=>?_⟩
     cases e
     cases ao1 <;> first | exact h1.elim | exact id
 have hM:∀ {k d b},Mut l { st with seg:=sg } k d b→Mut l st k d b:=fun {k d b} hm=>by
  cases k with
  | true=>exact hm
  | false =>
   obtain ⟨ao,h1,h2⟩:=hm
   rcases hnow d with ⟨ao0,ao1,h3,hu0,h4,hu1,h5⟩ | ⟨h3,h4⟩
   ·refine ⟨_,h3,(mutO_own hu0).2 ?_⟩
    simp only at h1
    rcases h5 with ⟨cs,_,_,h6⟩ | ⟨kvs,_,h6⟩
    ·rw [h6] at h1; cases h1; exact h2
    rw [h6] at h1; cases h1; exact h2
   exact ⟨ao,by rw [←h3]; exact h1,h2⟩
 have hlow:∀ {vs:List Value} {cs:List (AV S)},cs.all (lowB 6)=true→Reps w' V' (lc En.fv l.own).notok vs cs→Reps w' V' l vs (cs.map (lowV 6)):=fun hl hr =>
  hr.low 6 hl (fun d b e=>e) fun v e=>by rw [h.cb.cb]; exact e
 refine ⟨Loc.le_refl _,h.cb.world (fun b o hv=>(hk.v b o hv).1) (fun b o hv=>(hk.v b o hv).2),hk.step.inv,hk.step.g,fun b o hv=>(hk.v' b o hv).1,fun b o hv=>(hk.v' b o hv).2.1,h.sz,
  fun i c hi=>hk.reps h hrow (h.tmps i c hi),fun d ao hd=>?_,fun d ao hd=>?_,fun d b hb=>?_,fun d t ht=>?_,fun k d b hm=>?_,fun k d k' d' b h1 h2=>h.dis _ _ _ _ _ (hM h1) (hM h2)⟩
 ·simp only at hd
  rcases hnow d with ⟨ao0,ao1,h3,hu0,h4,hu1,h5⟩ | ⟨h3,h4⟩
  ·rcases h5 with ⟨cs,rfl,h6,h7⟩ | ⟨kvs,rfl,h7⟩
   ·rw [h7] at hd; cases hd
    obtain ⟨b,hb,c,el,h8,h9,h10⟩:=huo.ok d _ h4
    exact ⟨b,hb,c,el,h8,hlow h6 h9,h10⟩
   rw [h7] at hd; cases hd
   exact huo.ok d _ h4
  rw [h3] at hd
  exact hk.obj h hrow hd (fun b hm hb=>by obtain ⟨ao1,h5,hu⟩:=hUd hm hb; exact h4 ao1 h5 hu) (h.seg d ao hd)
 ·simp only at hd
  rw [hup] at hd
  simp [lookA] at hd
 ·obtain ⟨cs,h1,h2⟩:=h.rego d b hb
  rcases hnow d with ⟨ao0,ao1,h3,hu0,h4,hu1,h5⟩ | ⟨h3,h4⟩
  ·rcases h5 with ⟨cs,_,_,h6⟩ | ⟨kvs,_,h6⟩
   ·exact ⟨_,h6,trivial⟩
   exact ⟨_,h6,trivial⟩
  exact ⟨cs,by simp only; rw [h3]; exact h1,h2⟩
 ·obtain ⟨u,f,h1⟩:=h.regt d t ht
  rcases hnow d with ⟨ao0,ao1,h3,hu0,h4,hu1,h5⟩ | ⟨h3,h4⟩
  ·rw [h1] at h3; cases h3; exact hu0.elim
  exact ⟨u,f,by simp only; rw [h3]; exact h1⟩
 have hm':=hM hm
 obtain ⟨o,hc⟩:=h.mlt hm'
 have hlt:=lt_of_heap hc
 exact ⟨fun hE=>(hk.step.e b hE).elim (h.mine _ _ _ hm').1 fun h2=>by omega,(h.mine _ _ _ hm').2⟩
end Go.Ab
namespace Go.Ab
open Go
variable {S:Sig}
theorem beq_ne {a b:Nat} (h:a≠b):Nat.beq a b=false:=by
 cases hb:Nat.beq a b with
 | true=>exact absurd (Nat.eq_of_beq_eq_true hb) h
 | false=>rfl
theorem memb_of_mem:∀ {l:List Nat} {d:Nat},d∈l→memb l d=true
 | a :: l,d,h=>by
  simp only [memb]
  by_cases hd:a=d
  ·subst hd; rw [Nat.beq_refl]
  rw [beq_ne hd]; exact memb_of_mem ((List.mem_cons.1 h).resolve_left (Ne.symm hd))
theorem mem_of_memb:∀ {l:List Nat} {d:Nat},memb l d=true→d∈l
 | [],d,h=>by simp [memb] at h
 | a :: l,d,h=>by
  simp only [memb] at h
  by_cases hd:a=d
  ·subst hd; exact List.mem_cons_self
  rw [beq_ne hd] at h; exact List.mem_cons_of_mem _ (mem_of_memb h)
theorem mem_firsts:∀ {rn:List (Nat×Nat)} {d e:Nat},(d,e)∈rn→d∈firsts rn
 | (a,b) :: l,d,e,h=>by
  rcases List.mem_cons.1 h with h | h
  ·cases h; exact List.mem_cons_self
  exact List.mem_cons_of_mem _ (mem_firsts h)
theorem lookA_in:∀ {rn:List (Nat×Nat)} {d e:Nat},lookA rn d=some e→(d,e)∈rn
 | [],d,e,h=>by simp [lookA] at h
 | (a,b) :: l,d,e,h=>by
  simp only [lookA] at h
  by_cases hd:a=d
  ·subst hd; rw [if_pos rfl] at h; cases h; exact List.mem_cons_self
  rw [if_neg hd] at h; exact List.mem_cons_of_mem _ (lookA_in h)
theorem lookA_of_in:∀ {rn:List (Nat×Nat)},freeN (firsts rn)=true→∀ {d e:Nat},(d,e)∈rn→lookA rn d=some e
 | (a,b) :: l,hf,d,e,h=>by
  simp only [firsts,freeN,Bool.and_eq_true,Bool.not_eq_true'] at hf
  simp only [lookA]
  rcases List.mem_cons.1 h with h | h
  ·cases h; rw [if_pos rfl]
  have hd:a≠d:=fun e'=>by subst e'; rw [memb_of_mem (mem_firsts h)] at hf; cases hf.1
  rw [if_neg hd]; exact lookA_of_in hf.2 h
theorem mem_swap:∀ {rn:List (Nat×Nat)} {d e:Nat},(d,e)∈rn↔(e,d)∈swapL rn
 | [],d,e=>by simp [swapL]
 | (a,b) :: l,d,e=>by
  simp only [swapL,List.mem_cons,Prod.mk.injEq]
  rw [mem_swap (rn:=l)]
  exact ⟨fun h=>h.imp (fun h=>⟨h.2,h.1⟩) id,fun h=>h.imp (fun h=>⟨h.2,h.1⟩) id⟩
theorem lookA_swap {rn:List (Nat×Nat)} (h1:freeN (firsts rn)=true) (h2:freeN (firsts (swapL rn))=true) {d e:Nat}:lookA rn d=some e↔lookA (swapL rn) e=some d :=
 ⟨fun h=>lookA_of_in h2 (mem_swap.1 (lookA_in h)),fun h=>lookA_of_in h1 (mem_swap.2 (lookA_in h))⟩
theorem memb_firsts {rn:List (Nat×Nat)} {d:Nat} (h:lookA rn d=none):memb (firsts rn) d=false:=by
 induction rn with
 | nil=>rfl
 | cons p l ih =>
  obtain ⟨a,b⟩:=p
  simp only [lookA] at h
  by_cases hd:a=d
  ·subst hd; rw [if_pos rfl] at h; cases h
  rw [if_neg hd] at h; simp only [firsts,memb,beq_ne hd]; exact ih h
theorem memb_firsts' {rn:List (Nat×Nat)} {d:Nat} (h:memb (firsts rn) d=false):lookA rn d=none:=by
 induction rn with
 | nil=>rfl
 | cons p l ih =>
  obtain ⟨a,b⟩:=p
  simp only [lookA]
  by_cases hd:a=d
  ·subst hd; simp only [firsts,memb,Nat.beq_refl] at h; cases h
  rw [if_neg hd]; simp only [firsts,memb,beq_ne hd] at h; exact ih h
variable [Cod S]
variable {X:Type} {gl:Gl} {En:Env X} {x:X} {w w':World} {V V':Nat→Nat→Prop} {l l0 l':Loc} {ts:Array Value} {st:St S}
def RenL (rn:List (Nat×Nat)) (l l':Loc):Prop:=∀ d e,lookA rn d=some e→(∀ b,l.own d=some b→l'.own e=some b)∧∀ t,l.tok d=some t→l'.tok e=some t
theorem RenL.notok {rn:List (Nat×Nat)} (h:RenL rn l l'):RenL rn l.notok l'.notok:=fun d e hd=>⟨(h d e hd).1,fun t ht=>by simp [Loc.notok] at ht⟩
def RenLs (rn:List (Nat×Nat)) (cs cs':List (AV S)):Prop:=∀ w V l l',RenL rn l l'→∀ ws,Reps w V l ws cs→Reps w V l' ws cs'
theorem renK_elim:∀ (n:Nat),(∀ (rn:List (Nat×Nat)) (v:AV S) (K:AV S→Prop),renK n rn v K→∃ v',K v'∧RenLs rn [v] [v']) ∧
  (∀ (rn:List (Nat×Nat)) (cs:List (AV S)) (K:List (AV S)→Prop),renK.renLK n rn cs K→∃ cs',K cs'∧RenLs rn cs cs')
 | 0=>⟨fun rn v K h=>by simp [renK] at h,fun rn cs K h=>by
   cases cs with
   | nil=>exact ⟨[],by simpa [renK.renLK] using h,fun w V l l' _ ws hr=>by rw [hr.nil_inv]; exact .nil _⟩
   | cons v vs=>simp [renK.renLK] at h⟩
 | n + 1=>by
  obtain ⟨ih1,ih2⟩:=renK_elim n
  constructor
  ·intro rn v K h
   cases v with
   | undef=>simp [renK] at h
   | skip=>simp [renK] at h
   | up d p=>simp [renK] at h
   | cb=>simp [renK] at h
   | mpu d=>simp [renK] at h
   | elp u d i p=>simp [renK] at h
   | own d p =>
    simp only [renK] at h
    rw [findK_eq] at h
    cases hl:lookA rn d with
    | none=>rw [hl] at h; exact h.elim
    | some e =>
     rw [hl] at h
     refine ⟨_,h,fun w V l l' hL ws hr=>?_⟩
     cases hr with
     | flat hf t=>rw [t.nil_inv]; obtain ⟨b,hb,hv⟩:=hf; exact .flat ⟨b,(hL d e hl).1 b hb,hv⟩ (.nil _)
   | mpv d =>
    simp only [renK] at h
    rw [findK_eq] at h
    cases hl:lookA rn d with
    | none=>rw [hl] at h; exact h.elim
    | some e =>
     rw [hl] at h
     refine ⟨_,h,fun w V l l' hL ws hr=>?_⟩
     cases hr with
     | flat hf t=>rw [t.nil_inv]; obtain ⟨b,hb,hv⟩:=hf; exact .flat ⟨b,(hL d e hl).1 b hb,hv⟩ (.nil _)
   | sl u xs o =>
    cases o with
    | none =>
     simp only [renK] at h
     refine ⟨_,h,fun w V l l' hL ws hr=>?_⟩
     cases hr with
     | flat hf t=>rw [t.nil_inv]; exact .flat hf (.nil _)
     | sl hc r hcp t=>rw [t.nil_inv]; exact .sl hc r hcp (.nil _)
    | some d =>
     simp only [renK] at h
     rw [findK_eq] at h
     cases hl:lookA rn d with
     | none=>rw [hl] at h; exact h.elim
     | some e =>
      rw [hl] at h
      refine ⟨_,h,fun w V l l' hL ws hr=>?_⟩
      cases hr with
      | flat hf t=>rw [t.nil_inv]; exact .flat ⟨hf.1,(hL d e hl).2 _ hf.2.1,hf.2.2⟩ (.nil _)
      | tok ht hc r hcp t=>rw [t.nil_inv]; exact .tok ((hL d e hl).2 _ ht) hc r hcp (.nil _)
   | agg cs =>
    simp only [renK] at h
    obtain ⟨cs',hK,hR⟩:=ih2 _ _ _ h
    refine ⟨_,hK,fun w V l l' hL ws hr=>?_⟩
    cases hr with
    | flat hf t=>exact hf.elim
    | agg r t=>rw [t.nil_inv]; exact .agg (hR _ _ _ _ hL _ r) (.nil _)
   | tup cs =>
    simp only [renK] at h
    obtain ⟨cs',hK,hR⟩:=ih2 _ _ _ h
    refine ⟨_,hK,fun w V l l' hL ws hr=>?_⟩
    cases hr with
    | flat hf t=>exact hf.elim
    | tup r t=>rw [t.nil_inv]; exact .tup (hR _ _ _ _ hL _ r) (.nil _)
   | clo fn f c =>
    simp only [renK] at h
    obtain ⟨f',h,hR⟩:=ih2 _ _ _ h
    obtain ⟨c',hK,hR'⟩:=ih2 _ _ _ h
    refine ⟨_,hK,fun w V l l' hL ws hr=>?_⟩
    cases hr with
    | flat hf t=>exact hf.elim
    | clo r r' t=>rw [t.nil_inv]; exact .clo (hR _ _ _ _ hL.notok _ r) (hR' _ _ _ _ hL.notok _ r') (.nil _)
   | ref cs =>
    simp only [renK] at h
    refine ⟨_,h,fun w V l l' hL ws hr=>?_⟩
    cases hr with
    | flat hf t=>rw [t.nil_inv]; exact .flat hf (.nil _)
    | ref hc r t=>rw [t.nil_inv]; exact .ref hc r (.nil _)
   | arr u n xs =>
    simp only [renK] at h
    refine ⟨_,h,fun w V l l' hL ws hr=>?_⟩
    cases hr with
    | flat hf t=>rw [t.nil_inv]; exact .flat hf (.nil _)
    | arr hx r t=>rw [t.nil_inv]; exact .arr hx r (.nil _)
   | mpf ks us =>
    simp only [renK] at h
    refine ⟨_,h,fun w V l l' hL ws hr=>?_⟩
    cases hr with
    | flat hf t=>rw [t.nil_inv]; exact .flat hf (.nil _)
    | mpf hv hm hb r r' t=>rw [t.nil_inv]; exact .mpf hv hm hb r r' (.nil _)
   | _ =>
    simp only [renK] at h
    refine ⟨_,h,fun w V l l' hL ws hr=>?_⟩
    cases hr with
    | flat hf t=>rw [t.nil_inv]; exact .flat hf (.nil _)
  intro rn cs K h
  cases cs with
  | nil=>exact ⟨[],by simpa [renK.renLK] using h,fun w V l l' _ ws hr=>by rw [hr.nil_inv]; exact .nil _⟩
  | cons v vs =>
   simp only [renK.renLK] at h
   obtain ⟨v',h,hR⟩:=ih1 _ _ _ h
   obtain ⟨vs',hK,hR'⟩:=ih2 _ _ _ h
   refine ⟨_,hK,fun w V l l' hL ws hr=>?_⟩
   obtain ⟨ua,ub,rfl,ha,hb⟩:=hr.uncons
   exact (hR _ _ _ _ hL _ ha).append (hR' _ _ _ _ hL _ hb)
def RenO (rn:List (Nat×Nat)) (a a':AO S):Prop:=match a,a' with
 | .cells cs,.cells cs'=>RenLs rn cs cs'
 | .frz cs,.frz cs'=>cs=cs'
 | .row u f,.row u' f'=>u=u'∧f=f'
 | .mp kvs,.mp kvs'=>kvs=kvs'
 | .mpz ks us,.mpz ks' us'=>ks=ks'∧us=us'
 | _,_=>False
theorem renOK_elim {rn:List (Nat×Nat)} {a:AO S} {K:AO S→Prop} (h:renOK rn a K):∃ a',K a'∧RenO rn a a':=by
 cases a with
 | cells cs=>obtain ⟨cs',hK,hR⟩:=(renK_elim 60).2 _ _ _ h; exact ⟨_,hK,hR⟩
 | frz cs=>exact ⟨_,h,rfl⟩
 | row u f=>exact ⟨_,h,rfl,rfl⟩
 | mp kvs=>exact ⟨_,h,rfl⟩
 | mpz ks us=>exact ⟨_,h,rfl,rfl⟩
theorem RenO.box {rn:List (Nat×Nat)} {a a':AO S} (h:RenO rn a a'):BoxO a↔BoxO a':=by
 cases a <;> cases a' <;> first | exact h.elim | exact Iff.rfl
theorem RenO.row {rn:List (Nat×Nat)} {a a':AO S} (h:RenO rn a a'):(∃ u f,a=.row u f)↔∃ u f,a'=.row u f:=by
 cases a <;> cases a' <;> first | exact h.elim | simp
theorem RenO.ok {rn:List (Nat×Nat)} {a a':AO S} (h:RenO rn a a') (hL:RenL rn l l') {d e:Nat} (hd:lookA rn d=some e) (ho:ObOk w V l l d a):ObOk w V l' l' e a':=by
 cases a <;> cases a' <;> try exact h.elim
 case cells.cells cs cs' =>
  obtain ⟨b,hb,c,el,h1,h2,h3⟩:=ho
  exact ⟨b,(hL d e hd).1 b hb,c,el,h1,h _ _ _ _ hL _ h2,h3⟩
 case frz.frz cs cs'=>cases h; obtain ⟨b,ws,hb,h1⟩:=ho; exact ⟨b,ws,(hL d e hd).1 b hb,h1⟩
 case row.row u f u' f'=>obtain ⟨rfl,rfl⟩:=h; obtain ⟨t,ht,h1⟩:=ho; exact ⟨t,(hL d e hd).2 t ht,h1⟩
 case mp.mp kvs kvs'=>cases h; obtain ⟨b,hb,h1⟩:=ho; exact ⟨b,(hL d e hd).1 b hb,h1⟩
 case mpz.mpz=>obtain ⟨rfl,rfl⟩:=h; obtain ⟨b,hb,h1⟩:=ho; exact ⟨b,(hL d e hd).1 b hb,h1⟩
theorem RenO.mut {rn:List (Nat×Nat)} {a a':AO S} (h:RenO rn a a') {d e b:Nat} (ho:∀ b,l'.own e=some b→l.own d=some b) (ht:∀ t,l'.tok e=some t→l.tok d=some t) (hm:MutO l' e a' b):MutO l d a b:=by
 cases a <;> cases a' <;> try exact h.elim
 case cells.cells cs cs'=>exact ho _ hm
 case frz.frz=>exact hm
 case row.row=>obtain ⟨n,cap,hm⟩:=hm; exact ⟨n,cap,ht _ hm⟩
 case mp.mp=>exact ho _ hm
 case mpz.mpz=>exact hm
theorem pickK_elim (rn:List (Nat×Nat)) (sg:List (Nat×AO S)):∀ (ps:List (Nat×Nat)) (K:List (Nat×AO S)→Prop),freeN (firsts (swapL ps))=true→pickK rn sg ps K→∃ sg',K sg' ∧
  (∀ e a',lookA sg' e=some a'→∃ d a,lookA (swapL ps) e=some d∧lookA sg d=some a∧RenO rn a a') ∧
  (∀ e d a,lookA (swapL ps) e=some d→lookA sg d=some a→∃ a',lookA sg' e=some a'∧RenO rn a a')
 | [],K,_,h=>⟨[],h,fun e a' h=>by simp [lookA] at h,fun e d a h=>by simp [swapL,lookA] at h⟩
 | (d,e) :: ps,K,hf,h=>by
  simp only [swapL,firsts,freeN,Bool.and_eq_true,Bool.not_eq_true'] at hf
  obtain ⟨hf1,hf2⟩:=hf
  have hne:lookA (swapL ps) e=none:=memb_firsts' hf1
  simp only [pickK] at h
  rw [findK_eq] at h
  cases hl:lookA sg d with
  | none =>
   rw [hl] at h
   obtain ⟨sg',hK,h1,h2⟩:=pickK_elim rn sg ps K hf2 h
   refine ⟨sg',hK,fun e' a' he=>?_,fun e' d' a he hd=>?_⟩
   ·obtain ⟨d2,a,h3,h4⟩:=h1 e' a' he
    refine ⟨d2,a,?_,h4⟩
    simp only [swapL,lookA]
    rw [if_neg]
    ·exact h3
    rintro rfl; rw [hne] at h3; cases h3
   simp only [swapL,lookA] at he
   by_cases hee:e=e'
   ·subst hee; rw [if_pos rfl] at he; cases he; rw [hl] at hd; cases hd
   rw [if_neg hee] at he; exact h2 e' d' a he hd
  | some a0 =>
   rw [hl] at h
   obtain ⟨a0',h,hR⟩:=renOK_elim h
   obtain ⟨sg',hK,h1,h2⟩:=pickK_elim rn sg ps _ hf2 h
   refine ⟨_,hK,fun e' a' he=>?_,fun e' d' a he hd=>?_⟩
   ·simp only [lookA] at he
    by_cases hee:e=e'
    ·subst hee; rw [if_pos rfl] at he; cases he; exact ⟨d,a0,by simp [swapL,lookA],hl,hR⟩
    rw [if_neg hee] at he
    obtain ⟨d2,a,h3,h4⟩:=h1 e' a' he
    exact ⟨d2,a,by simp only [swapL,lookA]; rw [if_neg hee]; exact h3,h4⟩
   simp only [swapL,lookA] at he
   simp only [lookA]
   by_cases hee:e=e'
   ·subst hee; rw [if_pos rfl] at he; cases he; rw [hl] at hd; cases hd; rw [if_pos rfl]; exact ⟨_,rfl,hR⟩
   rw [if_neg hee] at he ⊢; exact h2 e' d' a he hd
theorem backLK_elim (nr:List (Nat×Nat)) (hinj:∀ e e' d,lookA nr e=some d→lookA nr e'=some d→e=e'):∀ (ps sg:List (Nat×AO S)) (K:List (Nat×AO S)→Prop),backLK nr ps sg K→∃ sg',K sg' ∧
  (∀ e a,lookA ps e=some a→∃ d a',lookA nr e=some d∧RenO nr a a'∧lookA sg' d=some a') ∧
  (∀ d,(∀ e a,lookA ps e=some a→lookA nr e≠some d)→lookA sg' d=lookA sg d) ∧
  (∀ d a',lookA sg' d=some a'→(∃ e a,lookA ps e=some a∧lookA nr e=some d∧RenO nr a a')∨lookA sg d=some a')
 | [],sg,K,h=>⟨sg,h,fun e a h=>by simp [lookA] at h,fun d _=>rfl,fun d a' h=>.inr h⟩
 | (e, a) :: ps,sg,K,h=>by
  simp only [backLK] at h
  obtain ⟨sg1,h,h1,h2,h3⟩:=backLK_elim nr hinj ps sg _ h
  rw [findK_eq] at h
  cases hl:lookA nr e with
  | none=>rw [hl] at h; exact h.elim
  | some d =>
   rw [hl] at h
   obtain ⟨a',h,hR⟩:=renOK_elim h
   simp only [putK_eq] at h
   refine ⟨_,h,fun e' b he=>?_,fun d' hd=>?_,fun d' b' hd=>?_⟩
   ·simp only [lookA] at he
    by_cases hee:e=e'
    ·subst hee; rw [if_pos rfl] at he; cases he; exact ⟨d,a',hl,hR,by rw [lookA_putA,if_pos rfl]⟩
    rw [if_neg hee] at he
    obtain ⟨d2,b',h4,h5,h6⟩:=h1 e' b he
    refine ⟨d2,b',h4,h5,?_⟩
    rw [lookA_putA,if_neg]
    ·exact h6
    rintro rfl; exact hee (hinj _ _ _ hl h4)
   ·rw [lookA_putA,if_neg]
    ·refine h2 d' fun e' b he=>?_
     by_cases hee:e=e'
     ·subst hee; exact hd e a (by simp [lookA])
     exact hd e' b (by simp only [lookA]; rw [if_neg hee]; exact he)
    rintro rfl; exact hd e a (by simp [lookA]) hl
   rw [lookA_putA] at hd
   by_cases hdd:d=d'
   ·subst hdd; rw [if_pos rfl] at hd; cases hd; exact .inl ⟨e,a,by simp [lookA],hl,hR⟩
   rw [if_neg hdd] at hd
   rcases h3 d' b' hd with ⟨e',b,h4,h5,h6⟩ | h4
   ·refine .inl ⟨e',b,?_,h5,h6⟩
    simp only [lookA]; rw [if_neg]
    ·exact h4
    rintro rfl; rw [hl] at h5; cases h5; exact hdd rfl
   exact .inr h4
omit [Cod S] in
theorem dropOK_look (ds:List Nat):∀ (sg:List (Nat×AO S)) (K:List (Nat×AO S)→Prop),dropOK ds sg K→∃ sg',K sg'∧∀ d,lookA sg' d=if memb ds d=true then none else lookA sg d
 | [],K,h=>⟨[],h,fun d=>by simp [lookA]⟩
 | (k,a) :: sg,K,h=>by
  simp only [dropOK] at h
  cases hm:memb ds k with
  | true =>
   rw [hm] at h
   obtain ⟨sg',hK,h1⟩:=dropOK_look ds sg K h
   refine ⟨sg',hK,fun d=>?_⟩
   rw [h1 d]
   simp only [lookA]
   by_cases hkd:k=d
   ·subst hkd; simp [hm]
   simp only [hkd,if_false]
  | false =>
   rw [hm] at h
   obtain ⟨sg',hK,h1⟩:=dropOK_look ds sg _ h
   refine ⟨_,hK,fun d=>?_⟩
   simp only [lookA]
   by_cases hkd:k=d
   ·subst hkd; simp [hm]
   simp only [hkd,if_false]; exact h1 d
theorem undAllK_all {ds:List Nat} {K:St S→Prop} (h:undAllK ds st K):∃ st',K st'∧st'.up=st.up∧All2 (ObR (UndR ds)) st.seg st'.seg ∧
  ∀ {gl:Gl} {En:Env X} {x:X} {w:World} {V:Nat→Nat→Prop} {l l0:Loc} {ts:Array Value},SRx gl En x w V l l0 ts st→SRx gl En x w V l (l0.untok ds) ts st':=by
 unfold undAllK at h
 obtain ⟨tm,h1,h⟩:=mapK_elim (undK_elim 4 ds) _ _ h
 obtain ⟨sg,h2,hK⟩:=mapK_elim (G:=ObR (UndR ds)) (fun p K h=>by
  obtain ⟨k,ao⟩:=p
  cases ao with
  | cells cs =>
   obtain ⟨cs',h3,h4⟩:=mapK_elim (undK_elim 4 ds) _ _ h
   exact ⟨(k,.cells cs'),⟨rfl,h3⟩,h4⟩
  | frz cs=>exact ⟨_,⟨rfl,rfl⟩,h⟩
  | row u f=>exact ⟨_,⟨rfl,rfl,rfl⟩,h⟩
  | mpz ks us=>exact ⟨_,⟨rfl,rfl,rfl⟩,h⟩
  | mp kvs=>exact ⟨_,⟨rfl,rfl⟩,h⟩) _ _ h
 exact ⟨_,hK,rfl,h2,fun hs=>hs.reread (Loc.le_trans (Loc.untok_le _ _) hs.le) rfl (fun c c' hR ws=>hR _ _ _ ws) (fun ws cs h=>h) h1 h2⟩
theorem args_tmps {vs:List Value} {args:List (AV S)} (hr:Reps w V l vs args) (hba:bareB args=true):vs.length=args.length ∧
  ∀ (i:Nat) (c:AV S),args[i]?=some c→Rep w V l (vs.toArray.getD i Go.undef) c:=by
 have hlen:vs.length=args.length:=by
  induction args generalizing vs with
  | nil=>rw [hr.nil_inv]; rfl
  | cons c cs ih =>
   obtain ⟨v,vs',rfl,h1,h2⟩:=hr.head (by simpa using bareB_get hba 0)
   have:bareB cs=true:=by cases c <;> first | exact hba | cases hba
   simp [ih h2 this]
 refine ⟨hlen,fun i c hi=>?_⟩
 obtain ⟨v,hv,hrep⟩:=hr.nth (i:=i) (fun j _=>bareB_get hba j) hi
 have:vs.toArray.getD i Go.undef=v:=by
  rw [Array.getD_eq_getD_getElem?]
  simp [hv]
 rw [this]; exact hrep
omit [Cod S] in
theorem rowB_look:∀ {sg:List (Nat×AO S)} {d:Nat} {ao:AO S},rowB sg d=true→lookA sg d=some ao→¬ BoxO ao
 | (k,a) :: sg,d,ao,h,hl=>by
  simp only [rowB] at h
  simp only [lookA] at hl
  by_cases hk:k=d
  ·subst hk
   rw [if_pos rfl] at hl; cases hl
   rw [Nat.beq_refl] at h
   cases a with
   | row u f=>exact id
   | _=>cases h
  rw [if_neg hk] at hl
  rw [beq_ne hk] at h
  exact rowB_look h hl
omit [Cod S] in
theorem shared_look {sg:List (Nat×AO S)}:∀ {ds:List Nat},sharedB sg ds=true→∀ d,memb ds d=true→∀ u f,lookA sg d=some (.row u f)→f=false
 | [],_,d,hd,_,_,_=>by simp [memb] at hd
 | e :: ds,h,d,hd,u,f,hl=>by
  have hgo:∀ (sg:List (Nat×AO S)),sharedB.go sg e=true→∀ u f,lookA sg e=some (.row u f)→f=false:=fun sg=>by
   induction sg with
   | nil=>intro _ u f hl; simp [lookA] at hl
   | cons p sg ih =>
    obtain ⟨k,a⟩:=p
    intro h u f hl
    simp only [sharedB.go] at h
    simp only [lookA] at hl
    by_cases hk:k=e
    ·subst hk
     simp only [if_true] at hl
     cases hl
     simpa using h
    rw [beq_ne hk] at h
    rw [if_neg hk] at hl
    exact ih h u f hl
  simp only [sharedB] at h
  cases hg:sharedB.go sg e with
  | false=>rw [hg] at h; cases h
  | true =>
   rw [hg] at h
   simp only [memb] at hd
   cases hb:Nat.beq e d with
   | true=>have:=Nat.eq_of_beq_eq_true hb; subst this; exact hgo sg hg u f hl
   | false=>rw [hb] at hd; exact shared_look h d hd u f hl
section
variable [LawCod S]
theorem pubF_out {d:Nat} {sg:List (Nat×AO S)} {K:List (Nat×AO S)→Prop} (h:pubF d sg K):∃ sg',K sg'∧OutOk sg sg' fun _ _ _ _=>True:=by
 unfold pubF at h
 rw [findK_eq] at h
 cases hl:lookA sg d with
 | none=>rw [hl] at h; exact h.elim
 | some ao =>
  rw [hl] at h
  cases ao with
  | row u f =>
   simp only [putK_eq] at h
   refine ⟨_,h,⟨fun hs=>?_⟩⟩
   obtain ⟨V',h1,h2,h3,_⟩:=(publish hl).out hs
   exact ⟨V',h1,h2,h3,trivial⟩
  | cells cs =>
   obtain ⟨cs',sg1,h,_,h1⟩:=(outK_elim 60).2 _ _ _ h
   simp only [putK_eq] at h
   refine ⟨_,h,⟨fun hs=>?_⟩⟩
   obtain ⟨V',h1,h2,h3,_⟩:=(freeze hl h1).out hs
   exact ⟨V',h1,h2,h3,trivial⟩
  | _=>exact h.elim
theorem pubLK_out:∀ (ds:List Nat) (sg:List (Nat×AO S)) (K:List (Nat×AO S)→Prop),pubLK ds sg K→∃ sg',K sg'∧OutOk sg sg' fun _ _ _ _=>True
 | [],sg,K,h=>⟨sg,h,OutOk.refl fun _ _ _=>trivial⟩
 | d :: ds,sg,K,h=>by
  obtain ⟨sg1,h,h1⟩:=pubF_out h
  obtain ⟨sg',hK,h2⟩:=pubLK_out ds sg1 K h
  exact ⟨sg',hK,OutOk.trans h1 h2 fun _ _ _ _ _ _ _ _ _=>trivial⟩
theorem lend_pub {ps:List Nat} (hs:SR gl En x w V l ts st) (hrow:ps.all (rowB st.seg)=true) {K:St S→Prop}
  (h:pubLK ps st.seg fun sg0=>match sharedB sg0 ps with
   | true=>letAllK ps { st with seg:=sg0 } fun st0=>dropOK ps st0.seg fun sgd=>K { st0 with seg:=sgd }
   | false=>False):∃ V1 st0,(∀ b o,V b o→V1 b o)∧K st0∧Shared V1 l ps∧SR gl En x w V1 (l.untok ps) ts st0:=by
 obtain ⟨sg,h,ho⟩:=pubLK_out _ _ _ h
 obtain ⟨V1,hV1,hs1,_,_⟩:=ho.out hs
 cases hsh:sharedB sg ps with
 | false=>rw [hsh] at h; exact h.elim
 | true =>
  rw [hsh] at h
  simp only at h
  obtain ⟨st',h,hlen,_,hlet⟩:=letAllK_elim h
  have hshared:Shared V1 l ps:=fun d hd b n cap ht o ho=>by
   obtain ⟨u,f,hreg⟩:=hs1.regt _ _ ht
   have hf:=shared_look hsh d hd u f hreg
   subst hf
   obtain ⟨t,ht',h1⟩:=hs1.seg d _ hreg
   rw [ht] at ht'; cases ht'
   obtain ⟨c,el,h2,h3,h4,h5⟩:=h1
   exact (h5 o).2 ho
  have hs3:=hlet hshared hs1
  obtain ⟨sg',h,hdrop⟩:=dropOK_look _ _ _ h
  have htok:∀ d t,(l.untok ps).tok d=some t→memb ps d=false∧l.tok d=some t:=fun d t h=>by
   simp only [Loc.untok] at h
   by_cases hm:memb ps d=true
   ·rw [if_pos hm] at h; cases h
   rw [if_neg hm] at h; exact ⟨by simpa using hm,h⟩
  have hlook:∀ d ao,lookA sg' d=some ao→memb ps d=false∧lookA st'.seg d=some ao:=fun d ao h=>by
   rw [hdrop d] at h
   by_cases hm:memb ps d=true
   ·rw [if_pos hm] at h; cases h
   rw [if_neg hm] at h; exact ⟨by simpa using hm,h⟩
  have hlook':∀ d ao,memb ps d=false→lookA st'.seg d=some ao→lookA sg' d=some ao:=fun d ao hm h=>by rw [hdrop d,if_neg (by simp [hm])]; exact h
  have hmut:∀ {k d b},Mut (l.untok ps) { st' with seg:=sg' } k d b→Mut l st' k d b:=fun {k d b} hm=>by
   cases k with
   | true=>exact hm
   | false =>
    obtain ⟨ao,h1,h2⟩:=hm
    obtain ⟨h3,h4⟩:=hlook _ _ h1
    refine ⟨ao,h4,?_⟩
    cases ao with
    | row u f=>obtain ⟨n,cap,h2⟩:=h2; exact ⟨n,cap,(htok _ _ h2).2⟩
    | _=>exact h2
  have hbox:∀ d b,l.own d=some b→memb ps d=false:=fun d b hb=>by
   obtain ⟨ao,h1,h2⟩:=hs.rego d b hb
   cases hm:memb ps d with
   | false=>rfl
   | true=>exact absurd h2 (rowB_look (List.all_eq_true.1 hrow d (mem_of_memb hm)) h1)
  refine ⟨V1,_,hV1,h,hshared,Loc.le_refl _,hs3.cb.mono rfl rfl (fun _ _ _ h=>h) (fun _ _ h=>h) (fun _ _ _=>rfl),hs3.inv,hs3.g,hs3.vlt,hs3.vem,hs3.sz,hs3.tmps,fun d ao hd=>?_,fun d ao hd=>?_,fun d b hb=>?_,fun d t ht=>?_,
   fun k d b hm=>hs3.mine k d b (hmut hm),fun k d k' d' b h1 h2=>hs3.dis _ _ _ _ _ (hmut h1) (hmut h2)⟩
  ·obtain ⟨h1,h2⟩:=hlook _ _ hd
   have h3:=hs3.seg d ao h2
   cases ao with
   | row u f=>obtain ⟨t,ht,h5⟩:=h3; exact ⟨t,by simp only [Loc.untok,h1]; exact ht,h5⟩
   | _=>exact h3
  ·have h3:=hs3.up d ao hd
   cases ao <;> exact h3
  ·obtain ⟨ao,h3,h4⟩:=hs3.rego d b hb
   exact ⟨ao,hlook' _ _ (hbox d b hb) h3,h4⟩
  obtain ⟨h1,h2⟩:=htok _ _ ht
  obtain ⟨u,f,h3⟩:=hs3.regt d t h2
  exact ⟨u,f,hlook' _ _ h1 h3⟩
end
def lentL (rn:List (Nat×Nat)) (l:Loc):Loc where
 own e:=match lookA (swapL rn) e with
  | some d=>l.own d
  | none=>none
 up _:=none
 tok e:=match lookA (swapL rn) e with
  | some d=>l.tok d
  | none=>none
 cbv:=none
section
variable {rn:List (Nat×Nat)} (h1:freeN (firsts rn)=true) (h2:freeN (firsts (swapL rn))=true)
include h1 h2
omit [Cod S] in
theorem lentL_ren:RenL rn l (lentL rn l):=fun d e hd=>by
 have:=(lookA_swap h1 h2).1 hd
 exact ⟨fun b hb=>by simp only [lentL,this]; exact hb,fun t ht=>by simp only [lentL,this]; exact ht⟩
variable {sg:List (Nat×AO S)} (hs:SR gl En x w V l ts st)
 (hsg1:∀ e a',lookA sg e=some a'→∃ d a,lookA (swapL rn) e=some d∧lookA st.seg d=some a∧RenO rn a a')
 (hsg2:∀ e d a,lookA (swapL rn) e=some d→lookA st.seg d=some a→∃ a',lookA sg e=some a'∧RenO rn a a')
include hsg1 in
theorem lent_mut {tm:List (AV S)} {k:Bool} {e b:Nat} (hm:Mut (lentL rn l) ({ tmps:=tm,seg:=sg,up:=[] }:St S) k e b):k=false∧∃ d,lookA rn d=some e∧Mut l st false d b:=by
 cases k with
 | true=>obtain ⟨ao,h3,_⟩:=hm; simp [lookA] at h3
 | false =>
  obtain ⟨a',h3,h4⟩:=hm
  obtain ⟨d,a,h5,h6,h7⟩:=hsg1 e a' h3
  refine ⟨rfl,d,(lookA_swap h1 h2).2 h5,a,h6,h7.mut (fun b hb=>?_) (fun t ht=>?_) h4⟩
  ·simpa only [lentL,h5] using hb
  simpa only [lentL,h5] using ht
include hs hsg1 hsg2 in
theorem lend_enter {all':List (AV S)} {vs:List Value} (hr:Reps w V (lentL rn l) vs all') (hba:bareB all'=true) :
  SR gl (Env.lent w) () w V (lentL rn l) vs.toArray { tmps:=all',seg:=sg,up:=[] }:=by
 have hL:=lentL_ren (l:=l) h1 h2
 obtain ⟨hlen,hget⟩:=args_tmps hr hba
 refine ⟨Loc.le_refl _,⟨rfl,rfl,fun d b e=>(by cases e),fun b o v e=>e.elim⟩,⟨rfl,rfl,rfl⟩,hs.g,hs.vlt,fun b o hv hm=>hm,by simpa using hlen,fun i c hi=>hget i c hi,fun e a' he=>?_,fun d ao h=>by simp [lookA] at h,fun e b hb=>?_,fun e t ht=>?_,fun k e b hm=>?_,fun k e k' e' b hm hm'=>?_⟩
 ·obtain ⟨d,a,h3,h4,h5⟩:=hsg1 e a' he
  exact h5.ok hL ((lookA_swap h1 h2).2 h3) (hs.seg d a h4)
 ·cases hd:lookA (swapL rn) e with
  | none=>simp only [lentL,hd] at hb; cases hb
  | some d =>
   simp only [lentL,hd] at hb
   obtain ⟨ao,h3,h4⟩:=hs.rego d b hb
   obtain ⟨a',h5,h6⟩:=hsg2 e d ao hd h3
   exact ⟨a',h5,h6.box.1 h4⟩
 ·cases hd:lookA (swapL rn) e with
  | none=>simp only [lentL,hd] at ht; cases ht
  | some d =>
   simp only [lentL,hd] at ht
   obtain ⟨u,f,h3⟩:=hs.regt d t ht
   obtain ⟨a',h5,h6⟩:=hsg2 e d _ hd h3
   obtain ⟨u',f',rfl⟩:=h6.row.1 ⟨u,f,rfl⟩
   exact ⟨u',f',h5⟩
 ·obtain ⟨rfl,d,hd,hm'⟩:=lent_mut h1 h2 hsg1 hm
  exact ⟨id,(hs.mine _ _ _ hm').2⟩
 obtain ⟨rfl,d,hd,h3⟩:=lent_mut h1 h2 hsg1 hm
 obtain ⟨rfl,d',hd',h4⟩:=lent_mut h1 h2 hsg1 hm'
 obtain ⟨_,rfl⟩:=hs.dis _ _ _ _ _ h3 h4
 rw [hd] at hd'; cases hd'
 exact ⟨rfl,rfl⟩
def gotL (rn:List (Nat×Nat)) (l l':Loc):Loc where
 own d:=match lookA rn d with
  | some e=>l'.own e
  | none=>l.own d
 up:=l.up
 tok d:=match lookA rn d with
  | some e=>l'.tok e
  | none=>l.tok d
 cbv:=l.cbv
include hs hsg1 in
theorem lend_leave {all':List (AV S)} {st1:St S} (hup:st1.up=st.up) (hst:All2 (ObR (UndR (firsts rn))) st.seg st1.seg) (hU:SRx gl En x w V l (l.untok (firsts rn)) ts st1)
  {rest:List (Nat×AO S)} (hrest:∀ d,lookA rest d=if memb (firsts rn) d=true then none else lookA st1.seg d)
  {v:Value} {r:AV S} {sg':List (Nat×AO S)} (h':SR gl (Env.lent w) () w' V' l' #[v] { tmps:=[r],seg:=sg',up:=[] })
  (hlt:Lent w V (MutB (lentL rn l) ({ tmps:=all',seg:=sg,up:=[] }:St S)) w' V') (hown:∀ e b,(lentL rn l).own e=some b→l'.own e=some b)
  (hmt:∀ b,MutB l' ({ tmps:=[r],seg:=sg',up:=[] }:St S) b→MutB (lentL rn l) ({ tmps:=all',seg:=sg,up:=[] }:St S) b∨w.heap.size≤b)
  {r':AV S} (hr:RenLs (swapL rn) [r] [r']) {sg2:List (Nat×AO S)}
  (hb1:∀ e a,lookA sg' e=some a→∃ d a',lookA (swapL rn) e=some d∧RenO (swapL rn) a a'∧lookA sg2 d=some a')
  (hb2:∀ d,(∀ e a,lookA sg' e=some a→lookA (swapL rn) e≠some d)→lookA sg2 d=lookA rest d)
  (hb3:∀ d a',lookA sg2 d=some a'→(∃ e a,lookA sg' e=some a∧lookA (swapL rn) e=some d∧RenO (swapL rn) a a')∨lookA rest d=some a') :
  SR gl En x w' V' (gotL rn l l') ts { st1 with seg:=sg2 }∧Rep w' V' (gotL rn l l') v r':=by
 have hsw:∀ {d e},lookA rn d=some e↔lookA (swapL rn) e=some d:=fun {d e}=>lookA_swap h1 h2
 have hUm:∀ {b},MutB (lentL rn l) ({ tmps:=all',seg:=sg,up:=[] }:St S) b→∃ d e,lookA rn d=some e∧Mut l st false d b:=fun ⟨k,e,hm⟩=>by
  obtain ⟨_,d,hd,h3⟩:=lent_mut h1 h2 hsg1 hm
  exact ⟨d,e,hd,h3⟩
 have hM1:∀ {k d b},Mut l st1 k d b→Mut l st k d b:=fun {k d b} hm=>by
  cases k with
  | true=>obtain ⟨ao,h3,h4⟩:=hm; rw [hup] at h3; exact ⟨ao,h3,h4⟩
  | false =>
   obtain ⟨ao',h3,h4⟩:=hm
   have:=lookA_all2 hst d
   rw [h3] at this
   cases hl:lookA st.seg d with
   | none=>rw [hl] at this; exact this.elim
   | some ao =>
    rw [hl] at this
    refine ⟨ao,hl,?_⟩
    cases ao <;> cases ao' <;> first | exact this.2.elim | exact h4
 have hnU:∀ {k d b},Mut l st1 k d b→(k=false→lookA rn d=none)→¬ MutB (lentL rn l) ({ tmps:=all',seg:=sg,up:=[] }:St S) b:=fun {k d b} hm hk hu=>by
  obtain ⟨d',e,hd',hm'⟩:=hUm hu
  obtain ⟨rfl,rfl⟩:=hs.dis _ _ _ _ _ (hM1 hm) hm'
  rw [hk rfl] at hd'; cases hd'
 have hblk:∀ {k d b},Mut l st1 k d b→(k=false→lookA rn d=none)→w'.heap[b]?=w.heap[b]?:=fun {k d b} hm hk=>by
  obtain ⟨o,hc⟩:=hU.mlt hm
  exact hlt.block b (lt_of_heap hc) (hnU hm hk)
 have hnV:∀ {k d b},Mut l st1 k d b→(k=false→lookA rn d=none)→∀ o,¬ V b o→¬ V' b o:=fun {k d b} hm hk o hn hv=>by
  obtain ⟨o',hc⟩:=hU.mlt hm
  rcases (hlt.v' b o hv) with h3 | h3 | h3
  ·exact hn h3
  ·exact hnU hm hk h3
  have:=lt_of_heap hc; omega
 have hrow:∀ {d b n cap},(l.untok (firsts rn)).tok d=some (.at b n cap)→Mut l st1 false d b∧lookA rn d=none:=fun {d b n cap} ht=>by
  have ht':memb (firsts rn) d=false∧l.tok d=some (.at b n cap):=by
   simp only [Loc.untok] at ht
   by_cases hm:memb (firsts rn) d=true
   ·rw [if_pos hm] at ht; cases ht
   rw [if_neg hm] at ht; exact ⟨by simpa using hm,ht⟩
  obtain ⟨u,f,h3⟩:=hU.regt d _ ht'.2
  exact ⟨⟨_,h3,n,cap,ht'.2⟩,memb_firsts' ht'.1⟩
 have hle:(l.untok (firsts rn)).le (gotL rn l l'):=by
  refine ⟨fun d b hb=>?_,fun _ _ h=>h,fun d t ht=>?_,fun _ h=>h⟩
  ·have hb:l.own d=some b:=hb
   simp only [gotL]
   cases hd:lookA rn d with
   | none=>exact hb
   | some e=>exact hown e b (by simp only [lentL,hsw.1 hd]; exact hb)
  simp only [Loc.untok] at ht
  by_cases hm:memb (firsts rn) d=true
  ·rw [if_pos hm] at ht; cases ht
  rw [if_neg hm] at ht
  simp only [gotL,memb_firsts' (by simpa using hm)]; exact ht
 have hrd:∀ {vs:List Value} {cs:List (AV S)},Reps w V (l.untok (firsts rn)) vs cs→Reps w' V' (gotL rn l l') vs cs:=fun hr =>
  hr.mono (fun b o hv=>(hlt.v b o hv).1) (fun b o hv=>(hlt.v b o hv).2) _ hle fun d b n cap ht o _=>by
   obtain ⟨hm,hd⟩:=hrow ht
   exact cell_congr (hblk hm fun _=>hd) o
 have hrn:∀ {vs:List Value} {cs:List (AV S)},Reps w V Loc.none vs cs→Reps w' V' Loc.none vs cs:=fun hr =>
  hr.mono (fun b o hv=>(hlt.v b o hv).1) (fun b o hv=>(hlt.v b o hv).2) _ (Loc.le_refl _) fun d b n cap ht=>by simp [Loc.none] at ht
 have hat:∀ {b o:Nat} {ws:List Value},CellsAt w V b o ws→CellsAt w' V' b o ws:=fun h=>h.mono (fun b o hv=>(hlt.v b o hv).1) fun b o hv=>(hlt.v b o hv).2
 have hback:RenL (swapL rn) l' (gotL rn l l'):=fun e d hd=>by
  have:=hsw.2 hd
  exact ⟨fun b hb=>by simp only [gotL,this]; exact hb,fun t ht=>by simp only [gotL,this]; exact ht⟩
 have hrest':∀ {d ao},lookA rest d=some ao→lookA rn d=none∧lookA st1.seg d=some ao:=fun {d ao} h=>by
  rw [hrest d] at h
  by_cases hm:memb (firsts rn) d=true
  ·rw [if_pos hm] at h; cases h
  rw [if_neg hm] at h; exact ⟨memb_firsts' (by simpa using hm),h⟩
 have hkeep:∀ {d ao},lookA rn d=none→lookA st1.seg d=some ao→lookA sg2 d=some ao:=fun {d ao} hd h=>by
  rw [hb2 d (fun e a _ he=>by rw [hsw.2 he] at hd; cases hd),hrest d,if_neg (by rw [memb_firsts hd]; simp)]; exact h
 have hmut:∀ {k d b},Mut (gotL rn l l') { st1 with seg:=sg2 } k d b→(k=false∧∃ e,lookA rn d=some e∧Mut l' ({ tmps:=[r],seg:=sg',up:=[] }:St S) false e b)∨((k=false→lookA rn d=none)∧Mut l st1 k d b):=fun {k d b} hm=>by
  cases k with
  | true=>exact .inr ⟨(fun h=>by cases h),hm⟩
  | false =>
   obtain ⟨ao,h3,h4⟩:=hm
   rcases hb3 d ao h3 with ⟨e,a,h5,h6,h7⟩ | h5
   ·have hd:=hsw.2 h6
    refine .inl ⟨rfl,e,hd,a,h5,h7.mut (fun b hb=>?_) (fun t ht=>?_) h4⟩
    ·simpa only [gotL,hd] using hb
    simpa only [gotL,hd] using ht
   obtain ⟨hd,h6⟩:=hrest' h5
   refine .inr ⟨fun _=>hd,ao,h6,?_⟩
   cases ao with
   | cells cs=>have h4:(gotL rn l l').own d=some b:=h4; simp only [gotL,hd] at h4; exact h4
   | frz cs=>exact h4
   | row u f=>obtain ⟨n,cap,h4⟩:=h4; exact ⟨n,cap,by simpa only [gotL,hd] using h4⟩
   | mp kvs=>have h4:(gotL rn l l').own d=some b:=h4; simp only [gotL,hd] at h4; exact h4
   | mpz ks us=>exact h4
 have hsz:=hlt.size
 refine ⟨⟨Loc.le_refl _,⟨hU.cb.cb,hU.cb.up,fun d b e=>hle.own d b (hU.cb.own d b e),fun b o v e=>?_⟩,En.stable x w w' hU.inv ⟨hlt.os,hlt.tape,hlt.output,hlt.size,fun b hb=>hlt.block b (En.lt _ _ _ hU.inv hb) fun hu=>?_⟩,
  h'.g,h'.vlt,fun b o hv hm=>?_,hU.sz,fun i c hi=>hrd (hU.tmps i c hi),fun d ao hd=>?_,fun d ao hd=>?_,fun d b hb=>?_,fun d t ht=>?_,fun k d b hm=>?_,fun k d k' d' b hm hm'=>?_⟩,?_⟩
 ·obtain ⟨h3,h4⟩:=hU.cb.fz b o v e
  exact ⟨(hlt.v b o h3).1,(hlt.v b o h3).2.trans h4⟩
 ·obtain ⟨d,e,hd,hm⟩:=hUm hu
  exact (hs.mine _ _ _ hm).1 hb
 ·rcases hlt.v' b o hv with h3 | h3 | h3
  ·exact hU.vem b o h3 hm
  ·obtain ⟨d,e,hd,hm'⟩:=hUm h3
   exact (hs.mine _ _ _ hm').1 (En.emE _ _ _ hm)
  have:=En.lt _ _ _ hU.inv (En.emE _ _ _ hm); omega
 ·rcases hb3 d ao hd with ⟨e,a,h3,h4,h5⟩ | h3
  ·exact h5.ok hback h4 (h'.seg e a h3)
  obtain ⟨hdn,h4⟩:=hrest' h3
  have h5:=hU.seg d ao h4
  have hgo:∀ b,l.own d=some b→(gotL rn l l').own d=some b:=fun b hb=>by simp only [gotL,hdn]; exact hb
  cases ao with
  | cells cs =>
   obtain ⟨b,hb,c,el,h6,h7,h8⟩:=h5
   have hm:Mut l st1 false d b:=⟨_,h4,hb⟩
   exact ⟨b,hgo b hb,c,el,by rw [hblk hm fun _=>hdn]; exact h6,hrd h7,fun o=>hnV hm (fun _=>hdn) o (h8 o)⟩
  | frz cs=>obtain ⟨b,ws,hb,h6,h7⟩:=h5; exact ⟨b,ws,hgo b hb,hat h6,hrn h7⟩
  | row u f =>
   obtain ⟨t,ht,h6⟩:=h5
   refine ⟨t,by simp only [gotL,hdn]; exact ht,?_⟩
   cases t with
   | no=>trivial
   | «at» b n cap =>
    obtain ⟨c,el,h7,h8,h9,h10⟩:=h6
    have hm:Mut l st1 false d b:=⟨_,h4,n,cap,ht⟩
    refine ⟨c,el,by rw [hblk hm fun _=>hdn]; exact h7,h8,h9,?_⟩
    cases f with
    | true=>exact fun o=>hnV hm (fun _=>hdn) o (h10 o)
    | false=>exact fun o=>⟨fun hv=>Classical.byContradiction fun hn=>hnV hm (fun _=>hdn) o (fun hv'=>hn ((h10 o).1 hv')) hv,fun ho=>(hlt.v b o ((h10 o).2 ho)).1⟩
  | mp kvs =>
   obtain ⟨b,hb,hmp⟩:=h5
   have hm:Mut l st1 false d b:=⟨_,h4,hb⟩
   exact ⟨b,hgo b hb,hmp.mono (hblk hm fun _=>hdn) hrn fun o=>hnV hm (fun _=>hdn) o (by obtain ⟨es,ck,_,_,h3⟩:=hmp; exact h3 o)⟩
  | mpz ks us=>obtain ⟨b,hb,hmz⟩:=h5; exact ⟨b,hgo b hb,hrn hmz⟩
 ·have h5:=hU.up d ao hd
  cases ao with
  | cells cs =>
   obtain ⟨b,hb,c,el,h6,h7,h8⟩:=h5
   have hm:Mut l st1 true d b:=⟨_,hd,trivial,hb⟩
   refine ⟨b,hb,c,el,by rw [hblk hm fun h=>by cases h]; exact h6,?_,fun o=>hnV hm (fun h=>by cases h) o (h8 o)⟩
   exact h7.mono (fun b o hv=>(hlt.v b o hv).1) (fun b o hv=>(hlt.v b o hv).2) _ (Loc.notok_le hle) fun d b n cap ht=>by simp [Loc.notok] at ht
  | frz cs=>obtain ⟨b,ws,hb,h6,h7⟩:=h5; exact ⟨b,ws,hb,hat h6,hrn h7⟩
  | row u f=>trivial
  | mp kvs =>
   obtain ⟨b,hb,hmp⟩:=h5
   have hm:Mut l st1 true d b:=⟨_,hd,trivial,hb⟩
   exact ⟨b,hb,hmp.mono (hblk hm fun h=>by cases h) hrn fun o=>hnV hm (fun h=>by cases h) o (by obtain ⟨es,ck,_,_,h3⟩:=hmp; exact h3 o)⟩
  | mpz ks us=>obtain ⟨b,hb,hmz⟩:=h5; exact ⟨b,hb,hrn hmz⟩
 ·simp only [gotL] at hb
  cases hd:lookA rn d with
  | none =>
   rw [hd] at hb
   obtain ⟨ao,h3,h4⟩:=hU.rego d b hb
   exact ⟨ao,hkeep hd h3,h4⟩
  | some e =>
   rw [hd] at hb
   obtain ⟨a,h3,h4⟩:=h'.rego e b hb
   obtain ⟨d',a',h5,h6,h7⟩:=hb1 e a h3
   rw [hsw.1 hd] at h5; cases h5
   exact ⟨a',h7,h6.box.1 h4⟩
 ·simp only [gotL] at ht
  cases hd:lookA rn d with
  | none =>
   rw [hd] at ht
   obtain ⟨u,f,h3⟩:=hU.regt d t ht
   exact ⟨u,f,hkeep hd h3⟩
  | some e =>
   rw [hd] at ht
   obtain ⟨u,f,h3⟩:=h'.regt e t ht
   obtain ⟨d',a',h5,h6,h7⟩:=hb1 e _ h3
   rw [hsw.1 hd] at h5; cases h5
   obtain ⟨u',f',rfl⟩:=h6.row.1 ⟨u,f,rfl⟩
   exact ⟨u',f',h7⟩
 ·rcases hmut hm with ⟨rfl,e,hd,h3⟩ | ⟨_,h3⟩
  ·refine ⟨fun hE=>?_,(h'.mine _ _ _ h3).2⟩
   rcases hmt b ⟨_,_,h3⟩ with h4 | h4
   ·obtain ⟨d',e',hd',hm'⟩:=hUm h4
    exact (hs.mine _ _ _ hm').1 hE
   have:=En.lt _ _ _ hU.inv hE; omega
  exact hU.mine _ _ _ h3
 ·have hmix:∀ {k d d' e b},lookA rn d'=some e→Mut l' ({ tmps:=[r],seg:=sg',up:=[] }:St S) false e b→(k=false→lookA rn d=none)→Mut l st1 k d b→False:=fun {k d d' e b} hd h3 hk h4=>by
   rcases hmt b ⟨_,_,h3⟩ with h5 | h5
   ·exact hnU h4 hk h5
   ·obtain ⟨o,hc⟩:=hU.mlt h4
    have:=lt_of_heap hc; omega
  rcases hmut hm with ⟨rfl,e,hd,h3⟩ | ⟨hk,h3⟩
  ·rcases hmut hm' with ⟨rfl,e',hd',h4⟩ | ⟨hk',h4⟩
   ·obtain ⟨_,rfl⟩:=h'.dis _ _ _ _ _ h3 h4
    have h5:=hsw.1 hd; rw [hsw.1 hd'] at h5; cases h5
    exact ⟨rfl,rfl⟩
   exact (hmix hd h3 hk' h4).elim
  rcases hmut hm' with ⟨rfl,e',hd',h4⟩ | ⟨hk',h4⟩
  ·exact (hmix hd' h4 hk h3).elim
  exact hU.dis _ _ _ _ _ h3 h4
 have h3:Rep w' V' l' v r:=by simpa using h'.tmps 0 r rfl
 exact hr _ _ _ _ hback _ h3
end
end Go.Ab
namespace Go.Ab
open Go
variable {S:Sig} [Cod S]
variable {X:Type} {gl:Gl} {En:Env X} {x:X} {w w1 w':World} {V V':Nat→Nat→Prop} {l l0:Loc} {ts:Array Value} {st:St S}
variable {P:Program} {par:Par S X} {a:Act} {K:AV S→St S→X→Prop}
theorem len_ok (htis:TisOk P par.ti) {t:TypeId} {rest:List TypeId} {ty0:TypeId} {u:Value} {v:AV S} {K:AV S→St S→Prop}
  (h:tyK par t fun ty=>match ty.kind with
  | .str=>match v with
   | .str s=>K (.int .i64 s.size) st
   | _=>False
  | .slice _ _ _=>match v with
   | .sl _ xs _=>K (.int .i64 xs.length) st
   | .nils=>K (.int .i64 0) st
   | .lens n=>K (.int .i64 n) st
   | _=>False
  | _=>False) (hc:Rep w V l u v):∃ r c,(Builtin.len_ (t :: rest).toArray ty0 #[u]).run P w=.ok r w∧K c st∧Rep w V l r c:=by
 obtain ⟨ty,h,hty⟩:=tyK_elim htis h
 have hkind:=hty.kind
 cases hk:ty.kind with
 | str =>
  rw [hk] at h hkind
  cases v with
  | str s=>rw [hc.str]; exact ⟨_,_,by simp [Builtin.len_,Sem.run_bind,run_underlying (d:=.string) hkind,Result.andThen,Pure.pure,goInt],h,Rep.flat1 rfl⟩
  | _=>exact h.elim
 | slice u bytes ez =>
  rw [hk] at h hkind
  obtain ⟨e,ie,z,h1,_⟩:=hkind
  cases v with
  | sl u xs o =>
   obtain ⟨base,cap,ws,hv,_⟩:=hc.sl
   rw [hv]; exact ⟨_,_,by simp [Builtin.len_,Sem.run_bind,run_underlying h1,Result.andThen,Pure.pure,goInt],h,Rep.flat1 rfl⟩
  | lens n=>obtain ⟨base,cap,hb⟩:=hc.lens; rw [hb]; exact ⟨_,_,by simp [Builtin.len_,Sem.run_bind,run_underlying h1,Result.andThen,Pure.pure,goInt],h,Rep.flat1 rfl⟩
  | nils=>obtain ⟨base,hb⟩:=hc.nils; rw [hb]; exact ⟨_,_,by simp [Builtin.len_,Sem.run_bind,run_underlying h1,Result.andThen,Pure.pure,goInt],h,Rep.flat1 rfl⟩
  | _=>exact h.elim
 | _=>rw [hk] at h; exact h.elim
theorem min_run:∀ {cs:List (AV S)} {v:AV S} {u:Value} {vs:List Value} {K:AV S→Prop},Rep w V l u v→Reps w V l vs cs→minK false v cs K →
  ∃ r c,(vs.foldlM Builtin.min2 u).run P w=.ok r w∧K c∧Rep w V l r c
 | [],v,u,vs,K,hv,hvs,h=>by rw [hvs.nil_inv]; exact ⟨u,v,rfl,by cases v <;> first | exact h | (simp [minK] at h),hv⟩
 | c :: cs,v,u,vs,K,hv,hvs,h=>by
  cases v with
  | int k p =>
   cases c with
   | int k' q =>
    simp only [minK] at h
    cases hk:decide (k=k') with
    | false=>rw [hk] at h; exact h.elim
    | true =>
     rw [hk] at h
     obtain ⟨z,zs,rfl,h1,h2⟩:=hvs.head trivial
     obtain ⟨r,d,h3,h4,h5⟩:=min_run (u:=.int k (if q < p then q else p)) (Rep.flat1 (c:=.int k (if q < p then q else p)) rfl) h2 h
     refine ⟨r,d,?_,h4,h5⟩
     rw [hv.int,h1.int]
     simpa [List.foldlM_cons,Builtin.min2,Sem.run_bind,Pure.pure,Result.andThen] using h3
   | _=>simp [minK] at h
  | _=>simp [minK] at h
theorem max_run:∀ {cs:List (AV S)} {v:AV S} {u:Value} {vs:List Value} {K:AV S→Prop},Rep w V l u v→Reps w V l vs cs→minK true v cs K →
  ∃ r c,(vs.foldlM Builtin.max2 u).run P w=.ok r w∧K c∧Rep w V l r c
 | [],v,u,vs,K,hv,hvs,h=>by rw [hvs.nil_inv]; exact ⟨u,v,rfl,by cases v <;> first | exact h | (simp [minK] at h),hv⟩
 | c :: cs,v,u,vs,K,hv,hvs,h=>by
  cases v with
  | int k p =>
   cases c with
   | int k' q =>
    simp only [minK] at h
    cases hk:decide (k=k') with
    | false=>rw [hk] at h; exact h.elim
    | true =>
     rw [hk] at h
     obtain ⟨z,zs,rfl,h1,h2⟩:=hvs.head trivial
     obtain ⟨r,d,h3,h4,h5⟩:=max_run (u:=.int k (if q > p then q else p)) (Rep.flat1 (c:=.int k (if q > p then q else p)) rfl) h2 h
     refine ⟨r,d,?_,h4,h5⟩
     rw [hv.int,h1.int]
     simpa [List.foldlM_cons,Builtin.max2,Sem.run_bind,Pure.pure,Result.andThen] using h3
   | _=>simp [minK] at h
  | _=>simp [minK] at h
theorem plainLK_elim (htis:TisOk P par.ti):∀ {tys:List Nat} {vs:List (AV S)} {K:List (AV S)→Prop},plainLK par tys vs K→∃ vs',K vs'∧∀ w V l us,Reps w V l us vs→Reps w V l us vs'
 | [],vs,K,h=>⟨vs,by cases vs <;> exact h,fun _ _ _ _ h=>h⟩
 | _ :: _,[],K,h=>⟨[],h,fun _ _ _ _ h=>h⟩
 | t :: tys,v :: vs,K,h=>by
  simp only [plainLK] at h
  have h1:∃ v',(plainLK par tys vs fun l=>K (v' :: l))∧∀ w V l us,Reps w V l us [v]→Reps w V l us [v']:=by
   by_cases hn:v=.nils
   ·subst hn
    simp only [plainK] at h
    obtain ⟨ty,h,_⟩:=tyK_elim htis h
    cases hk:ty.kind with
    | slice u b ez =>
     rw [hk] at h
     refine ⟨_,h,fun w V l us hr=>?_⟩
     obtain ⟨z,zs,rfl,h1,h2⟩:=hr.head trivial
     rw [h2.nil_inv]
     obtain ⟨base,hb⟩:=h1.nils
     exact Rep.flat1 ⟨rfl,base,0,hb⟩
    | _=>rw [hk] at h; exact h.elim
   by_cases hn0:v=.nil0
   ·subst hn0
    simp only [plainK] at h
    obtain ⟨ty,h,_⟩:=tyK_elim htis h
    cases hk:ty.kind with
    | slice u b ez =>
     rw [hk] at h
     refine ⟨_,h,fun w V l us hr=>?_⟩
     obtain ⟨z,zs,rfl,h1,h2⟩:=hr.head trivial
     rw [h2.nil_inv]
     exact Rep.flat1 ⟨rfl,none,0,h1.nil0⟩
    | _=>rw [hk] at h; exact h.elim
   refine ⟨v,?_,fun _ _ _ _ h=>h⟩
   cases v <;> first | exact h | exact absurd rfl hn | exact absurd rfl hn0
  obtain ⟨v',h,h2⟩:=h1
  obtain ⟨vs',hK,h3⟩:=plainLK_elim htis h
  refine ⟨_,hK,fun w V l us hr=>?_⟩
  obtain ⟨ua,ub,rfl,ha,hb⟩:=hr.uncons
  exact (h2 _ _ _ _ ha).append (h3 _ _ _ _ hb)
variable [LawCod S]
omit [LawCod S] in
theorem SR.takeRow (h:SR gl En x w V l ts st) (hg:Grow w w1) {e:Nat} (hd:lookA st.seg e=none) {u:S.U} {xs:List (S.T u)} {v:Value} (hr:RetOk w V w1 v (.sl u xs (some e))) :
  ∃ l',SR gl En x w1 V l' ts { st with seg:=putA st.seg e (.row u true) }∧Rep w1 V l' v (.sl u xs (some e)):=by
 have h1:SR gl En x w1 V l ts st:=h.grow hg (fun _ _ h=>h) (fun _ _ h=>.inl h)
 obtain ⟨hown,htok⟩:=h1.own_none hd
 rcases hr with ⟨rfl,base,rfl⟩ | ⟨b,cap,ws,c,el,rfl,hb0,hb,hcap,hlen,hws,hcell,hrep⟩
 ·obtain ⟨_,h2⟩:=SR.newTok h1 hd u true
  exact ⟨_,h2,.flat ⟨rfl,by simp [Loc.setTok],base,rfl⟩ (.nil _)⟩
 have hle:=Loc.le_setTok (t:=.at b ws.length cap) htok
 have hnm:∀ k d',¬ Mut l st k d' b:=fun k d'=>h.no_mut hb0 k d'
 have hnE:¬ En.E x b:=fun hE=>absurd (En.lt _ _ _ h.inv hE) (Nat.not_lt.2 hb0)
 have hnV:∀ o,¬ V b o:=fun o hv=>absurd (h.vlt _ _ hv) (Nat.not_lt.2 hb0)
 have hto:(l.setTok e (.at b ws.length cap)).tok e=some (.at b ws.length cap):=by simp [Loc.setTok]
 refine ⟨_,h1.turn (Loc.le_refl _) hle (fun _ _=>rfl) (fun k hk=>by simp [Loc.setTok,hk]) rfl rfl (fun _ _ h=>h) (fun _ _ h=>.inl h)
  ⟨_,hto,c,el,hb,hcap,by rw [hws]; exact Nat.mul_le_mul_right _ hlen,hnV⟩ ?_ ?_ (fun _ _=>⟨_,_,rfl⟩),.tok hto hcell (hrep V) hlen (.nil _)⟩
 ·rintro b' ⟨n,cap',hm⟩
  rw [hto] at hm
  cases hm
  exact ⟨hnE,Nat.le_trans (gl.le _ h.g) hb0,fun k d' hm=>absurd hm (hnm k d')⟩
 intro b' hb'
 have:l.own e=some b':=hb'
 rw [hown] at this; cases this
theorem call_ok {ro:Option Nat} {n:Nat} {o:Oper} {c:Call} (hpo:ParOk P gl par En) (hs:SR gl En x w V l a.tmps st) (ho:o.op=.call c) (h:callK par c st x K) :
  OpOK ro n P o a w (Res gl En a K):=by
 unfold callK at h
 cases hcal:c.callee with
 | builtin b=>rw [hcal] at h; exact h.elim
 | invoke r m=>rw [hcal] at h; exact h.elim
 | value f =>
  rw [hcal] at h
  simp only at h
  obtain ⟨fv,h,hf⟩:=evK_elim hs h
  obtain ⟨args,h,_,hargs⟩:=evLK_elim hs h
  have hd:∀ c',o.op≠.defer c':=fun c' e=>by rw [ho] at e; cases e
  have hnl:l.notok.le l:=⟨fun _ _ h=>h,fun _ _ h=>h,fun _ _ h=>by simp [Loc.notok] at h,fun _ h=>h⟩
  cases fv with
  | clo fn first caps =>
   cases fn with
   | func g =>
    cases hloc:par.loc g with
    | true =>
     simp only [hloc] at h
     simp only [appK_eq] at h
     obtain ⟨first',caps',hfv,hr1,hr2⟩:=hf.clo
     have hall:Reps w V l (first'.toList++c.args.toList.map a.eval++caps'.toList) (first++args++caps) :=
      ((hr1.more (fun _ _ h=>h) hnl).append hargs).append (hr2.more (fun _ _ h=>h) hnl)
     have hlst:(first'++c.args.map a.eval++caps')=(first'.toList++c.args.toList.map a.eval++caps'.toList).toArray:=by
      apply Array.ext'; simp
     have hrun:Opens P g→(execOp a.eval o).run P w=.ok (.enter g (first'.toList++c.args.toList.map a.eval++caps'.toList).toArray) w:=fun ⟨fn,hfn,hbody,hname⟩=>by
      have hb:¬ fn.body=none:=fun e=>by rw [e] at hbody; cases hbody
      have hname':¬ fn.name = "runtime.NumGoroutine" := fun e=>by rw [e] at hname; cases hname
      rw [←hlst]
      simp only [execOp,ho,resolve,hcal,hfv,Deferred.ofValue,invoke,callFunc]
      simp [Sem.run_bind,Pure.pure,Result.andThen,program,Sem.run,hfn,hname',hb]
     cases hlend:par.lend g with
     | true =>
      rw [hlend] at h
      simp only at h
      obtain ⟨rn,ps,h⟩:=h
      cases hfr:(freeN (firsts rn)&&freeN (firsts (swapL rn)))&&((firsts rn).all (fun d=>!memb ps d)&&ps.all (rowB st.seg)) with
      | false=>rw [hfr] at h; exact h.elim
      | true =>
       rw [hfr] at h
       simp only [Bool.and_eq_true] at hfr
       obtain ⟨⟨hn1,hn2⟩,hps,hrow⟩:=hfr
       simp only at h
       obtain ⟨all0,hlt0,h⟩:=mapK_elim (letK_elim 4 ps) _ _ h
       obtain ⟨all',h,hren⟩:=(renK_elim 60).2 _ _ _ h
       cases hba:bareB all' with
       | false=>rw [hba] at h; exact h.elim
       | true =>
        rw [hba] at h
        simp only at h
        obtain ⟨V1,st0,hV1,h,hsh0,hs0⟩:=lend_pub (K:=fun s=>pickK rn s.seg rn fun sg=>undAllK (firsts rn) s fun st1=>dropOK (firsts rn) st1.seg fun rest=>par.lcall g all' sg fun r sg'=>renK 60 (swapL rn) r fun r'=>backLK (swapL rn) sg' rest fun sg''=>K r' { st1 with seg:=sg'' } x) hs hrow h
        obtain ⟨sg,h,hsg1,hsg2⟩:=pickK_elim rn st0.seg rn _ hn2 h
        obtain ⟨st1,h,hup1,hst1,hund⟩:=undAllK_all h
        obtain ⟨rest,h,hrest⟩:=dropOK_look _ _ _ h
        have hL:RenL rn (l.untok ps) (lentL rn (l.untok ps)):=lentL_ren hn1 hn2
        have hcs:=lend_enter hn1 hn2 hs0 hsg1 hsg2 (hren w V1 _ _ hL _ (Reps.list (fun c c' hR=>hR w V1 l hsh0) hlt0 _ (hall.more hV1 (Loc.le_refl _)))) hba
        refine OpOK.enter hd (hrun (hpo.lfn _ _ _ _ h)) ((hpo.lcall _ _ _ _ h w V1 (lentL rn (l.untok ps)) _ hcs).mono ?_)
        rintro e w' ⟨v,rfl,r,sg',V',l',hK,hs',hlt,hown,hmt⟩
        obtain ⟨r',hK,hr'⟩:=(renK_elim 60).1 _ _ _ hK
        obtain ⟨sg2,hK,hb1,hb2,hb3⟩:=backLK_elim (swapL rn) (fun e e' d h1 h2=>by
         have h1:=(lookA_swap hn1 hn2).2 h1
         rw [(lookA_swap hn1 hn2).2 h2] at h1; cases h1; rfl) _ _ _ hK
        obtain ⟨hs2,hrv⟩:=lend_leave hn1 hn2 hs0 hsg1 hup1 hst1 (hund hs0) hrest hs' hlt hown hmt hr' hb1 hb2 hb3
        exact ⟨v,rfl,r',_,x,_,_,hK,hs2,hrv⟩
     | false =>
     rw [hlend] at h
     simp only at h
     cases hup:st.up with
     | nil =>
      rw [hup] at h
      simp only at h
      cases hlb:(first++args++caps).all (liftB 6) with
      | false=>rw [hlb] at h; exact h.elim
      | true =>
       rw [hlb] at h
       refine OpOK.enter hd (hrun (hpo.ufn _ _ _ _ _ h)) ((hpo.ucall _ _ _ _ _ h w V _ l.own (fun b=>∃ d ao,lookA (liftSeg st.seg) d=some ao∧MutU ao∧l.own d=some b) hs.inv hs.g hs.vlt hs.vem
        ⟨fun d ao hd'=>?_,fun d ao b h1 hu h2=>?_,fun d ao d' ao' b h1 hu h2 hu' h3 h4=>?_⟩ (fun b ⟨d,ao,h1,hu,h2⟩=>?_) (hall.lift 6 hlb (fun _ _ e=>e) fun v e=>by rw [←hs.cb.cb]; exact e)).mono ?_)
       ·rw [lookA_lift] at hd'
        cases hl:lookA st.seg d with
        | none=>rw [hl] at hd'; cases hd'
        | some ao0 =>
         rw [hl] at hd'
         have hob:=hs.seg d ao0 hl
         cases ao0 with
         | cells cs =>
          obtain ⟨b,hb,c',el,h1,h2,h3⟩:=hob
          simp only [Option.map_some,liftO] at hd'
          cases hlc:cs.all (liftB 6) with
          | true =>
           rw [hlc] at hd'; cases hd'
           exact ⟨b,hb,c',el,h1,h2.lift 6 hlc (fun _ _ e=>e) fun v e=>by rw [←hs.cb.cb]; exact e,h3⟩
          | false =>
           rw [hlc] at hd'; cases hd'
           exact ⟨b,[],hb,fun k v hk=>by simp at hk,.nil _⟩
         | frz cs =>
          cases hd'
          exact hob
         | row u f=>cases hd'; trivial
         | mpz ks us=>cases hd'; exact hob
         | mp kvs=>cases hd'; exact hob
       ·obtain ⟨ao0,h3,hu0⟩:=lift_mut h1 hu
        exact ⟨⟨d,ao,h1,hu,h2⟩,(hs.mine false d b ⟨_,h3,(mutO_own hu0).2 h2⟩).2⟩
       ·obtain ⟨ao0,h5,hu0⟩:=lift_mut h1 hu
        obtain ⟨ao1,h6,hu1⟩:=lift_mut h2 hu'
        exact (hs.dis false d false d' b ⟨_,h5,(mutO_own hu0).2 h3⟩ ⟨_,h6,(mutO_own hu1).2 h4⟩).2
       ·obtain ⟨ao0,h3,hu0⟩:=lift_mut h1 hu
        exact (hs.mine false d b ⟨_,h3,(mutO_own hu0).2 h2⟩).1
       rintro e w' ⟨v,rfl,r,ups',x',V',hK,hub,hst,hv,hv',huo,hr⟩
       obtain ⟨sg,hK,hsg⟩:=backK_elim hK
       have hsr:=SR.calledOwn hs hup (fun b=>Iff.rfl) ⟨hst,hv,hv'⟩ hub huo hsg
       rw [hup] at hsr
       exact ⟨v,rfl,r,_,x',_,_,hK,hsr,hr.more (fun _ _ h=>h) (Loc.none_le _)⟩
     | cons u0 us =>
      rw [hup] at h
      simp only at h
      rw [←hup] at h
      cases hlb:(first++args++caps).all (argB 6)&&upB st.up st.up with
      | false=>rw [hlb] at h; exact h.elim
      | true =>
       rw [hlb] at h
       simp only [Bool.and_eq_true] at hlb
       have hcbv:∀ v,l.cbv=some v→En.fv=some v:=fun v e=>by rw [←hs.cb.cb]; exact e
       refine OpOK.enter hd (hrun (hpo.ufn _ _ _ _ _ h)) ((hpo.ucall _ _ _ _ _ h w V _ l.up (fun b=>∃ d,Mut l st true d b) hs.inv hs.g hs.vlt hs.vem
        ⟨fun d ao hd'=>?_,fun d ao b h1 hu h2=>⟨⟨d,ao,h1,hu,h2⟩,(hs.mine true d b ⟨ao,h1,hu,h2⟩).2⟩,fun d ao d' ao' b h1 hu h2 hu' h3 h4=>(hs.dis true d true d' b ⟨ao,h1,hu,h3⟩ ⟨ao',h2,hu',h4⟩).2⟩
        (fun b ⟨d,hm⟩=>(hs.mine _ _ _ hm).1) (hall.argB 6 hlb.1 (fun _ _ e=>e) hcbv)).mono ?_)
       ·have hob:=hs.up d ao hd'
        cases ao with
        | cells cs =>
         obtain ⟨b,hb,c',el,h1,h2,h3⟩:=hob
         have h4:=upB_look hlb.2 d
         rw [hd'] at h4
         exact ⟨b,hb,c',el,h1,h2.argB 6 h4 (fun _ _ e=>e) hcbv,h3⟩
        | frz cs=>exact hob
        | row u f=>trivial
        | mpz ks us=>exact hob
        | mp kvs=>exact hob
       rintro e w' ⟨v,rfl,r,ups',x',V',hK,hub,hst,hv,hv',huo,hr⟩
       exact ⟨v,rfl,r,_,x',_,_,hK,SR.calledUp hs (fun b=>Iff.rfl) ⟨hst,hv,hv'⟩ hub huo,hr.more (fun _ _ h=>h) (Loc.none_le _)⟩
    | false =>
    simp only [hloc] at h
    obtain ⟨args',h,hpl⟩:=plainLK_elim hpo.ti h
    simp only [appK_eq] at h
    cases hpk:par.pk g with
    | true =>
     rw [hpk] at h
     simp only at h
     obtain ⟨all',h,hpeek⟩:=(peekK_elim 60).2 _ _ _ h
     obtain ⟨first',caps',hfv,hr1,hr2⟩:=hf.clo
     have hall:Reps w (seeV w) Loc.none (first'.toList++c.args.toList.map a.eval++caps'.toList) all' :=
      hpeek rfl hs _ (((hr1.more (fun _ _ h=>h) hnl).append (hpl _ _ _ _ hargs)).append (hr2.more (fun _ _ h=>h) hnl))
     obtain ⟨fn,hfn,hbody,hname⟩:=hpo.fn _ _ _ h
     have hb:¬ fn.body=none:=fun e=>by rw [e] at hbody; cases hbody
     have hname':¬ fn.name = "runtime.NumGoroutine" := fun e=>by rw [e] at hname; cases hname
     have hlst:(first'++c.args.map a.eval++caps')=(first'.toList++c.args.toList.map a.eval++caps'.toList).toArray:=by
      apply Array.ext'; simp
     have hrun:(execOp a.eval o).run P w=.ok (.enter g (first'.toList++c.args.toList.map a.eval++caps'.toList).toArray) w:=by
      rw [←hlst]
      simp only [execOp,ho,resolve,hcal,hfv,Deferred.ofValue,invoke,callFunc]
      simp [Sem.run_bind,Pure.pure,Result.andThen,program,Sem.run,hfn,hname',hb]
     refine OpOK.enter hd hrun ((hpo.call _ _ _ h w (seeV w) _ hs.g (fun _ _ h=>h) hall).mono ?_)
     rintro e w' ⟨v,rfl,r,⟨hkp,hK⟩,hg,hr⟩
     have hdat:∀ {r:AV S},plainB 5 r=true→K r { st with seg:=st.seg } x→Rep w' (freshV (seeV w) w w') Loc.none v r→∃ v',Ending.returned v=.returned v'∧Res gl En a K v' w':=fun {r} hp hK hr =>
      ⟨v,rfl,r,_,x,V,_,hK,hs.grow hg (fun _ _ h=>h) (fun _ _ h=>.inl h),hr.keep 5 (by simp [hp]) _⟩
     cases r with
     | sl u xs o =>
      cases o with
      | none=>cases hkp
      | some e =>
       simp only [adoptK] at hK
       rw [findK_eq] at hK
       cases hl:lookA st.seg e with
       | some ao=>rw [hl] at hK; exact hK.elim
       | none =>
        rw [hl] at hK
        simp only [putK_eq] at hK
        obtain ⟨l',hs2,hr2⟩:=SR.takeRow hs hg hl hr
        exact ⟨v,rfl,_,_,x,_,_,hK,hs2,hr2⟩
     | _=>refine hdat ?_ hK hr; exact hkp
    | false =>
    rw [hpk] at h
    simp only at h
    obtain ⟨all',sg,h,_,hout⟩:=(outK_elim 60).2 _ _ _ h
    obtain ⟨first',caps',hfv,hr1,hr2⟩:=hf.clo
    obtain ⟨V1,hV1,hs1,_,hrr⟩:=hout.out hs
    have hall:Reps w V1 Loc.none (first'.toList++c.args.toList.map a.eval++caps'.toList) all' :=
     hrr _ (((hr1.more (fun _ _ h=>h) hnl).append (hpl _ _ _ _ hargs)).append (hr2.more (fun _ _ h=>h) hnl))
    obtain ⟨fn,hfn,hbody,hname⟩:=hpo.fn _ _ _ h
    have hb:¬ fn.body=none:=fun e=>by rw [e] at hbody; cases hbody
    have hname':¬ fn.name = "runtime.NumGoroutine" := fun e=>by rw [e] at hname; cases hname
    have hlst:(first'++c.args.map a.eval++caps')=(first'.toList++c.args.toList.map a.eval++caps'.toList).toArray:=by
     apply Array.ext'; simp
    have hrun:(execOp a.eval o).run P w=.ok (.enter g (first'.toList++c.args.toList.map a.eval++caps'.toList).toArray) w:=by
     rw [←hlst]
     simp only [execOp,ho,resolve,hcal,hfv,Deferred.ofValue,invoke,callFunc]
     simp [Sem.run_bind,Pure.pure,Result.andThen,program,Sem.run,hfn,hname',hb]
    refine OpOK.enter hd hrun ((hpo.call _ _ _ h w V1 _ hs1.g hs1.vlt hall).mono ?_)
    rintro e w' ⟨v,rfl,r,hK,hg,hr⟩
    have hpl:∀ {r:AV S},K r { st with seg:=sg } x→Rep w' (freshV V1 w w') Loc.none v r→∃ v',Ending.returned v=.returned v'∧Res gl En a K v' w':=fun {r} hK hr =>
     ⟨v,rfl,r,_,x,_,_,hK,hs1.grow hg (fun _ _ h=>.inl h) (fun _ _ h=>h),hr.more (fun _ _ h=>h) (Loc.none_le _)⟩
    cases r with
    | sl u xs o =>
     cases o with
     | none=>exact hpl hK hr
     | some e =>
      simp only [adoptK] at hK
      rw [findK_eq] at hK
      cases hl:lookA sg e with
      | some ao=>rw [hl] at hK; exact hK.elim
      | none =>
       rw [hl] at hK
       simp only [putK_eq] at hK
       obtain ⟨l',hs2,hr2⟩:=SR.takeRow hs1 hg hl hr
       exact ⟨v,rfl,_,_,x,_,_,hK,hs2,hr2⟩
    | _=>exact hpl hK hr
   | _=>exact h.elim
  | cb =>
   simp only at h
   obtain ⟨args',sg,h,_,hout⟩:=(outK_elim 60).2 _ _ _ h
   obtain ⟨V1,hV1,hs1,_,hrr⟩:=hout.out hs
   have hinv:=hpo.cb _ _ _ h ro n w V1 _ _ (hs.cb.cb.symm.trans hf.cb.1) hs1.inv hs1.g hs1.vlt hs1.vem (hrr _ hargs)
   refine (hinv o a c f ho hcal rfl rfl).mono ?_
   rintro v w' ⟨r,x',hK,he,hr⟩
   exact ⟨r,_,x',_,_,hK,hs1.env he,hr.more (fun _ _ h=>h) (Loc.none_le _)⟩
  | _=>exact h.elim
end Go.Ab
namespace Go.Ab
open Go
variable {S:Sig} [Cod S]
variable {X:Type} {gl:Gl} {En:Env X} {x:X} {w w1 w':World} {V V':Nat→Nat→Prop} {l l0:Loc} {ts:Array Value} {st:St S}
variable {P:Program} {par:Par S X} {a:Act} {K:AV S→St S→X→Prop} {ro:Option Nat} {n:Nat} {o:Oper}
variable [LawCod S]
theorem flat_rep (zs:List Value):∀ (c k:Nat),k < c * zs.length→(List.replicate c zs).flatten[k]?=zs[k % zs.length]?
 | 0,k,h=>by simp at h
 | c+1,k,h=>by
  rw [List.replicate_succ,List.flatten_cons]
  by_cases hk:k < zs.length
  ·rw [List.getElem?_append_left hk,Nat.mod_eq_of_lt hk]
  rw [List.getElem?_append_right (by omega),flat_rep zs c (k - zs.length) (by rw [Nat.succ_mul] at h; omega)]
  congr 1
  conv=>rhs; rw [show k=(k - zs.length)+zs.length by omega,Nat.add_mod_right]
theorem cyc (z:Array Value) (c:Nat):((Array.range (c * z.size)).map fun k=>z[k % z.size]!).toList=(List.replicate c z.toList).flatten:=by
 apply List.ext_getElem?
 intro k
 by_cases hk:k < c * z.size
 ·rw [flat_rep z.toList c k (by simpa using hk)]
  have hz:0 < z.size:=by
   rcases Nat.eq_zero_or_pos z.size with h | h
   ·rw [h] at hk; simp at hk
   exact h
  have hm:k % z.size < z.size:=Nat.mod_lt _ hz
  simp [hk,hm]
 rw [List.getElem?_eq_none (by simpa using hk),List.getElem?_eq_none (by simpa using hk)]
omit [LawCod S] in
theorem reps_rep {vs:List Value} {u:S.U} {z:S.T u} (h:Reps w V l vs (Cod.enc u z)):∀ c,Reps w V l (List.replicate c vs).flatten ((List.replicate c z).flatMap (Cod.enc u))
 | 0=>.nil _
 | c+1=>by rw [List.replicate_succ,List.flatten_cons,List.replicate_succ,List.flatMap_cons]; exact h.append (reps_rep h c)
theorem run_asInt {P:Program} {w:World} (k:IntKind) (i:Int):(asInt (.int k i)).run P w=.ok i w:=rfl
theorem makeSlice_ok (htis:TisOk P par.ti) {d t:Nat} {y z:Operand} (hs:SR gl En x w V l a.tmps st)
  (h:tyK par t fun ty=>evK st.tmps y fun nv=>evK st.tmps z fun mv=>match ty.kind with
  | .slice u _ ez=>match nv with
   | .int _ a=>match mv with
    | .int _ b=>(0≤a∧a≤b∧b≤1048576)∧optK (Cod.dec u ez) fun z=>findK st.seg d (putK st.seg d (.row u true) fun sg=>K (.sl u (List.replicate a.toNat z) (some d)) { st with seg:=sg } x) fun _=>False
    | _=>False
   | _=>False
  | _=>False):VOK P gl En a w (Instr.makeSlice t (a.eval y) (a.eval z)) K:=by
 obtain ⟨ty,h,hty⟩:=tyK_elim htis h
 obtain ⟨nv,h,hnv⟩:=evK_elim hs h
 obtain ⟨mv,h,hmv⟩:=evK_elim hs h
 cases hk:ty.kind with
 | slice u bytes ez =>
  rw [hk] at h
  cases nv with
  | int k1 i =>
   cases mv with
   | int k2 j =>
    obtain ⟨⟨h0,hij,hlim⟩,zz,hzz,h⟩:=h
    rw [findK_eq] at h
    cases hl:lookA st.seg d with
    | some ao=>rw [hl] at h; exact h.elim
    | none =>
     rw [hl] at h
     simp only [putK_eq] at h
     have hkind:=hty.kind
     rw [hk] at hkind
     obtain ⟨e,ie,zv,h1,h2,h3,h4,h5,h6,h7,h8,h9⟩:=hkind
     rw [hnv.int,hmv.int]
     have hrz:=LawCod.back _ _ _ hzz _ _ _ _ (h8 w V).1
     have hzs:zv.cells.size=Cod.size u:=by rw [←Array.length_toList,hrz.length,LawCod.width]
     have hpos:=LawCod.pos (S:=S) u
     obtain ⟨a',rfl⟩:∃ a':Nat,i=a':=⟨i.toNat,by omega⟩
     obtain ⟨b',rfl⟩:∃ b':Nat,j=b':=⟨j.toNat,by omega⟩
     have hw1:IntKind.i64.wrap (a':Int)=a':=by
      have h:IntKind.i64.wrap (a':Int)=if (a':Int) % 18446744073709551616≥9223372036854775808 then (a':Int) % 18446744073709551616 - 18446744073709551616 else (a':Int) % 18446744073709551616:=by
       simp [IntKind.wrap,IntKind.bits,IntKind.signed]
      rw [h]; split <;> omega
     have hw2:IntKind.i64.wrap (b':Int)=b':=by
      have h:IntKind.i64.wrap (b':Int)=if (b':Int) % 18446744073709551616≥9223372036854775808 then (b':Int) % 18446744073709551616 - 18446744073709551616 else (b':Int) % 18446744073709551616:=by
       simp [IntKind.wrap,IntKind.bits,IntKind.signed]
      rw [h]; split <;> omega
     have hab:a'≤b':=by omega
     have hby:bytes * b'≤128 * 1048576:=Nat.mul_le_mul h6.1 (by omega)
     have hby':(bytes:Int) * (b':Int)≤2 ^ 48:=by
      have:((bytes * b':Nat):Int)≤((128 * 1048576:Nat):Int):=Int.ofNat_le.2 hby
      rw [Int.natCast_mul] at this
      have h2:((128 * 1048576:Nat):Int)≤(2:Int) ^ 48:=by decide
      omega
     let c:Array Value:=(Array.range (b' * Cod.size u)).map fun k=>(if b' * Cod.size u=0 then #[] else zv.cells)[k % (if b' * Cod.size u=0 then #[] else zv.cells).size]!
     have hct:c.toList=(List.replicate b' zv.cells.toList).flatten:=by
      by_cases hz:b' * Cod.size u=0
      ·have hb0:b'=0:=by
        rcases Nat.mul_eq_zero.1 hz with h | h
        ·exact h
        ·omega
       subst hb0; simp [c]
      simp only [c,if_neg hz]; rw [←hzs]; exact cyc zv.cells b'
     have hrun:(Instr.makeSlice t (.int k1 a') (.int k2 b')).run P w=.ok (.slice (some ⟨w.heap.size,0,none⟩) a' b') (w.alloc (.cells c e)):=by
      have e1:¬ ((b':Int) < 0):=by omega
      have e2:¬ ((a':Int) < 0):=by omega
      have e3:¬ ((a':Int) > (b':Int)):=by omega
      have e4:¬ ((bytes:Int) * (b':Int) > 2 ^ 48):=by omega
      have e5:¬ (b' * bytes > roomBytes):=by
       have:roomBytes=2 ^ 47:=rfl
       rw [this,Nat.mul_comm]; omega
      have hif:(decide ((b':Int) < 0)||decide ((bytes:Int) * (b':Int) > 2 ^ 48))=false:=by simp only [e1,e4,decide_false,Bool.or_self]
      have hsz0:(b' * ie.size=0)=(b' * Cod.size u=0):=by rw [h3]
      simp only [Instr.makeSlice,Sem.run_bind,run_underlying h1,Result.andThen,run_asInt,run_typeInfo h2,h4]
      simp only [hw1,hw2,hif,e2,e3,decide_false,Bool.or_self,Bool.false_eq_true,if_false,Int.toNat_natCast,askRoom,e5]
      simp only [Sem.run_bind,Pure.pure,run_sizeOf h2,Result.andThen,Sem.run]
      by_cases hz:b' * Cod.size u=0
      ·have hc:c=(Array.range (b' * ie.size)).map fun k=>(#[]:Array Value)[k % (#[]:Array Value).size]!:=by
        simp only [c,if_pos hz,h3]
       rw [if_pos (by rw [h3]; exact hz)]
       refine Eq.trans (b:=((newRow e c).run P w).andThen fun ad w2=>.ok (.slice (some ad) a' b') w2) ?_ (by rw [run_newRow]; rfl)
       rw [hc]; simp only [Sem.run_bind]; rfl
      have hc:c=(Array.range (b' * ie.size)).map fun k=>zv.cells[k % zv.cells.size]!:=by
       simp only [c,if_neg hz,h3]
      rw [if_neg (by rw [h3]; exact hz)]
      refine Eq.trans (b:=((newRow e c).run P w).andThen fun ad w2=>.ok (.slice (some ad) a' b') w2) ?_ (by rw [run_newRow]; rfl)
      rw [hc]; simp only [Sem.run_bind,run_zeroValue h2 h7]; rfl
     have hrow:=reps_rep hrz a'
     obtain ⟨V2,hs2,hrep⟩:=hs.newRow (Grow.alloc _ _) (heap_alloc_new w (.cells c e)) (.inl hl) (hs.own_none hl).2 (u:=u) (xs:=List.replicate a' zz) true (cap:=b') (ws:=(List.replicate a' zv.cells.toList).flatten)
      (tail:=(List.replicate (b' - a') zv.cells.toList).flatten) (by
       rw [hct,←List.flatten_append,List.replicate_append_replicate]; congr 2; omega) hrow
      (by rw [←Array.length_toList,hct]; simp [hzs]) (by simpa using hab)
     refine ⟨_,_,hrun,_,_,x,V2,_,h,hs2,?_⟩
     simpa using hrep
   | _=>exact h.elim
  | _=>exact h.elim
 | _=>rw [hk] at h; exact h.elim
theorem run_first {P:Program} {w:World} {u:S.U} {ys:List (S.T u)} {size m mcap:Nat} {xb:Option Addr} {ws:List Value} (hsz:size=Cod.size u) (hr:Reps w V Loc.none ws (ys.flatMap (Cod.enc u)))
  (hm:(ys=[]∧ws=[])∨∃ b off,xb=some ⟨b,off,none⟩∧∀ k v,ws[k]?=some v→w.cell? ⟨b,off+k,none⟩=some v) (hle:m≤ys.length) :
  ∃ wa wb,ws=wa++wb∧wa.length=m * size∧Reps w V Loc.none wa ((ys.take m).flatMap (Cod.enc u))∧(Builtin.firstCells size m (.slice xb ys.length mcap)).run P w=.ok wa.toArray w:=by
 subst hsz
 have hsp:ys.flatMap (Cod.enc u)=(ys.take m).flatMap (Cod.enc u)++(ys.drop m).flatMap (Cod.enc u):=by rw [←List.flatMap_append,List.take_append_drop]
 rw [hsp] at hr
 obtain ⟨wa,wb,rfl,h1,h2⟩:=Reps.split _ hr
 have hl:wa.length=m * Cod.size u:=by rw [h1.length,widths_flatMap,List.length_take,Nat.min_eq_left hle]
 refine ⟨wa,wb,rfl,hl,h1,?_⟩
 have:(Builtin.firstCells (Cod.size u) m (.slice xb ys.length mcap))=Builtin.firstCells (Cod.size u) m (.slice xb m mcap):=by cases xb <;> rfl
 rw [this]
 refine run_firstCells' hl ?_
 rcases hm with ⟨rfl,h⟩ | ⟨b,off,rfl,h⟩
 ·have hm0:m=0:=by simpa using hle
  subst hm0
  cases xb with
  | none=>exact .inl ⟨rfl,rfl⟩
  | some a=>exact .inr (.inl ⟨rfl,_,rfl⟩)
 exact .inr (.inr ⟨b,off,rfl,fun k v hk=>h k v (by rw [List.getElem?_append_left (List.getElem?_eq_some_iff.1 hk).1]; exact hk)⟩)
theorem copy_ok {t:TypeId} {rest:List TypeId} {type:TypeId} {s y:AV S} {v0 vy:Value} {K:AV S→St S→Prop} (htis:TisOk P par.ti) (hs:SR gl En x w V l ts st)
  (h:tyK par t fun ty=>match ty.kind with
  | .slice u _ _=>match s with
   | .sl v xs (some e)=>castL v u xs fun xs=>moreK u y fun ys=>findK st.seg e False fun
    | .row u' f=>match f with
     | true=>match Cod.ueq u' u with
      | .isTrue _=>repAllK u e (ovl ys) st fun st'=>K (.int .i64 (min xs.length ys.length:Nat)) st'
      | .isFalse _=>False
     | false=>False
    | _=>False
   | _=>False
  | _=>False) (h1:Rep w V l v0 s) (h2:Rep w V l vy y):∃ v w' c st' V' l',(Builtin.copy_ (t :: rest).toArray type #[v0,vy]).run P w=.ok v w'∧K c st'∧SR gl En x w' V' l' ts st'∧Rep w' V' l' v c:=by
 obtain ⟨ty,h,hty⟩:=tyK_elim htis h
 cases hk:ty.kind with
 | slice u bytes ez =>
  rw [hk] at h
  cases s with
  | sl v xs o =>
   cases o with
   | none=>exact h.elim
   | some e =>
    simp only at h
    obtain ⟨zs,hq,he⟩:=castL_elim' h
    cases he
    obtain ⟨ys,h,hy⟩:=moreK_elim hq
    rw [findK_eq] at h
    cases hl:lookA st.seg e with
    | none=>rw [hl] at h; exact h.elim
    | some ao =>
     rw [hl] at h
     cases ao with
     | row u' f =>
      cases f with
      | false=>exact h.elim
      | true =>
       simp only at h
       cases hu:Cod.ueq u' u with
       | isFalse hne=>rw [hu] at h; exact h.elim
       | isTrue he =>
        rw [hu] at h
        subst he
        have hkind:=hty.kind
        rw [hk] at hkind
        obtain ⟨el,ie,zv,g1,g2,g3,g4,g5,g6,g7,g8,g9⟩:=hkind
        obtain ⟨xb,mcap,wsy,rfl,hyr,hyc⟩:=hy _ _ _ _ h2
        obtain ⟨wa,wb,rfl,hwl,hwr,hrun⟩:=run_first (P:=P) (mcap:=mcap) (m:=min zs.length ys.length) g3 hyr hyc (Nat.min_le_right _ _)
        have hgo:Nat.min ys.length zs.length=min zs.length ys.length:=Nat.min_comm _ _
        obtain ⟨vs,hvs,h1'⟩:∃ vs,[v0]=vs∧Reps w V l vs [.sl u' zs (some e)]:=⟨_,rfl,h1⟩
        cases h1' with
        | flat h0 tt =>
         have hv:=(List.cons.inj hvs).1
         obtain ⟨h3,h4,base,h5⟩:=h0
         rw [←hv] at h5
         subst h5
         have hz:zs=[]:=h3
         subst hz
         have hwa:wa=[]:=by simpa using hwl
         subst hwa
         obtain ⟨st',hK,hs'⟩:=SR.rowRep0 hs h h4 (by simp [ovl])
         refine ⟨.int .i64 0,w,_,st',V,l,?_,hK,hs',Rep.flat1 rfl⟩
         simp only [List.length_nil,Nat.zero_min] at hrun
         cases base <;> simp [Builtin.copy_,Sem.run_bind,run_underlying g1,Result.andThen,Builtin.lenOf,run_sizeOf g2,hrun,Sem.run,Pure.pure,storeCells,goInt]
        | @tok _ _ _ _ b cap wsx _ _ ht hc r hcp tt =>
         have hv:=(List.cons.inj hvs).1
         subst hv
         obtain ⟨t',ht',hro⟩:=hs.seg e _ hl
         rw [ht] at ht'; cases ht'
         obtain ⟨c0,el0,k1,k2,k3,k4⟩:=hro
         have hsz':=lay_size c0 0 wa
         have hxl:wsx.length=zs.length * Cod.size u':=by rw [r.length,widths_flatMap]
         have hfit:wa.length≤c0.size:=by
          have:min zs.length ys.length * ie.size≤zs.length * Cod.size u':=by rw [g3]; exact Nat.mul_le_mul_right _ (Nat.min_le_left _ _)
          omega
         have hpl:∀ v∈wa,Plain v:=plain_of hwr (append_held.all_flatMap_cell _)
         have hst:=run_storeCells (P:=P) (b:=b) (o:=0) (el:=el0) wa 0 w c0 k1 (by simpa using hfit) hpl
         obtain ⟨st',hK,hs'⟩:=SR.rowRep hs h hl ht k1 hsz' (fun xs2 ws2 hwl2 hwr2 hwc2=>by
          have hx2:xs2.length=zs.length:=by
           have e1:ws2.length=xs2.length * Cod.size u':=by rw [hwr2.length,widths_flatMap]
           have e2:xs2.length * Cod.size u'=zs.length * Cod.size u':=by omega
           exact Nat.mul_right_cancel (LawCod.pos u') e2
          have hsp:xs2.flatMap (Cod.enc u')=(xs2.take (min zs.length ys.length)).flatMap (Cod.enc u')++(xs2.drop (min zs.length ys.length)).flatMap (Cod.enc u'):=by rw [←List.flatMap_append,List.take_append_drop]
          rw [hsp] at hwr2
          obtain ⟨wc,wd,rfl,q1,q2⟩:=Reps.split _ hwr2
          have hwcl:wc.length=wa.length:=by
           rw [q1.length,widths_flatMap,List.length_take,Nat.min_eq_left (by omega),hwl,g3]
          have hov:ovl ys xs2=ys.take (min zs.length ys.length)++xs2.drop (min zs.length ys.length):=by
           simp only [ovl,hx2]
           congr 1
           ·rw [List.take_eq_take_iff]; omega
           by_cases hle:ys.length≤zs.length
           ·rw [Nat.min_eq_right hle]
           rw [List.drop_eq_nil_of_le (by omega),List.drop_eq_nil_of_le (by omega)]
          refine ⟨wa++wd,by rw [←hwl2]; simp [hwcl],by rw [hov]; simp; omega,by rw [hov,List.flatMap_append]; exact hwr.append q2,fun k u hk=>?_⟩
          have hct:c0.toList=[]++wc++(wd++c0.toList.drop wsx.length):=by
           have:wc++wd=c0.toList.take wsx.length:=by
            apply List.ext_getElem?
            intro k
            by_cases hkn:k < wsx.length
            ·have h7:=hwc2 k (wc++wd)[k] (by rw [List.getElem?_eq_getElem (by omega)])
             rw [cell_of_heap k1] at h7
             rw [List.getElem?_take,if_pos hkn]; simp only [Array.getElem?_toList]; rw [h7,List.getElem?_eq_getElem (by omega)]
            rw [List.getElem?_eq_none (by omega),List.getElem?_eq_none (by rw [List.length_take]; omega)]
           rw [List.nil_append,←List.append_assoc,this,List.take_append_drop]
          have hlay:=lay_toList c0 [] wc (wd++c0.toList.drop wsx.length) wa hct hwcl.symm
          rw [List.length_nil,List.nil_append] at hlay
          have:(lay c0 0 wa).toList[k]?=some u:=by
           rw [hlay,←List.append_assoc,List.getElem?_append_left (List.getElem?_eq_some_iff.1 hk).1]; exact hk
          simpa using this)
         refine ⟨.int .i64 (min zs.length ys.length:Nat),_,_,st',V,l,?_,hK,hs',Rep.flat1 rfl⟩
         simp only [Nat.add_zero] at hst
         simp [Builtin.copy_,Sem.run_bind,run_underlying g1,Result.andThen,Builtin.lenOf,run_sizeOf g2,hgo,hrun,hst,Sem.run,Pure.pure,goInt]
     | _=>exact h.elim
  | _=>exact h.elim
 | _=>rw [hk] at h; exact h.elim
end Go.Ab
namespace Go.Ab
open Go
variable {S:Sig} [Cod S]
variable {X:Type} {gl:Gl} {En:Env X} {x:X} {w w1 w':World} {V V':Nat→Nat→Prop} {l l0:Loc} {ts:Array Value} {st:St S}
variable {P:Program} {par:Par S X} {a:Act} {K:AV S→St S→X→Prop} {ro:Option Nat} {n:Nat} {o:Oper}
omit [Cod S] in
theorem modify_map {f:MapEntry→MapEntry} (hf:∀ e,(f e).born=e.born):∀ (l:List MapEntry) (j:Nat),(l.modify j f).map (fun e=>e.born)=l.map fun e=>e.born
 | [],j=>by simp
 | e :: l,0=>by simp [hf]
 | e :: l,j+1=>by simp [List.modify_succ_cons,modify_map hf l j]
theorem Stamps.modify {es:Array MapEntry} {ck:Nat} (h:Stamps es ck) {j:Nat} {f:MapEntry→MapEntry} (hf:∀ e,(f e).born=e.born):Stamps (es.modify j f) ck:=by
 have hm:(es.modify j f).toList.map (fun e=>e.born)=es.toList.map fun e=>e.born:=by rw [Array.toList_modify]; exact modify_map hf _ _
 refine ⟨fun e he=>?_,by rw [hm]; exact h.2⟩
 have h1:e.born∈(es.modify j f).toList.map fun e=>e.born:=List.mem_map.2 ⟨e,he,rfl⟩
 rw [hm] at h1
 obtain ⟨e',he',h2⟩:=List.mem_map.1 h1
 rw [←h2]; exact h.1 e' he'
theorem Stamps.push {es:Array MapEntry} {ck:Nat} (h:Stamps es ck) {e:MapEntry} (he:e.born=ck):Stamps (es.push e) (ck+1):=by
 refine ⟨fun e' he'=>?_,?_⟩
 ·rw [Array.toList_push] at he'
  rcases List.mem_append.1 he' with h1 | h1
  ·have:=h.1 e' h1; omega
  rw [List.mem_singleton] at h1; subst h1; omega
 rw [Array.toList_push,List.map_append]
 refine List.nodup_append.2 ⟨h.2,by simp,fun a ha b hb e1=>?_⟩
 simp only [List.map_cons,List.map_nil,List.mem_singleton] at hb
 obtain ⟨x,hx,rfl⟩:=List.mem_map.1 ha
 have:=h.1 x hx
 omega
theorem SR.mapWrite (h:SR gl En x w V l ts st) {d b:Nat} {kvs kvs':List (AV S×AV S)} (hd:lookA st.seg d=some (.mp kvs)) (ho:l.own d=some b) {es:Array MapEntry} {ck:Nat}
  (hr:All2 (fun (e:MapEntry) (p:AV S×AV S)=>Rep w V Loc.none e.key p.1∧Rep w V Loc.none e.val p.2) es.toList kvs') (hstp:Stamps es ck):SR gl En x (w.putObj b (.map es ck)) V l ts { st with seg:=putA st.seg d (.mp kvs') }:=by
 have hm:Mut l st false d b:=⟨_,hd,ho⟩
 obtain ⟨b',hb',es0,ck0,h1,h2,h3⟩:=h.seg _ _ hd
 rw [ho] at hb'; cases hb'
 have hb:=lt_of_heap h1
 have hVb:∀ b' o,V b' o→b'≠b:=fun b' o hv e=>h3 o (e ▸ hv)
 have hblk:∀ b',b'≠b→(w.putObj b (.map es ck)).heap[b']?=w.heap[b']?:=fun b' hne=>World.putObj_heap_other hne
 have hc:∀ b' o,V b' o→eye (w.putObj b (.map es ck)) b' o=eye w b' o:=fun b' o hv=>cell_congr (hblk _ (hVb b' o hv)) o
 have hsz:(w.putObj b (.map es ck)).heap.size=w.heap.size:=by simp [World.putObj]
 have htk:∀ d' b' n cap,l.tok d'=some (.at b' n cap)→b'≠b:=fun d' b' n cap ht e=>by
  obtain ⟨u,f,hreg⟩:=h.regt _ _ ht
  have:=h.dis false d' false d b ⟨_,hreg,n,cap,e ▸ ht⟩ hm
  rw [this.2,hd] at hreg; cases hreg
 have hrep:∀ {l1:Loc} {vs:List Value} {es':List (AV S)},(∀ d t,l1.tok d=some t→l.tok d=some t)→Reps w V l1 vs es'→Reps (w.putObj b (.map es ck)) V l1 vs es':=fun hl1 hr =>
  hr.mono (fun _ _ h=>h) hc _ (Loc.le_refl _) fun d' b' n cap ht o _=>cell_congr (hblk _ (htk d' b' n cap (hl1 _ _ ht))) o
 have hat:∀ {b' o:Nat} {ws:List Value},CellsAt w V b' o ws→CellsAt (w.putObj b (.map es ck)) V b' o ws:=fun h=>h.mono (fun _ _ h=>h) hc
 have hno:∀ d t,Loc.none.tok d=some t→l.tok d=some t:=fun d t e=>by simp [Loc.none] at e
 have hnk:∀ d t,l.notok.tok d=some t→l.tok d=some t:=fun d t e=>by simp [Loc.notok] at e
 have hk:Keep (En.E x) w (w.putObj b (.map es ck)):=⟨rfl,rfl,rfl,by rw [hsz]; exact Nat.le_refl _,fun b' hE=>hblk _ fun e=>(h.mine _ _ _ hm).1 (e ▸ hE)⟩
 have hMM:∀ {k d' b'},Mut l { st with seg:=putA st.seg d (.mp kvs') } k d' b'→Mut l st k d' b':=by
  intro k d' b' hm'
  cases k with
  | false =>
   obtain ⟨ao',h4,h5⟩:=hm'
   simp only [lookA_putA] at h4
   by_cases hdd:d=d'
   ·subst hdd; rw [if_pos rfl] at h4; cases h4; exact ⟨_,hd,h5⟩
   rw [if_neg hdd] at h4; exact ⟨_,h4,h5⟩
  | true=>exact hm'
 refine ⟨h.le,h.cb.world (fun _ _ h=>h) hc,En.stable _ _ _ h.inv hk,gl.st _ _ h.g hk.size fun b' hb' o=>cell_congr (hblk b' fun e=>by have:=(h.mine _ _ _ hm).2; omega) o,
  fun b' o hv=>by rw [hsz]; exact h.vlt b' o hv,h.vem,h.sz,fun i c' hi=>hrep (fun _ _ h=>h) (h.tmps i c' hi),fun d' ao' hd'=>?_,fun d' ao' hd'=>?_,fun d' b' hb'=>?_,fun d' t ht=>?_,
  fun k d' b' hm'=>h.mine k d' b' (hMM hm'),fun k d1 k' d2 b' h4 h5=>h.dis k d1 k' d2 b' (hMM h4) (hMM h5)⟩
 ·simp only [lookA_putA] at hd'
  by_cases hdd:d=d'
  ·subst hdd; rw [if_pos rfl] at hd'; cases hd'
   refine ⟨b,ho,es,ck,World.putObj_heap_same hb,⟨?_,hstp⟩,h3⟩
   have hgo:∀ {L:List MapEntry} {M:List (AV S×AV S)},All2 (fun (e:MapEntry) (p:AV S×AV S)=>Rep w V Loc.none e.key p.1∧Rep w V Loc.none e.val p.2) L M →
     All2 (fun (e:MapEntry) (p:AV S×AV S)=>Rep (w.putObj b (.map es ck)) V Loc.none e.key p.1∧Rep (w.putObj b (.map es ck)) V Loc.none e.val p.2) L M:=fun h=>by
    induction h with
    | nil=>exact .nil
    | cons h _ ih=>exact .cons ⟨hrep hno h.1,hrep hno h.2⟩ ih
   exact hgo hr
  rw [if_neg hdd] at hd'
  have:=h.seg d' ao' hd'
  cases ao' with
  | cells es' =>
   obtain ⟨b',hb',c',el',h4,h5,h6⟩:=this
   have hne:b'≠b:=fun e=>hdd (h.dis false d false d' b hm ⟨_,hd',e ▸ hb'⟩).2
   exact ⟨b',hb',c',el',by rw [hblk _ hne]; exact h4,hrep (fun _ _ h=>h) h5,h6⟩
  | frz es' =>
   obtain ⟨b',ws,hb',h4,h5⟩:=this
   exact ⟨b',ws,hb',hat h4,hrep hno h5⟩
  | row u f =>
   obtain ⟨t,ht,h4⟩:=this
   refine ⟨t,ht,?_⟩
   cases t with
   | no=>trivial
   | «at» b' n cap =>
    obtain ⟨c',el',h5,h6⟩:=h4
    exact ⟨c',el',by rw [hblk _ (htk _ _ _ _ ht)]; exact h5,h6⟩
  | mp kvs =>
   obtain ⟨b',hb',hmp⟩:=this
   have hne:b'≠b:=fun e=>hdd (h.dis false d false d' b hm ⟨_,hd',e ▸ hb'⟩).2
   exact ⟨b',hb',hmp.mono (hblk _ hne) (hrep hno) fun o=>by obtain ⟨es,ck,_,_,h3⟩:=hmp; exact h3 o⟩
  | mpz ks us=>obtain ⟨b2,hb2,hmz⟩:=this; exact ⟨b2,hb2,(hrep hno) hmz⟩
 ·have:=h.up d' ao' hd'
  cases ao' with
  | cells es' =>
   obtain ⟨b',hb',c',el',h4,h5,h6⟩:=this
   have hne:b'≠b:=fun e=>by have:=(h.dis false d true d' b hm ⟨_,hd',trivial,e ▸ hb'⟩).1; cases this
   exact ⟨b',hb',c',el',by rw [hblk _ hne]; exact h4,hrep hnk h5,h6⟩
  | frz es' =>
   obtain ⟨b',ws,hb',h4,h5⟩:=this
   exact ⟨b',ws,hb',hat h4,hrep hno h5⟩
  | row u f=>trivial
  | mp kvs =>
   obtain ⟨b',hb',hmp⟩:=this
   have hne:b'≠b:=fun e=>by have:=(h.dis false d true d' b hm ⟨_,hd',trivial,e ▸ hb'⟩).1; cases this
   exact ⟨b',hb',hmp.mono (hblk _ hne) (hrep hno) fun o=>by obtain ⟨es,ck,_,_,h3⟩:=hmp; exact h3 o⟩
  | mpz ks us=>obtain ⟨b2,hb2,hmz⟩:=this; exact ⟨b2,hb2,(hrep hno) hmz⟩
 ·obtain ⟨es',h4,h5⟩:=h.rego d' b' hb'
  by_cases hdd:d=d'
  ·subst hdd; exact ⟨.mp kvs',by simp [lookA_putA],trivial⟩
  exact ⟨es',by simp only [lookA_putA,if_neg hdd]; exact h4,h5⟩
 obtain ⟨u,f,h4⟩:=h.regt d' t ht
 refine ⟨u,f,?_⟩
 simp only [lookA_putA]
 by_cases hdd:d=d'
 ·subst hdd; rw [hd] at h4; cases h4
 rw [if_neg hdd]; exact h4
theorem SR.mapWriteUp (h:SR gl En x w V l ts st) {d b:Nat} {kvs kvs':List (AV S×AV S)} (hd:lookA st.up d=some (.mp kvs)) (ho:l.up d=some b) {es:Array MapEntry} {ck:Nat}
  (hr:All2 (fun (e:MapEntry) (p:AV S×AV S)=>Rep w V Loc.none e.key p.1∧Rep w V Loc.none e.val p.2) es.toList kvs') (hstp:Stamps es ck):SR gl En x (w.putObj b (.map es ck)) V l ts { st with up:=putA st.up d (.mp kvs') }:=by
 have hm:Mut l st true d b:=⟨_,hd,trivial,ho⟩
 obtain ⟨b',hb',es0,ck0,h1,h2,h3⟩:=h.up _ _ hd
 rw [ho] at hb'; cases hb'
 have hb:=lt_of_heap h1
 have hVb:∀ b' o,V b' o→b'≠b:=fun b' o hv e=>h3 o (e ▸ hv)
 have hblk:∀ b',b'≠b→(w.putObj b (.map es ck)).heap[b']?=w.heap[b']?:=fun b' hne=>World.putObj_heap_other hne
 have hc:∀ b' o,V b' o→eye (w.putObj b (.map es ck)) b' o=eye w b' o:=fun b' o hv=>cell_congr (hblk _ (hVb b' o hv)) o
 have hsz:(w.putObj b (.map es ck)).heap.size=w.heap.size:=by simp [World.putObj]
 have htk:∀ d' b' n cap,l.tok d'=some (.at b' n cap)→b'≠b:=fun d' b' n cap ht e=>by
  obtain ⟨u,f,hreg⟩:=h.regt _ _ ht
  have:=(h.dis false d' true d b ⟨_,hreg,n,cap,e ▸ ht⟩ hm).1
  cases this
 have hrep:∀ {l1:Loc} {vs:List Value} {es':List (AV S)},(∀ d t,l1.tok d=some t→l.tok d=some t)→Reps w V l1 vs es'→Reps (w.putObj b (.map es ck)) V l1 vs es':=fun hl1 hr =>
  hr.mono (fun _ _ h=>h) hc _ (Loc.le_refl _) fun d' b' n cap ht o _=>cell_congr (hblk _ (htk d' b' n cap (hl1 _ _ ht))) o
 have hat:∀ {b' o:Nat} {ws:List Value},CellsAt w V b' o ws→CellsAt (w.putObj b (.map es ck)) V b' o ws:=fun h=>h.mono (fun _ _ h=>h) hc
 have hno:∀ d t,Loc.none.tok d=some t→l.tok d=some t:=fun d t e=>by simp [Loc.none] at e
 have hnk:∀ d t,l.notok.tok d=some t→l.tok d=some t:=fun d t e=>by simp [Loc.notok] at e
 have hk:Keep (En.E x) w (w.putObj b (.map es ck)):=⟨rfl,rfl,rfl,by rw [hsz]; exact Nat.le_refl _,fun b' hE=>hblk _ fun e=>(h.mine _ _ _ hm).1 (e ▸ hE)⟩
 have hMM:∀ {k d' b'},Mut l { st with up:=putA st.up d (.mp kvs') } k d' b'→Mut l st k d' b':=by
  intro k d' b' hm'
  cases k with
  | true =>
   obtain ⟨ao',h4,h5⟩:=hm'
   simp only [lookA_putA] at h4
   by_cases hdd:d=d'
   ·subst hdd; exact ⟨_,hd,trivial,h5.2⟩
   rw [if_neg hdd] at h4; exact ⟨_,h4,h5⟩
  | false=>exact hm'
 refine ⟨h.le,h.cb.world (fun _ _ h=>h) hc,En.stable _ _ _ h.inv hk,gl.st _ _ h.g hk.size fun b' hb' o=>cell_congr (hblk b' fun e=>by have:=(h.mine _ _ _ hm).2; omega) o,
  fun b' o hv=>by rw [hsz]; exact h.vlt b' o hv,h.vem,h.sz,fun i c' hi=>hrep (fun _ _ h=>h) (h.tmps i c' hi),fun d' ao' hd'=>?_,fun d' ao' hd'=>?_,h.rego,h.regt,
  fun k d' b' hm'=>h.mine k d' b' (hMM hm'),fun k d1 k' d2 b' h4 h5=>h.dis k d1 k' d2 b' (hMM h4) (hMM h5)⟩
 ·have:=h.seg d' ao' hd'
  cases ao' with
  | cells es' =>
   obtain ⟨b',hb',c',el',h4,h5,h6⟩:=this
   have hne:b'≠b:=fun e=>by have:=(h.dis true d false d' b hm ⟨_,hd',e ▸ hb'⟩).1; cases this
   exact ⟨b',hb',c',el',by rw [hblk _ hne]; exact h4,hrep (fun _ _ h=>h) h5,h6⟩
  | frz es' =>
   obtain ⟨b',ws,hb',h4,h5⟩:=this
   exact ⟨b',ws,hb',hat h4,hrep hno h5⟩
  | row u f =>
   obtain ⟨t,ht,h4⟩:=this
   refine ⟨t,ht,?_⟩
   cases t with
   | no=>trivial
   | «at» b' n cap =>
    obtain ⟨c',el',h5,h6⟩:=h4
    exact ⟨c',el',by rw [hblk _ (htk _ _ _ _ ht)]; exact h5,h6⟩
  | mp kvs =>
   obtain ⟨b',hb',hmp⟩:=this
   have hne:b'≠b:=fun e=>by have:=(h.dis true d false d' b hm ⟨_,hd',e ▸ hb'⟩).1; cases this
   exact ⟨b',hb',hmp.mono (hblk _ hne) (hrep hno) fun o=>by obtain ⟨es,ck,_,_,h3⟩:=hmp; exact h3 o⟩
  | mpz ks us=>obtain ⟨b2,hb2,hmz⟩:=this; exact ⟨b2,hb2,(hrep hno) hmz⟩
 simp only [lookA_putA] at hd'
 by_cases hdd:d=d'
 ·subst hdd; rw [if_pos rfl] at hd'; cases hd'
  refine ⟨b,ho,es,ck,World.putObj_heap_same hb,⟨?_,hstp⟩,h3⟩
  have hgo:∀ {L:List MapEntry} {M:List (AV S×AV S)},All2 (fun (e:MapEntry) (p:AV S×AV S)=>Rep w V Loc.none e.key p.1∧Rep w V Loc.none e.val p.2) L M →
    All2 (fun (e:MapEntry) (p:AV S×AV S)=>Rep (w.putObj b (.map es ck)) V Loc.none e.key p.1∧Rep (w.putObj b (.map es ck)) V Loc.none e.val p.2) L M:=fun h=>by
   induction h with
   | nil=>exact .nil
   | cons h _ ih=>exact .cons ⟨hrep hno h.1,hrep hno h.2⟩ ih
  exact hgo hr
 rw [if_neg hdd] at hd'
 have:=h.up d' ao' hd'
 cases ao' with
 | cells es' =>
  obtain ⟨b',hb',c',el',h4,h5,h6⟩:=this
  have hne:b'≠b:=fun e=>hdd (h.dis true d true d' b hm ⟨_,hd',trivial,e ▸ hb'⟩).2
  exact ⟨b',hb',c',el',by rw [hblk _ hne]; exact h4,hrep hnk h5,h6⟩
 | frz es' =>
  obtain ⟨b',ws,hb',h4,h5⟩:=this
  exact ⟨b',ws,hb',hat h4,hrep hno h5⟩
 | row u f=>trivial
 | mp kvs =>
  obtain ⟨b',hb',hmp⟩:=this
  have hne:b'≠b:=fun e=>hdd (h.dis true d true d' b hm ⟨_,hd',trivial,e ▸ hb'⟩).2
  exact ⟨b',hb',hmp.mono (hblk _ hne) (hrep hno) fun o=>by obtain ⟨es,ck,_,_,h3⟩:=hmp; exact h3 o⟩
 | mpz ks us=>obtain ⟨b2,hb2,hmz⟩:=this; exact ⟨b2,hb2,(hrep hno) hmz⟩
abbrev EntR (w:World) (V:Nat→Nat→Prop) (e:MapEntry) (p:AV S×AV S):Prop:=Rep w V Loc.none e.key p.1∧Rep w V Loc.none e.val p.2
def FoundR (w:World) (V:Nat→Nat→Prop) (keq:AV S→AV S→Option Bool) (k:AV S) (v:Value) (i:Nat) (es:List MapEntry) (kvs:List (AV S×AV S)) (r:Option (AV S)) (r':Option (Nat×Value)):Prop :=
 match r,r' with
 | none,none=>True
 | some c,some (j,u)=>Rep w V Loc.none u c∧∃ n e,j=i+n∧es[n]?=some e∧e.key=v∧Instr.sameBits 10000 e.key v=true ∧
   ∀ (u':Value) (c':AV S),Rep w V Loc.none u' c'→All2 (EntR w V) (es.modify n fun e=>{ e with key:=v,val:=u' }) (setM keq k c' kvs)
 | _,_=>False
theorem FoundR.next {keq:AV S→AV S→Option Bool} {k k' c:AV S} {v:Value} {i:Nat} {e:MapEntry} {es:List MapEntry} {kvs:List (AV S×AV S)} {r:Option (AV S)} {r':Option (Nat×Value)} (hq:keq k k'=some false) (he:EntR w V e (k',c))
  (h:FoundR w V keq k v (i+1) es kvs r r'):FoundR w V keq k v i (e :: es) ((k',c) :: kvs) r r':=by
 unfold FoundR at h ⊢
 cases r with
 | none=>cases r' <;> exact h
 | some d =>
  cases r' with
  | none=>exact h
  | some q =>
   obtain ⟨j,u⟩:=q
   obtain ⟨h1,n,e',rfl,h3,h4,h5,h6⟩:=h
   refine ⟨h1,n+1,e',by omega,by simpa using h3,h4,h5,fun u' c' hu=>?_⟩
   simp only [setM,hq,List.modify_succ_cons]
   exact .cons he (h6 u' c' hu)
theorem find_run {P:Program} {m:MapI S} {key:TypeId} {kd:TypeDesc} {k:AV S} {v:Value} (hk:∀ k k' b,m.keq k k'=some b→∀ (w:World) V V' l l' v v',Rep w V l v k→Rep w V' l' v' k' →
  (∀ e,(Instr.checkKey e 10000 key v).run P w=.ok () w)∧(Op.equal key v v').run P w=.ok b w∧(Instr.sameNow kd v v'=some b∨Instr.sameNow kd v v'=none)∧(b=true→v'=v∧Instr.sameBits 10000 v' v=true)) (hv:Rep w V l v k) :
  ∀ {es:List MapEntry} {kvs:List (AV S×AV S)},All2 (EntR w V) es kvs→∀ {r:Option (AV S)},lookM m.keq k kvs=some r →
  (∀ e,(Instr.checkKey e 10000 key v).run P w=.ok () w)∧∀ i,(Instr.findNow kd v es i=none∨∃ r',Instr.findNow kd v es i=some r'∧FoundR w V m.keq k v i es kvs r r')∧∃ r',(Instr.findAsking key v es i).run P w=.ok r' w∧FoundR w V m.keq k v i es kvs r r':=by
 intro es kvs h
 induction h with
 | nil =>
  intro r hr
  simp only [lookM] at hr
  cases hq:m.keq k k with
  | none=>rw [hq] at hr; cases hr
  | some b =>
   rw [hq] at hr; cases hr
   exact ⟨(hk _ _ _ hq w V V l l v v hv hv).1,fun i=>⟨.inr ⟨none,rfl,trivial⟩,none,rfl,trivial⟩⟩
 | @cons e p es kvs hp hes ih =>
  intro r hr
  obtain ⟨k',c⟩:=p
  simp only [lookM] at hr
  cases hq:m.keq k k' with
  | none=>rw [hq] at hr; cases hr
  | some b =>
   obtain ⟨h1,h2,h3,hsame⟩:=hk _ _ _ hq w V V l Loc.none v e.key hv hp.1
   rw [hq] at hr
   refine ⟨h1,fun i=>?_⟩
   cases b with
   | true =>
    cases hr
    obtain ⟨hke,hbt⟩:=hsame rfl
    have hF:FoundR w V m.keq k v i (e :: es) ((k',c) :: kvs) (some c) (some (i,e.val)):=by
     refine ⟨hp.2,0,e,rfl,rfl,hke,hbt,fun u' c' hu=>?_⟩
     simp only [setM,hq,List.modify_zero_cons]
     exact .cons ⟨by show Rep w V Loc.none v k'; rw [←hke]; exact hp.1,hu⟩ hes
    refine ⟨?_,some (i,e.val),by simp [Instr.findAsking,Sem.run_bind,h2,Result.andThen,Pure.pure],hF⟩
    rcases h3 with h3 | h3
    ·exact .inr ⟨some (i,e.val),by simp [Instr.findNow,h3],hF⟩
    exact .inl (by simp [Instr.findNow,h3])
   | false =>
    obtain ⟨_,h4⟩:=ih hr
    obtain ⟨h5,r',h6,h7⟩:=h4 (i+1)
    refine ⟨?_,r',by simp [Instr.findAsking,Sem.run_bind,h2,Result.andThen,h6],h7.next hq hp⟩
    rcases h3 with h3 | h3
    ·simp only [Instr.findNow,h3]
     rcases h5 with h5 | ⟨r2,h5,h8⟩
     ·exact .inl h5
     exact .inr ⟨r2,h5,h8.next hq hp⟩
    exact .inl (by simp [Instr.findNow,h3])
theorem findKey_run {P:Program} {key:TypeId} {kd:TypeDesc} {v:Value} {es:List MapEntry} {R:Option (Nat×Value)→Prop} (hkd:P.underlying key=some kd)
  (h:∀ i,(Instr.findNow kd v es i=none∨∃ r',Instr.findNow kd v es i=some r'∧(i=0→R r'))∧∃ r',(Instr.findAsking key v es i).run P w=.ok r' w∧(i=0→R r')) :
  ∃ r',(Instr.findKey key v es).run P w=.ok r' w∧R r':=by
 obtain ⟨h1,r',h2,h3⟩:=h 0
 rcases h1 with h1 | ⟨r2,h1,h4⟩
 ·exact ⟨r',by simp [Instr.findKey,Sem.run_bind,run_underlying hkd,Result.andThen,h1,h2],h3 rfl⟩
 exact ⟨r2,by simp [Instr.findKey,Sem.run_bind,run_underlying hkd,Result.andThen,h1,Pure.pure],h4 rfl⟩
omit [Cod S] in
theorem bareB_cons {c:AV S} {cs:List (AV S)} (h:bareB (c :: cs)=true):NotArr c∧bareB cs=true:=by
 cases c <;> first | exact ⟨trivial,h⟩ | cases h
theorem frz_all2:∀ {es:List MapEntry} {ks us:List (AV S)},bareB ks=true→bareB us=true→Reps w V Loc.none (es.map fun e=>e.key) ks→Reps w V Loc.none (es.map fun e=>e.val) us→All2 (EntR w V) es (ks.zip us)
 | [],ks,us,hk,_,h1,_=>by
  cases ks with
  | nil=>exact .nil
  | cons c ks=>obtain ⟨v,vs,he,_⟩:=h1.head (bareB_cons hk).1; cases he
 | e :: es,ks,us,hk,hu,h1,h2=>by
  cases ks with
  | nil=>have:=h1.nil_inv; cases this
  | cons c ks =>
   cases us with
   | nil=>have:=h2.nil_inv; cases this
   | cons d us =>
    obtain ⟨v,vs,he,h3,h4⟩:=h1.head (bareB_cons hk).1
    obtain ⟨v',vs',he',h5,h6⟩:=h2.head (bareB_cons hu).1
    simp only [List.map_cons,List.cons.injEq] at he he'
    obtain ⟨rfl,rfl⟩:=he
    obtain ⟨rfl,rfl⟩:=he'
    exact .cons ⟨h3,h5⟩ (frz_all2 (bareB_cons hk).2 (bareB_cons hu).2 h4 h6)
theorem Rep.mpf {v:Value} {ks us:List (AV S)} (h:Rep w V l v (.mpf ks us:AV S)):∃ b,v=.map (some b)∧MapFrz w V b ks us:=by
 unfold Rep at h
 generalize hvs:[v]=vs at h
 cases h with
 | flat h t=>exact h.elim
 | mpf hv hm hb r r' t=>cases hvs; exact ⟨_,rfl,Reps.mpf hv hm hb r r' (.nil _)⟩
theorem Rep.mpu {v:Value} {d:Nat} (h:Rep w V l v (.mpu d:AV S)):∃ b,l.up d=some b∧v=.map (some b):=by
 unfold Rep at h
 generalize hvs:[v]=vs at h
 cases h with
 | flat h t=>cases hvs; exact h
theorem Rep.mpv {v:Value} {d:Nat} (h:Rep w V l v (.mpv d:AV S)):∃ b,l.own d=some b∧v=.map (some b):=by
 unfold Rep at h
 generalize hvs:[v]=vs at h
 cases h with
 | flat h t=>cases hvs; exact h
variable [LawCod S]
omit [LawCod S] in
theorem makeMap_ok {d t:Nat} {r:Option Operand} (hs:SR gl En x w V l a.tmps st)
  (h:match r with
  | none=>findK par.mi t False fun _=>findK st.seg d (putK st.seg d (.mp []) fun sg=>K (.mpv d) { st with seg:=sg } x) fun _=>False
  | some _=>False):VOK P gl En a w (Instr.makeMap t (r.map a.eval)) K:=by
 cases r with
 | some y=>exact h.elim
 | none =>
  simp only at h
  rw [findK_eq] at h
  cases hm:lookA par.mi t with
  | none=>rw [hm] at h; exact h.elim
  | some m =>
   rw [hm] at h
   simp only at h
   rw [findK_eq] at h
   cases hl:lookA st.seg d with
   | some ao=>rw [hl] at h; exact h.elim
   | none =>
    rw [hl] at h
    simp only [putK_eq] at h
    obtain ⟨l',_,hs',hr⟩:=SR.newMap hs hl 0
    exact ⟨_,_,(rfl:(Instr.makeMap t none).run P w=.ok (.map (some w.heap.size)) (w.alloc (.map #[] 0))),_,_,x,V,l',h,hs',hr⟩
omit [LawCod S] in
theorem mapK1_elim (hs:SR gl En x w V l ts st) {v:Value} {mv:AV S} (hmv:Rep w V l v mv) {K:List (AV S×AV S)→Prop} (h:mapK1 mv st K) :
  ∃ kvs b es ck,K kvs∧v=.map (some b)∧w.heap[b]?=some (.map es ck)∧All2 (EntR w V) es.toList kvs:=by
 have hfz:∀ {b:Nat} {ks us:List (AV S)},MapFrz w V b ks us→K (ks.zip us)→v=.map (some b)→∃ kvs b es ck,K kvs∧v=.map (some b)∧w.heap[b]?=some (.map es ck)∧All2 (EntR w V) es.toList kvs:=fun hm hK hv=>by
  obtain ⟨es,ck,_,h2,h3,h4,h5⟩:=hm.inv
  exact ⟨_,_,es,ck,hK,hv,h2,frz_all2 h3.1 h3.2 h4 h5⟩
 unfold mapK1 at h
 cases mv with
 | mpv e =>
  simp only at h
  rw [findK_eq] at h
  cases hl:lookA st.seg e with
  | none=>rw [hl] at h; exact h.elim
  | some ao =>
   rw [hl] at h
   obtain ⟨b,hb,hv⟩:=hmv.mpv
   cases ao with
   | mp kvs =>
    obtain ⟨b',hb',es,ck,h1,⟨h2,_⟩,h3⟩:=hs.seg _ _ hl
    rw [hb] at hb'; cases hb'
    exact ⟨kvs,b,es,ck,h,hv,h1,h2⟩
   | mpz ks us =>
    obtain ⟨b',hb',hm⟩:=hs.seg _ _ hl
    rw [hb] at hb'; cases hb'
    exact hfz hm h hv
   | _=>exact h.elim
 | mpu e =>
  simp only at h
  rw [findK_eq] at h
  cases hl:lookA st.up e with
  | none=>rw [hl] at h; exact h.elim
  | some ao =>
   rw [hl] at h
   obtain ⟨b,hb,hv⟩:=hmv.mpu
   cases ao with
   | mp kvs =>
    obtain ⟨b',hb',es,ck,h1,⟨h2,_⟩,h3⟩:=hs.up _ _ hl
    rw [hb] at hb'; cases hb'
    exact ⟨kvs,b,es,ck,h,hv,h1,h2⟩
   | mpz ks us =>
    obtain ⟨b',hb',hm⟩:=hs.up _ _ hl
    rw [hb] at hb'; cases hb'
    exact hfz hm h hv
   | _=>exact h.elim
 | mpf ks us =>
  obtain ⟨b,hv,hm⟩:=hmv.mpf
  exact hfz hm h hv
 | _=>exact h.elim
omit [LawCod S] in
theorem lookup_ok (htis:TisOk P par.ti) (hmi:∀ t m,lookA par.mi t=some m→MapOk P t m) {t:Nat} {y i:Operand} {ok:Bool} (hs:SR gl En x w V l a.tmps st)
  (h:findK par.mi t False fun m=>tyK par m.elem fun ty=>evK st.tmps y fun mv=>evK st.tmps i fun iv=>mapK1 mv st fun kvs=>optK (lookM m.keq iv kvs) fun r=>oneK ty.zero fun z=>match ok with
   | true=>K (.tup [lkv r z,.bool r.isSome]) st x
   | false=>K (lkv r z) st x):VOK P gl En a w (Instr.lookup t (a.eval y) (a.eval i) ok) K:=by
 rw [findK_eq] at h
 cases hm:lookA par.mi t with
 | none=>rw [hm] at h; exact h.elim
 | some m =>
  rw [hm] at h
  obtain ⟨key,kd,hut,huk,hzz,hkeq⟩:=hmi _ _ hm
  simp only at h
  obtain ⟨ty,h,hty⟩:=tyK_elim htis h
  obtain ⟨mv,h,hmv⟩:=evK_elim hs h
  obtain ⟨iv,h,hiv⟩:=evK_elim hs h
  obtain ⟨kvs,b,es,ck,h,hv,h1,h2⟩:=mapK1_elim hs hmv h
  obtain ⟨r,hr,h⟩:=h
  obtain ⟨c,h,h8⟩:=oneK_elim h
  obtain ⟨h4,h5⟩:=find_run (P:=P) hkeq hiv h2 hr
  obtain ⟨r',h6,h7⟩:=findKey_run (R:=FoundR w V m.keq iv (a.eval i) 0 es.toList kvs r) huk fun i=>⟨(h5 i).1.imp id fun ⟨r',h8,h9⟩=>⟨r',h8,fun e=>by subst e; exact h9⟩,by
   obtain ⟨r',h8,h9⟩:=(h5 i).2
   exact ⟨r',h8,fun e=>by subst e; exact h9⟩⟩
  have hget:(getObj b).run P w=.ok (.map es ck) w:=by simp [getObj,Sem.run,h1]
  have hrun:∀ {u:Value} {z:Bool},(match r' with | some (_,v)=>v=u∧z=true | none=>z=false∧(zeroValue m.elem).run P w=.ok u w) →
    (Instr.lookup t (.map (some b)) (a.eval i) ok).run P w=.ok (if ok then .tuple #[u,.bool z] else u) w:=fun {u z} hu=>by
   simp only [Instr.lookup,Sem.run_bind,run_underlying hut,Result.andThen,hget]
   simp only [Pure.pure,Sem.run,h4,h6]
   cases r' with
   | some p=>obtain ⟨j,v⟩:=p; obtain ⟨rfl,rfl⟩:=hu; cases ok <;> rfl
   | none=>obtain ⟨rfl,hu⟩:=hu; simp only [Sem.run_bind,hu,Result.andThen]; cases ok <;> rfl
  rw [hv]
  cases r with
  | some c' =>
   cases r' with
   | none=>exact h7.elim
   | some p =>
    obtain ⟨j,u⟩:=p
    have hru:=hrun (u:=u) (z:=true) ⟨rfl,rfl⟩
    have h7:Rep w V Loc.none u c':=h7.1
    cases ok with
    | true=>exact ⟨_,w,hru,_,_,x,V,l,h,hs,Reps.tup (c:=#[u,.bool true]) ((h7.of_none l).append (Rep.flat1 rfl)) (.nil _)⟩
    | false=>exact ⟨_,w,hru,_,_,x,V,l,h,hs,h7.of_none l⟩
  | none =>
   cases r' with
   | some p=>exact h7.elim
   | none =>
    obtain ⟨inf,z,hi,hsz,hz,hz0⟩:=hty.info
    obtain ⟨inf',z',hi',hz',hzc⟩:=hzz
    rw [hi] at hi'; cases hi'
    rw [hz] at hz'; cases hz'
    have hzr:=(hz0 w V).1
    rw [hzc] at hzr
    obtain ⟨v,vs,he,h9⟩:=h8 _ _ _ _ hzr
    have:=(List.cons.inj he).1
    subst this
    have hru:=hrun (u:=z) (z:=false) ⟨rfl,run_zeroValue hi hz⟩
    cases ok with
    | true=>exact ⟨_,w,hru,_,_,x,V,l,h,hs,Reps.tup (c:=#[z,.bool false]) ((h9.of_none l).append (Rep.flat1 rfl)) (.nil _)⟩
    | false=>exact ⟨_,w,hru,_,_,x,V,l,h,hs,h9.of_none l⟩
theorem mapUpdate_ok (hmi:∀ t m,lookA par.mi t=some m→MapOk P t m) {t:Nat} {y i v:Operand} (hs:SR gl En x w V l a.tmps st)
  (h:findK par.mi t False fun m=>evK st.tmps y fun mv=>evK st.tmps i fun iv=>evK st.tmps v fun vv=>match mv with
  | .mpv e=>outK 20 iv st.seg fun iv' sg=>outK 20 vv sg fun vv' sg'=>findK sg' e False fun
   | .mp kvs=>optK (lookM m.keq iv' kvs) fun r=>match r with
    | some _=>putK sg' e (.mp (setM m.keq iv' vv' kvs)) fun sg''=>K .skip { st with seg:=sg'' } x
    | none=>putK sg' e (.mp (kvs++[(iv',vv')])) fun sg''=>K .skip { st with seg:=sg'' } x
   | _=>False
  | .mpu e=>outK 20 iv st.seg fun iv' sg=>outK 20 vv sg fun vv' sg'=>findK st.up e False fun
   | .mp kvs=>optK (lookM m.keq iv' kvs) fun r=>match r with
    | some _=>False
    | none=>putK st.up e (.mp (kvs++[(iv',vv')])) fun up=>K .skip { st with seg:=sg',up:=up } x
   | _=>False
  | _=>False):∃ w',(Instr.mapUpdate t (a.eval y) (a.eval i) (a.eval v)).run P w=.ok () w'∧Res gl En a K Go.undef w':=by
 rw [findK_eq] at h
 cases hm:lookA par.mi t with
 | none=>rw [hm] at h; exact h.elim
 | some m =>
  rw [hm] at h
  obtain ⟨key,kd,hut,huk,hzz,hkeq⟩:=hmi _ _ hm
  simp only at h
  obtain ⟨mv,h,hmv⟩:=evK_elim hs h
  obtain ⟨iv,h,hiv⟩:=evK_elim hs h
  obtain ⟨vv,h,hvv⟩:=evK_elim hs h
  cases mv with
  | mpv e =>
   simp only at h
   obtain ⟨iv',sg1,h,ho1⟩:=(outK_elim 20).1 _ _ _ h
   obtain ⟨vv',sg2,h,ho2⟩:=(outK_elim 20).1 _ _ _ h
   obtain ⟨V1,hV1,hs1,_,hr1⟩:=ho1.out hs
   obtain ⟨V2,hV2,hs2,_,hr2⟩:=ho2.out hs1
   have hi2:Rep w V2 Loc.none (a.eval i) iv':=(hr1 _ hiv).more hV2 (Loc.le_refl _)
   have hv2:Rep w V2 Loc.none (a.eval v) vv':=hr2 _ (hvv.more hV1 (Loc.le_refl _))
   rw [findK_eq] at h
   cases hl:lookA sg2 e with
   | none=>rw [hl] at h; exact h.elim
   | some ao =>
    rw [hl] at h
    cases ao with
    | mp kvs =>
     obtain ⟨r,hr,h⟩:=h
     obtain ⟨b,hb,hv⟩:=hmv.mpv
     obtain ⟨b',hb',es,ck,h1,⟨h2,hstp⟩,h3⟩:=hs2.seg _ _ hl
     rw [hb] at hb'; cases hb'
     obtain ⟨h4,h5⟩:=find_run (P:=P) hkeq hi2 h2 hr
     obtain ⟨r',h6,h7⟩:=findKey_run (R:=FoundR w V2 m.keq iv' (a.eval i) 0 es.toList kvs r) huk fun i=>⟨(h5 i).1.imp id fun ⟨r',h8,h9⟩=>⟨r',h8,fun e=>by subst e; exact h9⟩,by
      obtain ⟨r',h8,h9⟩:=(h5 i).2
      exact ⟨r',h8,fun e=>by subst e; exact h9⟩⟩
     have hget:(getObj b).run P w=.ok (.map es ck) w:=by simp [getObj,Sem.run,h1]
     cases r with
     | some c =>
      cases r' with
      | none=>exact h7.elim
      | some q =>
       obtain ⟨j,u⟩:=q
       obtain ⟨_,n,e0,hj,hn,hke,hbt,hset⟩:=h7
       obtain rfl:j=n:=by omega
       rw [putK_eq] at h
       rw [hv]
       have hset:=hset (a.eval v) vv' hv2
       have hrunS:(setObj b (.map (es.modify j fun e=>{ e with key:=a.eval i,val:=a.eval v }) ck)).run P w=.ok () (w.putObj b (.map (es.modify j fun e=>{ e with key:=a.eval i,val:=a.eval v }) ck)):=by
        simp [setObj,Sem.run,h1,World.putObj]
       have hsr:=SR.mapWrite hs2 hl hb (es:=es.modify j fun e=>{ e with key:=a.eval i,val:=a.eval v }) (ck:=ck) (kvs':=setM m.keq iv' vv' kvs) (by rw [Array.toList_modify]; exact hset) (hstp.modify fun _=>rfl)
       refine ⟨_,?_,.skip,_,x,V2,l,h,hsr,Rep.flat1 rfl⟩
       have hold:((es[j]?.map fun e=>e.key).getD (a.eval i))=e0.key:=by
        have:es[j]?=some e0:=by simpa using hn
        rw [this]; rfl
       simp only [Instr.mapUpdate,Sem.run_bind,run_underlying hut,Result.andThen,hget]
       simp only [h4,h6,Sem.run_bind,Instr.keyThatStays,hold,hbt,if_true,Pure.pure,Sem.run,Result.andThen]
       exact hrunS
     | none =>
      cases r' with
      | some p=>exact h7.elim
      | none =>
       simp only [putK_eq] at h
       rw [hv]
       have hset:(setObj b (.map (es.push { key:=a.eval i,val:=a.eval v,born:=ck }) (ck+1))).run P w=.ok () (w.putObj b (.map (es.push { key:=a.eval i,val:=a.eval v,born:=ck }) (ck+1))):=by
        simp [setObj,Sem.run,h1,World.putObj]
       have hgo:∀ {L:List MapEntry} {M:List (AV S×AV S)},All2 (fun (e:MapEntry) (p:AV S×AV S)=>Rep w V2 Loc.none e.key p.1∧Rep w V2 Loc.none e.val p.2) L M →
         All2 (fun (e:MapEntry) (p:AV S×AV S)=>Rep w V2 Loc.none e.key p.1∧Rep w V2 Loc.none e.val p.2) (L++[{ key:=a.eval i,val:=a.eval v,born:=ck }]) (M++[(iv',vv')]):=fun h=>by
        induction h with
        | nil=>exact .cons ⟨hi2,hv2⟩ .nil
        | cons h _ ih=>exact .cons h ih
       have hsr:=SR.mapWrite hs2 hl hb (es:=es.push { key:=a.eval i,val:=a.eval v,born:=ck }) (ck:=ck+1) (kvs':=kvs++[(iv',vv')]) (by rw [Array.toList_push]; exact hgo h2) (hstp.push rfl)
       refine ⟨_,?_,.skip,_,x,V2,l,h,hsr,Rep.flat1 rfl⟩
       simp only [Instr.mapUpdate,Sem.run_bind,run_underlying hut,Result.andThen,hget]
       simp only [h4,h6,hset]
    | _=>exact h.elim
  | mpu e =>
   simp only at h
   obtain ⟨iv',sg1,h,ho1⟩:=(outK_elim 20).1 _ _ _ h
   obtain ⟨vv',sg2,h,ho2⟩:=(outK_elim 20).1 _ _ _ h
   obtain ⟨V1,hV1,hs1,_,hr1⟩:=ho1.out hs
   obtain ⟨V2,hV2,hs2,_,hr2⟩:=ho2.out hs1
   have hi2:Rep w V2 Loc.none (a.eval i) iv':=(hr1 _ hiv).more hV2 (Loc.le_refl _)
   have hv2:Rep w V2 Loc.none (a.eval v) vv':=hr2 _ (hvv.more hV1 (Loc.le_refl _))
   rw [findK_eq] at h
   cases hl:lookA st.up e with
   | none=>rw [hl] at h; exact h.elim
   | some ao =>
    rw [hl] at h
    cases ao with
    | mp kvs =>
     obtain ⟨r,hr,h⟩:=h
     obtain ⟨b,hb,hv⟩:=hmv.mpu
     obtain ⟨b',hb',es,ck,h1,⟨h2,hstp⟩,h3⟩:=hs2.up _ _ hl
     rw [hb] at hb'; cases hb'
     obtain ⟨h4,h5⟩:=find_run (P:=P) hkeq hi2 h2 hr
     obtain ⟨r',h6,h7⟩:=findKey_run (R:=FoundR w V2 m.keq iv' (a.eval i) 0 es.toList kvs r) huk fun i=>⟨(h5 i).1.imp id fun ⟨r',h8,h9⟩=>⟨r',h8,fun e=>by subst e; exact h9⟩,by
      obtain ⟨r',h8,h9⟩:=(h5 i).2
      exact ⟨r',h8,fun e=>by subst e; exact h9⟩⟩
     have hget:(getObj b).run P w=.ok (.map es ck) w:=by simp [getObj,Sem.run,h1]
     cases r with
     | some c=>exact h.elim
     | none =>
      cases r' with
      | some p=>exact h7.elim
      | none =>
       rw [putK_eq] at h
       rw [hv]
       have hset:(setObj b (.map (es.push { key:=a.eval i,val:=a.eval v,born:=ck }) (ck+1))).run P w=.ok () (w.putObj b (.map (es.push { key:=a.eval i,val:=a.eval v,born:=ck }) (ck+1))):=by
        simp [setObj,Sem.run,h1,World.putObj]
       have hgo:∀ {L:List MapEntry} {M:List (AV S×AV S)},All2 (fun (e:MapEntry) (p:AV S×AV S)=>Rep w V2 Loc.none e.key p.1∧Rep w V2 Loc.none e.val p.2) L M →
         All2 (fun (e:MapEntry) (p:AV S×AV S)=>Rep w V2 Loc.none e.key p.1∧Rep w V2 Loc.none e.val p.2) (L++[{ key:=a.eval i,val:=a.eval v,born:=ck }]) (M++[(iv',vv')]):=fun h=>by
        induction h with
        | nil=>exact .cons ⟨hi2,hv2⟩ .nil
        | cons h _ ih=>exact .cons h ih
       have hsr:=SR.mapWriteUp hs2 hl hb (es:=es.push { key:=a.eval i,val:=a.eval v,born:=ck }) (ck:=ck+1) (kvs':=kvs++[(iv',vv')]) (by rw [Array.toList_push]; exact hgo h2) (hstp.push rfl)
       refine ⟨_,?_,.skip,_,x,V2,l,h,hsr,Rep.flat1 rfl⟩
       simp only [Instr.mapUpdate,Sem.run_bind,run_underlying hut,Result.andThen,hget]
       simp only [h4,h6,hset]
    | _=>exact h.elim
  | _=>exact h.elim
end Go.Ab
namespace Go.Ab
open Go
variable {S:Sig} [Cod S]
variable {X:Type} {gl:Gl} {En:Env X} {x:X} {w w1 w':World} {V V':Nat→Nat→Prop} {l l0:Loc} {ts:Array Value} {st:St S}
variable {P:Program} {par:Par S X} {a:Act} {K:AV S→St S→X→Prop} {ro:Option Nat} {n:Nat} {o:Oper}
theorem TyOk.und {t:Nat} {ty:TyI S} (h:TyOk P t ty):∃ d,P.underlying t=some d:=by
 have hk:=h.kind
 cases hty:ty.kind <;> rw [hty] at hk
 case bool=>exact ⟨_,hk⟩
 case int=>exact ⟨_,hk⟩
 case str=>exact ⟨_,hk⟩
 case ptr=>obtain ⟨e,h⟩:=hk; exact ⟨_,h⟩
 case func=>obtain ⟨a,b,c,h⟩:=hk; exact ⟨_,h⟩
 case struct=>obtain ⟨a,b,h,_⟩:=hk; exact ⟨_,h⟩
 case array=>obtain ⟨a,b,h,_⟩:=hk; exact ⟨_,h⟩
 case slice=>obtain ⟨a,b,c,h,_⟩:=hk; exact ⟨_,h⟩
 case map=>obtain ⟨k,e,h⟩:=hk; exact ⟨_,h⟩
theorem VOK.op {s:Sem Value} (h:VOK P gl En a w s K) (hd:∀ c,o.op≠.defer c) (he:execOp a.eval o=(do pure (Next.value (←s)):Sem Next)):OpOK ro n P o a w (Res gl En a K):=by
 obtain ⟨v,w',h1,h2⟩:=h
 exact OpOK.value hd (by rw [he]; exact run_v h1) h2
variable [LawCod S]
theorem append_ty {t t':TypeId} {ty ty':TyI S} {u u':S.U} {b b':Nat} {ez ez':List (AV S)} (hty:TyOk P t ty) (hty':TyOk P t' ty') (hk:ty.kind=.slice u b ez) (hk':ty'.kind=.slice u' b' ez') :
  ∃ e i z,AppTy P t t' e i z (Cod.lim u)∧i.size=Cod.size u:=by
 have h1:=hty.kind
 have h2:=hty'.kind
 rw [hk] at h1
 rw [hk'] at h2
 obtain ⟨e,i,z,g1,g2,g3,g4,g5,g6,g7,g8,g9⟩:=h1
 obtain ⟨e',i',z',k1,_⟩:=h2
 refine ⟨e,i,z,⟨g1,⟨e',k1⟩,g2,g7,?_,by omega,by rw [g4]; exact g6.2⟩,g3⟩
 have:=(g8 default (fun _ _=>False)).1.length
 rw [Array.length_toList] at this
 omega
omit [LawCod S] in
theorem moreK_bare {u:S.U} {y:AV S} {K:List (S.T u)→Prop} (h:moreK u y K):NotArr y:=by
 unfold moreK at h
 cases y <;> first | trivial | exact h.elim
omit [LawCod S] in
theorem appendK_bare {d:Nat} {u:S.U} {s y:AV S} {K:AV S→St S→Prop} (h:appendK d u s y st K):NotArr s∧NotArr y:=by
 unfold appendK at h
 cases s with
 | nils=>exact ⟨trivial,moreK_bare h⟩
 | sl v xs o =>
  cases o with
  | none=>exact h.elim
  | some e=>obtain ⟨_,h⟩:=castL_elim h; exact ⟨trivial,moreK_bare h⟩
 | _=>exact h.elim
omit [LawCod S] in
theorem appendO_bare {d:Nat} {u:S.U} {s y:AV S} {K:AV S→St S→Prop} (h:appendO d u s y st K):NotArr s∧NotArr y:=by
 unfold appendO at h
 cases s with
 | sl v xs o =>
  cases o with
  | none=>exact h.elim
  | some e=>obtain ⟨_,h⟩:=castL_elim h; exact ⟨trivial,moreK_bare h⟩
 | _=>exact appendK_bare h
theorem builtin_ok {c:Call} {b:Builtin} (hpo:ParOk P gl par En) (hs:SR gl En x w V l a.tmps st) (ho:o.op=.call c) (hb:c.callee=.builtin b)
  (h:evLK st.tmps c.args.toList fun args=>builtinK par (o.dst.getD 0) b c.argTypes.toList args st fun v st'=>K v st' x):OpOK ro n P o a w (Res gl En a K):=by
 obtain ⟨args,h,hl,hr⟩:=evLK_elim hs h
 have hd:∀ c',o.op≠.defer c':=fun c' e=>by rw [ho] at e; cases e
 have hex:∀ {s:Sem Value},builtin b c.argTypes o.type (c.args.map fun | .const _=>true | _=>false) (c.args.map a.eval)=(do pure (Next.value (←s)):Sem Next)→∀ {v:Value} {w':World},s.run P w=.ok v w' →
   (execOp a.eval o).run P w=.ok (.value v) w':=fun {s} he {v w'} hv=>by
  simp only [execOp,ho,resolve,hb]
  show (builtin b c.argTypes o.type (c.args.map fun | .const _=>true | _=>false) (c.args.map a.eval)).run P w=_
  rw [he]
  exact run_v hv
 have hat:c.argTypes=c.argTypes.toList.toArray:=by simp
 have hag:c.args.map a.eval=(c.args.toList.map a.eval).toArray:=by apply Array.ext'; simp
 generalize c.argTypes.toList=tys at h hat
 generalize c.args.toList.map a.eval=vs at hr hag
 unfold builtinK at h
 split at h
 ·
  rename_i b' tys' args' t rest v hb0
  by_cases hv:NotArr v
  ·obtain ⟨u,us,rfl,h1,h2⟩:=hr.head hv
   obtain rfl:=h2.nil_inv
   obtain ⟨r,c',h3,h4,h5⟩:=len_ok (P:=P) (st:=st) (K:=fun v st'=>K v st' x) (rest:=rest) (ty0:=o.type) hpo.ti h h1
   exact OpOK.value hd (hex (s:=Builtin.len_ c.argTypes o.type (c.args.map a.eval)) rfl (by rw [hat,hag]; exact h3)) ⟨c',st,x,V,l,h4,hs,h5⟩
  obtain ⟨ty,h,_⟩:=tyK_elim hpo.ti h
  cases v <;> first | exact absurd trivial hv | (cases hk:ty.kind <;> rw [hk] at h <;> exact h.elim)
 ·
  rename_i b' tys' args' t t' rest s y hb0
  obtain ⟨ty,h,hty⟩:=tyK_elim hpo.ti h
  obtain ⟨ty',h,hty'⟩:=tyK_elim hpo.ti h
  cases hk:ty.kind <;> rw [hk] at h <;> try exact h.elim
  rename_i u b' ez
  cases hk':ty'.kind <;> rw [hk'] at h <;> try exact h.elim
  simp only at h
  obtain ⟨e,i,z,hat',hsz⟩:=append_ty hty hty' hk hk'
  cases how:par.ow with
  | false =>
   rw [how] at h
   simp only at h
   obtain ⟨hvs,hvy⟩:=appendK_bare h
   obtain ⟨us,_,rfl,h1,h2⟩:=hr.head hvs
   obtain ⟨uy,_,rfl,h3,h4⟩:=h2.head hvy
   obtain rfl:=h4.nil_inv
   obtain ⟨v,w',c',st',V',l',hrun,hK,hs',hrep⟩:=append_ok (rest:=rest) (type:=o.type) hat' hsz hs h1 h3 h
   exact OpOK.value hd (hex (s:=Builtin.append_ c.argTypes o.type (c.args.map a.eval)) rfl (by rw [hat,hag]; exact hrun)) ⟨c',st',x,V',l',hK,hs',hrep⟩
  | true =>
   rw [how] at h
   simp only at h
   obtain ⟨hvs,hvy⟩:=appendO_bare h
   obtain ⟨us,_,rfl,h1,h2⟩:=hr.head hvs
   obtain ⟨uy,_,rfl,h3,h4⟩:=h2.head hvy
   obtain rfl:=h4.nil_inv
   obtain ⟨v,w',c',st',V',l',hrun,hK,hs',hrep⟩:=appendO_ok (rest:=rest) (type:=o.type) hat' hsz hs h1 h3 h
   exact OpOK.value hd (hex (s:=Builtin.append_ c.argTypes o.type (c.args.map a.eval)) rfl (by rw [hat,hag]; exact hrun)) ⟨c',st',x,V',l',hK,hs',hrep⟩
 ·
  rename_i b' tys' args' t rest s y hb0
  obtain ⟨hvs,hvy⟩:NotArr s∧NotArr y:=by
   obtain ⟨ty,h,_⟩:=tyK_elim hpo.ti h
   cases hk:ty.kind <;> rw [hk] at h <;> try exact h.elim
   cases s with
   | sl v' xs' o'=>cases o' with
    | none=>exact h.elim
    | some e=>obtain ⟨_,h⟩:=castL_elim h; exact ⟨trivial,moreK_bare h⟩
   | _=>exact h.elim
  obtain ⟨us,_,rfl,h1,h2⟩:=hr.head hvs
  obtain ⟨uy,_,rfl,h3,h4⟩:=h2.head hvy
  obtain rfl:=h4.nil_inv
  obtain ⟨v,w',c',st',V',l',hrun,hK,hs',hrep⟩:=copy_ok (K:=fun v st'=>K v st' x) (rest:=rest) (type:=o.type) hpo.ti hs h h1 h3
  exact OpOK.value hd (hex (s:=Builtin.copy_ c.argTypes o.type (c.args.map a.eval)) rfl (by rw [hat,hag]; exact hrun)) ⟨c',st',x,V',l',hK,hs',hrep⟩
 ·
  rename_i b' tys' args' tys'' v cs hb0
  have hv:NotArr v:=by cases v <;> first | trivial | (cases cs <;> simp [minK] at h)
  obtain ⟨u,us,rfl,h1,h2⟩:=hr.head hv
  obtain ⟨r,c',h3,h4,h5⟩:=min_run (P:=P) h1 h2 h
  exact OpOK.value hd (hex (s:=Builtin.min_ c.argTypes o.type (c.args.map a.eval)) rfl (by rw [hag]; exact h3)) ⟨c',st,x,V,l,h4,hs,h5⟩
 ·
  rename_i b' tys' args' tys'' v cs hb0
  have hv:NotArr v:=by cases v <;> first | trivial | (cases cs <;> simp [minK] at h)
  obtain ⟨u,us,rfl,h1,h2⟩:=hr.head hv
  obtain ⟨r,c',h3,h4,h5⟩:=max_run (P:=P) h1 h2 h
  exact OpOK.value hd (hex (s:=Builtin.max_ c.argTypes o.type (c.args.map a.eval)) rfl (by rw [hag]; exact h3)) ⟨c',st,x,V,l,h4,hs,h5⟩
 exact h.elim
theorem opW_sound (hpo:ParOk P gl par En) (hs:SR gl En x w V l a.tmps st) (h:opW par o st x K):OpOK ro n P o a w (Res gl En a K):=by
 unfold opW at h
 simp only at h
 split at h
 ·
  rename_i y ho
  have hd:∀ c',o.op≠.defer c':=fun c' e=>by rw [ho] at e; cases e
  obtain ⟨c,hK,hc⟩:=evK_elim hs h
  exact OpOK.value hd (v:=a.eval y) (w':=w) (by simp only [execOp,ho]; rfl) ⟨c,st,x,V,l,hK,hs,hc⟩
 ·rename_i y ho
  have hd:∀ c',o.op≠.defer c':=fun c' e=>by rw [ho] at e; cases e
  rcases nilx_elim h with ⟨hb,h⟩ | h
  ·exact OpOK.value hd (v:=a.eval y) (w':=w) (by simp only [execOp,ho]; rfl) ⟨.nil0,st,x,V,l,h,hs,Rep.flat1 (nilOp_eval (Bool.and_eq_true _ _ ▸ hb).2)⟩
  obtain ⟨v,w',hr,hres⟩:=assign_ok hpo.ti hs h
  exact OpOK.value hd (v:=v) (w':=w') (by simp only [execOp,ho]; cases hr; rfl) hres
 ·rename_i c y z ho
  have hd:∀ c',o.op≠.defer c':=fun c' e=>by rw [ho] at e; cases e
  obtain ⟨v,w',hr,hres⟩:=pick_ok (P:=P) hs h
  exact OpOK.value hd (v:=v) (w':=w') (by
   simp only [execOp,ho]
   rw [Sem.run_bind] at hr ⊢
   revert hr
   cases (asBool (a.eval c)).run P w with
   | ok b w2=>simp only [Result.andThen]; intro hr; cases hr; rfl
   | halt h w2=>simp only [Result.andThen]; intro hr; cases hr) hres
 ·rename_i t ho
  have hd:∀ c',o.op≠.defer c':=fun c' e=>by rw [ho] at e; cases e
  exact VOK.op (alloc_ok hpo.ti hs h) hd (by simp only [execOp,ho])
 ·rename_i t y ho
  have hd:∀ c',o.op≠.defer c':=fun c' e=>by rw [ho] at e; cases e
  exact VOK.op (box_ok hpo.ti hs h) hd (by simp only [execOp,ho])
 ·
  rename_i t ps ho
  have hd:∀ c',o.op≠.defer c':=fun c' e=>by rw [ho] at e; cases e
  obtain ⟨ty,h,hty⟩:=tyK_elim hpo.ti h
  obtain ⟨vs,h,hv⟩:=evPK_elim hs h
  obtain ⟨v,c,h1,h2,h3⟩:=build_ok (K:=fun c=>K c st x) hty hv h
  exact VOK.op (P:=P) ⟨v,w,h1,c,st,x,V,l,h2,hs,h3⟩ hd (by simp only [execOp,ho])
 ·rename_i t len ps ho
  have hd:∀ c',o.op≠.defer c':=fun c' e=>by rw [ho] at e; cases e
  cases hps:ps.toList with
  | nil =>
   rw [hps] at h
   exact VOK.op (buildSlice_nil hpo.ti hs hps h) hd (by simp only [execOp,ho])
  | cons p0 ps0 =>
   rw [hps] at h
   simp only at h
   rw [←hps] at h
   exact VOK.op (buildSlice_ok hpo.ti hs h) hd (by simp only [execOp,ho])
 ·
  rename_i t p ho
  have hd:∀ c',o.op≠.defer c':=fun c' e=>by rw [ho] at e; cases e
  obtain ⟨ty,h,hty⟩:=tyK_elim hpo.ti h
  obtain ⟨pv,h,hp⟩:=evK_elim hs h
  obtain ⟨v,c,h1,h2,h3⟩:=loadE_ok hty hs hp h
  exact VOK.op (P:=P) ⟨v,w,h1,c,st,x,V,l,h2,hs,h3⟩ hd (by simp only [execOp,ho])
 ·
  rename_i t p y ho
  have hd:∀ c',o.op≠.defer c':=fun c' e=>by rw [ho] at e; cases e
  obtain ⟨ty,h,hty⟩:=tyK_elim hpo.ti h
  obtain ⟨pv,h,hp⟩:=evK_elim hs h
  obtain ⟨v,h,hv⟩:=evK_elim hs h
  obtain ⟨w',st',V',l',h1,h2,h3⟩:=store_ok hty hs hp hv h
  exact OpOK.skip hd (by simp only [execOp,ho]; exact run_u h1) ⟨.skip,st',x,V',l',h2,h3,Rep.flat1 rfl⟩
 ·
  rename_i y ho
  have hd:∀ c',o.op≠.defer c':=fun c' e=>by rw [ho] at e; cases e
  obtain ⟨ad,h1,h2⟩:=nilCheck_ok hs h
  exact OpOK.value hd (v:=a.eval y) (w':=w) (by simp only [execOp,ho,h1]; rfl) h2
 ·rename_i op t y z ov ho
  have hd:∀ c',o.op≠.defer c':=fun c' e=>by rw [ho] at e; cases e
  cases hnb:nilOpB z with
  | true =>
   rw [hnb] at h
   exact VOK.op (nilBin_ok (P:=P) (t:=t) hpo.ti hs hnb h) hd (by simp only [execOp,ho])
  | false =>
   rw [hnb] at h
   exact VOK.op (binOp_ok (P:=P) (t:=t) hpo.ti hpo.eqt hs h) hd (by simp only [execOp,ho])
 ·rename_i op t y ho
  have hd:∀ c',o.op≠.defer c':=fun c' e=>by rw [ho] at e; cases e
  exact VOK.op (unOp_ok (P:=P) hs h) hd (by simp only [execOp,ho])
 ·rename_i s t y ho
  have hd:∀ c',o.op≠.defer c':=fun c' e=>by rw [ho] at e; cases e
  obtain ⟨tys,h,htys⟩:=tyK_elim hpo.ti h
  exact VOK.op (convert_ok hpo.ti htys.und hs h) hd (by simp only [execOp,ho])
 ·rename_i fn first caps ho
  have hd:∀ c',o.op≠.defer c':=fun c' e=>by rw [ho] at e; cases e
  exact VOK.op (makeFunc_ok (P:=P) hs h) hd (by simp only [execOp,ho])
 ·rename_i t y lo hi mx ho
  have hd:∀ c',o.op≠.defer c':=fun c' e=>by rw [ho] at e; cases e
  cases mx with
  | some _=>exact h.elim
  | none=>exact VOK.op (slice_ok hpo.ti hs h) hd (by simp only [execOp,ho]; rfl)
 ·rename_i t y f ho
  have hd:∀ c',o.op≠.defer c':=fun c' e=>by rw [ho] at e; cases e
  exact VOK.op (fieldAddr_ok hpo.ti hs h) hd (by simp only [execOp,ho])
 ·rename_i t y f ho
  have hd:∀ c',o.op≠.defer c':=fun c' e=>by rw [ho] at e; cases e
  exact VOK.op (field_ok hpo.ti hs h) hd (by simp only [execOp,ho])
 ·rename_i t y i ho
  have hd:∀ c',o.op≠.defer c':=fun c' e=>by rw [ho] at e; cases e
  exact VOK.op (indexAddr_ok hpo.ti hs h) hd (by simp only [execOp,ho])
 ·rename_i t y i ho
  have hd:∀ c',o.op≠.defer c':=fun c' e=>by rw [ho] at e; cases e
  exact VOK.op (index_ok hpo.ti hpo.ai hs h) hd (by simp only [execOp,ho])
 ·rename_i y i ho
  have hd:∀ c',o.op≠.defer c':=fun c' e=>by rw [ho] at e; cases e
  exact VOK.op (extract_ok (P:=P) hs h) hd (by simp only [execOp,ho])
 ·rename_i c ho
  split at h
  ·rename_i b hb
   exact builtin_ok hpo hs ho hb h
  exact call_ok hpo hs ho h
 ·rename_i t y z ho
  have hd:∀ c',o.op≠.defer c':=fun c' e=>by rw [ho] at e; cases e
  exact VOK.op (makeSlice_ok hpo.ti hs h) hd (by simp only [execOp,ho])
 ·rename_i t r ho
  have hd:∀ c',o.op≠.defer c':=fun c' e=>by rw [ho] at e; cases e
  exact VOK.op (makeMap_ok (P:=P) hs h) hd (by simp only [execOp,ho])
 ·rename_i t y i ok ho
  have hd:∀ c',o.op≠.defer c':=fun c' e=>by rw [ho] at e; cases e
  exact VOK.op (lookup_ok hpo.ti hpo.mi hs h) hd (by simp only [execOp,ho])
 ·rename_i t y i v ho
  have hd:∀ c',o.op≠.defer c':=fun c' e=>by rw [ho] at e; cases e
  obtain ⟨w',h1,hres⟩:=mapUpdate_ok hpo.mi hs h
  exact OpOK.skip hd (by simp only [execOp,ho]; exact run_u h1) hres
 exact h.elim
end Go.Ab
namespace Go.Ab
open Go
variable {S:Sig} [Cod S]
variable {X:Type} {gl:Gl} {En:Env X} {x:X} {w w1 w':World} {V V':Nat→Nat→Prop} {l l0:Loc} {ts:Array Value} {st:St S}
variable {P:Program} {par:Par S X} {a:Act} {K:AV S→St S→X→Prop} {ro:Option Nat} {n:Nat} {o:Oper}
def Env.marks (En:Env X) (Ds:List Nat):Env X where
 fv:=En.fv
 ups:=En.ups
 owns:=En.owns
 fz:=En.fz
 inv x w:=En.inv x w∧Ds.Nodup∧∀ D∈Ds,w.heap[D]?=some (.deferred (some []))∧¬ En.E x D
 E x b:=En.E x b∨b∈Ds
 EM:=En.EM
 lt x w b h hb:=hb.elim (En.lt x w b h.1) fun hb=>lt_of_heap (h.2.2 b hb).1
 emE x b o h:=.inl (En.emE x b o h)
 stable x w w' h hk:=⟨En.stable x w w' h.1 (hk.mono fun _ h=>.inl h),h.2.1,fun D hD=>⟨(hk.block D (.inr hD)).trans (h.2.2 D hD).1,(h.2.2 D hD).2⟩⟩
theorem Env.marks_ext (En:Env X) (Ds:List Nat):Env.Ext gl En (En.marks Ds) where
 fv:=rfl
 inv:=fun _ _ h=>h.1
 e:=fun _ _ h=>.inl h
 em:=fun _ _ _ h=>h
 emN:=fun _ _ _ _ _ _ _ h=>h
 lift:=fun x w U x' w' hinv hU h=>⟨⟨h.inv,hinv.2.1,fun D hD=>by
   obtain ⟨h1,h2⟩:=hinv.2.2 D hD
   have hlt:=lt_of_heap h1
   exact ⟨(h.block D hlt h2 fun hu=>hU D hu (.inr hD)).trans h1,fun hE=>(h.e D hE).elim h2 fun h3=>by omega⟩⟩,
  h.g,h.size,fun b hb hE hu=>h.block b hb (fun h=>hE (.inl h)) hu,h.cell,fun b hb=>hb.elim (fun hb=>(h.e b hb).imp .inl id) fun hb=>.inl (.inr hb),h.em⟩
theorem ParOk.marks (h:ParOk P gl par En) (Ds:List Nat):ParOk P gl par (En.marks Ds):=h.ext (En.marks_ext Ds)
def markOf (D:Nat):Deferred:={ target:=.collected D,args:=#[] }
theorem set_same {ts:Array Value} {d:Nat}:ts.setIfInBounds d (ts.getD d Go.undef)=ts:=by
 apply Array.ext_getElem?
 intro i
 rw [Array.getElem?_setIfInBounds]
 by_cases h:d=i
 ·subst h
  by_cases h2:d < ts.size
  ·simp [h2,Array.getD]
  simp [h2]
 simp [h]
theorem put_tmps (a:Act) (dst:Option Tmp) (v:Value):(a.put dst v).defers=a.defers∧(a.put dst v).tmps=match dst with | some d=>a.tmps.setIfInBounds d v | none=>a.tmps:=by
 cases dst <;> exact ⟨rfl,rfl⟩
variable [LawCod S]
theorem opsW_sound (hpo:ParOk P gl par En) {ops:Array Oper} {Kq:St S→X→Prop} {Q:Exit→Act→World→Prop} {D:List Deferred}
  (hQ:∀ a' w' V' l' st' x',a'.defers=D→Kq st' x'→SR gl En x' w' V' l' a'.tmps st'→Q .normal a' w') :
  ∀ (rest:List Oper) (a:Act) (w:World) (V:Nat→Nat→Prop) (l:Loc) (st:St S) (x:X),a.defers=D→SR gl En x w V l a.tmps st→opsW par ops rest st x Kq→wpListIn (Fo ro) n P ops Q rest a w
 | [],a,w,V,l,st,x,hD,hs,h=>hQ a w V l st x hD h hs
 | o :: rest,a,w,V,l,st,x,hD,hs,h=>by
  have hrun:∀ {st:St S},SR gl En x w V l a.tmps st→Region.wanted o (yielded ops a.tmps)=true→(opW par o st x fun v st' x'=>match o.dst with
   | some d=>opsW par ops rest { st' with tmps:=st'.tmps.set d v } x' Kq
   | none=>opsW par ops rest st' x' Kq)→wpListIn (Fo ro) n P ops Q (o :: rest) a w:=fun {st} hs hw h=>by
   simp only [wpListIn,hw,if_true]
   refine opW_sound hpo hs h _ _ ?_
   rintro v w' ⟨c,st',x',V',l',hK,hs',hr⟩
   cases hd:o.dst with
   | none =>
    rw [hd] at hK
    exact opsW_sound hpo hQ rest _ w' V' l' st' x' hD (by simpa [Act.put] using hs') hK
   | some d =>
    rw [hd] at hK
    exact opsW_sound hpo hQ rest _ w' V' l' _ x' hD (hs'.setTmp d hr) hK
  have hpass:∀ {st:St S},SR gl En x w V l a.tmps st→Region.wanted o (yielded ops a.tmps)=false→(match o.dst with
   | some d=>opsW par ops rest { st with tmps:=st.tmps.set d .skip } x Kq
   | none=>opsW par ops rest st x Kq)→wpListIn (Fo ro) n P ops Q (o :: rest) a w:=fun {st} hs hw h=>by
   simp only [wpListIn,hw,Bool.false_eq_true,if_false]
   refine ⟨fun _ _=>trivial,?_⟩
   cases hd:o.dst with
   | none =>
    rw [hd] at h
    exact opsW_sound hpo hQ rest _ w V l st x hD (by simpa [Act.put] using hs) h
   | some d =>
    rw [hd] at h
    exact opsW_sound hpo hQ rest _ w V l _ x hD (hs.setTmp d (c:=.skip) (Rep.flat1 rfl)) h
  simp only [opsW,setK_eq,forceK_eq] at h
  cases hg:o.guard with
  | none =>
   rw [hg] at h
   exact hrun hs (by simp [Region.wanted,hg]) h
  | some p =>
   obtain ⟨j,want⟩:=p
   rw [hg] at h
   simp only at h
   cases hj:ops[j]? with
   | none=>rw [hj] at h; exact h.elim
   | some oj =>
    rw [hj] at h
    simp only at h
    cases hdj:oj.dst with
    | none=>rw [hdj] at h; exact h.elim
    | some dj =>
     rw [hdj] at h
     simp only [nthK_eq] at h
     have htmp:=hs.tmp dj
     have hwant:Region.wanted o (yielded ops a.tmps)=(yielded ops a.tmps j==some want):=by simp [Region.wanted,hg]
     cases hc:st.tmps.getD dj .undef with
     | bool b =>
      rw [hc] at h htmp
      simp only at h
      have hv:=htmp.bool
      have hy:yielded ops a.tmps j=some b:=by
       have:a.tmps[dj]?=some (.bool b):=by
        by_cases hlt:dj < a.tmps.size
        ·simp only [Array.getD,hlt,dif_pos] at hv
         rw [Array.getElem?_eq_getElem hlt]; exact congrArg some hv
        simp only [Array.getD,hlt,dif_neg,not_false_eq_true] at hv; cases hv
       simp [yielded,hj,hdj,this]
      have hset:∀ b',b=b'→SR gl En x w V l a.tmps { st with tmps:=st.tmps.set dj (.bool b') }:=fun b' hb=>by
       subst hb
       have:=hs.setTmp dj htmp
       rwa [set_same] at this
      cases want with
      | true =>
       cases b with
       | true=>exact hrun (hset true rfl) (by rw [hwant,hy]; rfl) ((bcase_iff.1 h).1 rfl)
       | false=>exact hpass (hset false rfl) (by rw [hwant,hy]; rfl) ((bcase_iff.1 h).2 rfl)
      | false =>
       cases b with
       | true=>exact hpass (hset true rfl) (by rw [hwant,hy]; rfl) ((bcase_iff.1 h).1 rfl)
       | false=>exact hrun (hset false rfl) (by rw [hwant,hy]; rfl) ((bcase_iff.1 h).2 rfl)
     | skip =>
      rw [hc] at h htmp
      have hv:a.tmps.getD dj Go.undef=Go.undef:=htmp.flat' trivial
      have hy:yielded ops a.tmps j=none:=by
       unfold yielded
       simp only [hj,hdj,Option.bind_some]
       by_cases hlt:dj < a.tmps.size
       ·simp only [Array.getD,hlt,dif_pos] at hv
        rw [Array.getElem?_eq_getElem hlt]
        have hv':a.tmps[dj]=Go.undef:=hv
        rw [hv']; rfl
       have h0:a.tmps[dj]?=none:=Array.getElem?_eq_none (Nat.le_of_not_lt hlt)
       rw [h0]
      exact hpass hs (by rw [hwant,hy]; rfl) h
     | _=>rw [hc] at h; exact h.elim
end Go.Ab
