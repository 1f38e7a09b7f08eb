/-
  THE MADE FAMILY: a set, read as ours.
-/
import Derived.Test.YtmchcpmkadhmjaaDoorCards
import Derived.Test.YtmchcpmkadhmjaaDoorTie
import Derived.WalkKit
import Derived.ProofKit
import Derived.OpenShut
import Derived.Deep.DeepHandedRow
import Derived.Lib.LaidTab
import Derived.LaidSub
import Derived.MakeChecks
import Derived.ChangeBears
import Derived.Test.YtmchcpmkadhmjaaDoorLawWholeA
import Derived.Test.YtmchcpmkadhmjaaDoorMadeB
import Derived.Test.YtmchcpmkadhmjaaDoorMadeA
import Derived.Test.YtmchcpmkadhmjaaDoorEngD
namespace Go.Ab.MkF
open Go Go.Ab Go.Ab.Pln
def comS (hs:List Sn) (s:Int×Int×Int) (x:Nat):Int×Int×Int:=(max s.1 (hs.getD x sn0).1,max s.2.1 (hs.getD x sn0).2.1,min s.2.2 (hs.getD x sn0).2.2)
def comU (hs:List Sn) (l:List Nat) (i:Nat):Int×Int×Int:=(l.take i).foldl (comS hs) (0,1,600)
def offB (hs:List Sn) (s:Int×Int×Int) (x:Nat):Bool:=decide ((hs.getD x sn0).1 > 0)&&decide (s.1 > 0)&&((hs.getD x sn0).1 != s.1)
def offU (hs:List Sn) (l:List Nat) (i:Nat):Bool:=(List.range i).any fun k=>offB hs (comU hs l k) (l.getD k 0)
def comV (hs:List Sn) (l:List Nat):Int×Int:=if offU hs l l.length=true then (1,0) else (comU hs l l.length).2
def kinB (a b:Int):Bool:=a==b||a * b==0
def oneB (hs:List Sn) (l:List Nat):Bool:=decide ((comV hs l).1≤(comV hs l).2)
def restL (n:Nat) (told:List Int):List Nat:=(List.range n).filter fun k=>!(told.any fun x=>x==(k:Int))
def tolK (e:Int) (n:Nat) (told:List Int) (i:Nat):Int:=if e≠0 then e else if (told.take i).any (outB 0 ((n:Int) - 1)) then 4 else 0
def ascK (e:Int) (told:List Int) (i:Nat):Int:=if e≠0 then e else if ((List.range i).all fun j=>!ascB told j) then 0 else 2
abbrev tolE (hs:List Sn) (told:List Int):Int:=tolK (chHE hs) hs.length told told.length
structure Told (hs:List Sn) (told:List Int) (l:List Nat):Prop where
 V:ValidH hs
 eq:told=natsV l
 lt:∀ x∈l,x < hs.length
 asc:l.Pairwise (· < ·)
theorem Told.nodup {hs:List Sn} {told:List Int} {l:List Nat} (h:Told hs told l):l.Nodup:=h.asc.imp fun hab=>by omega
theorem any_nats (l:List Nat) (k:Nat):((natsV l).any fun x=>x==(k:Int))=l.contains k:=by
 rw [Bool.eq_iff_iff,List.any_eq_true,List.contains_iff_mem]
 constructor
 ·rintro ⟨x,hx,he⟩
  obtain ⟨a,ha,rfl⟩:=List.mem_map.1 hx
  have:a=k:=by have:=eq_of_beq he; omega
  exact this ▸ ha
 exact fun h=>⟨(k:Int),List.mem_map.2 ⟨k,h,rfl⟩,by simp⟩
theorem Told.rest {hs:List Sn} {told:List Int} {l:List Nat} (h:Told hs told l):restL hs.length told=bitsL (restN hs told):=by
 have h8:=h.V.n8
 rw [bitsL_below (c:=hs.length) (by omega) (restN_lt hs told)]
 unfold restL
 apply List.filter_congr
 intro k hk
 rw [h.eq,any_nats]
 unfold restN
 rw [List.length_map,restU_test _ _ _ _ (Nat.le_refl _),List.take_length,decide_eq_true (List.mem_range.1 hk),Bool.true_and]
theorem Told.len {hs:List Sn} {told:List Int} {l:List Nat} (h:Told hs told l):told.length≤hs.length:=by
 rw [h.eq,List.length_map]
 have:=List.Nodup.length_le_of_subset (l₂:=List.range hs.length) h.nodup fun x hx=>List.mem_range.2 (h.lt x hx)
 simpa using this
theorem Told.all {hs:List Sn} {told:List Int} {l:List Nat} (h:Told hs told l):told.length=hs.length↔restL hs.length told=[]:=by
 have hll:told.length=l.length:=by rw [h.eq,List.length_map]
 constructor
 ·intro he
  unfold restL
  rw [List.filter_eq_nil_iff]
  intro k hk hn
  rw [h.eq,any_nats] at hn
  have hk:=List.mem_range.1 hk
  have hnk:k ∉ l:=fun hm=>by rw [List.contains_iff_mem.2 hm] at hn; cases hn
  have:=List.Nodup.length_le_of_subset (l₁:=k :: l) (l₂:=List.range hs.length) (List.nodup_cons.2 ⟨hnk,h.nodup⟩) fun x hx=>by
   rcases List.mem_cons.1 hx with rfl | hx
   ·exact List.mem_range.2 hk
   exact List.mem_range.2 (h.lt x hx)
  simp at this
  omega
 intro he
 have hle:=h.len
 have:=List.Nodup.length_le_of_subset (l₁:=List.range hs.length) (l₂:=l) List.nodup_range fun x hx=>by
  unfold restL at he
  rw [List.filter_eq_nil_iff] at he
  have:=he x hx
  rw [h.eq,any_nats] at this
  simpa using this
 simp at this
 omega
def fewL (hs:List Sn) (m:Nat):List (List Nat):=(listsL 0 hs.length m).filter fun l=>accB hs (bitsO l)
abbrev fewR (hs:List Sn):List (List Nat):=fewL hs (leastH hs)
def mustL (hs:List Sn) (i:Nat):List Nat:=(List.range i).filter fun k=>(fewR hs).all fun l=>l.contains k
def mayL (hs:List Sn) (i:Nat):List Nat:=(List.range i).filter fun k=>(fewR hs).any fun l=>l.contains k
def refS (hs:List Sn) (most:Nat):Nat→Nat→List Int→Option (List Int)
 | 0,_,L=>some L
 | k+1,t,L=>(List.range (min most (t+1))).findSome? fun j=>if okJ hs L j then refS hs most k (max t (j+1)) (L++[(j:Int)]) else none
def manyN (L:List Int) (i:Nat):Nat:=((List.range i).filter fun k=>!((L.take k).any fun x=>x==L.getD k 0)).length
theorem manyN_succ (L:List Int) (i:Nat):manyN L (i+1)=manyN L i+if ((L.take i).any fun x=>x==L.getD i 0)=true then 0 else 1:=by
 unfold manyN
 rw [List.range_succ,List.filter_append,List.length_append,List.filter_cons,List.filter_nil]
 cases (L.take i).any fun x=>x==L.getD i 0 <;> rfl
theorem manyN_app (L:List Int) (x:Int):∀ i,i≤L.length→manyN (L++[x]) i=manyN L i
 | 0,_=>rfl
 | i+1,h=>by
  rw [manyN_succ,manyN_succ,manyN_app L x i (by omega),List.take_append_of_le_length (by omega),getD_app_lt (by omega)]
structure Rg (hs:List Sn) (t:Nat) (L:List Int):Prop where
 val:∀ a,a < L.length→∃ j:Nat,j < t∧L.getD a 0=(j:Int)
 onto:∀ j,j < t→∃ a,a < L.length∧L.getD a 0=(j:Int)
 can:∀ a b,a < b→b < L.length→L.getD a 0=L.getD b 0→pairH hs a b=true
 many:manyN L L.length=t
 le:t≤L.length
theorem Rg.nil (hs:List Sn):Rg hs 0 []:=⟨fun _ h=>absurd h (Nat.not_lt_zero _),fun _ h=>absurd h (Nat.not_lt_zero _),fun _ _ _ h=>absurd h (Nat.not_lt_zero _),rfl,Nat.le_refl _⟩
theorem Rg.add {hs:List Sn} {t:Nat} {L:List Int} (h:Rg hs t L) {j:Nat} (hj:j≤t) (ho:okJ hs L j=true):Rg hs (max t (j+1)) (L++[(j:Int)]):=by
 have hlen:(L++[(j:Int)]).length=L.length+1:=by simp
 refine ⟨fun a ha=>?_,fun q hq=>?_,fun a b hab hb he=>?_,?_,by rw [hlen]; have:=h.le; omega⟩
 ·rw [hlen] at ha
  rcases getD_app (x:=(j:Int)) (d:=0) ha with ⟨h1,h2⟩ | ⟨_,h2⟩
  ·obtain ⟨q,hq,h3⟩:=h.val a h1
   exact ⟨q,by omega,by rw [h2,h3]⟩
  exact ⟨j,by omega,h2⟩
 ·rw [hlen]
  rcases Nat.lt_or_ge q t with h1 | h1
  ·obtain ⟨a,ha,h2⟩:=h.onto q h1
   exact ⟨a,by omega,by rw [getD_app_lt ha,h2]⟩
  exact ⟨L.length,by omega,by rw [getD_app_at]; omega⟩
 ·rw [hlen] at hb
  rw [getD_app_lt (by omega)] at he
  rcases getD_app (x:=(j:Int)) (d:=0) hb with ⟨h3,h4⟩ | ⟨h3,h4⟩
  ·exact h.can a b hab h3 (by rw [←h4]; exact he)
  subst h3
  exact Lk.okJ.1 ho a hab (by rw [he,h4])
 rw [hlen,manyN_succ,manyN_app L _ _ (Nat.le_refl _),h.many,getD_app_at,List.take_append_of_le_length (Nat.le_refl _),List.take_length]
 have hany:(L.any fun x=>x==(j:Int))=decide (j < t):=by
  rw [Bool.eq_iff_iff,List.any_eq_true,decide_eq_true_eq]
  constructor
  ·rintro ⟨x,hx,he⟩
   obtain ⟨a,ha,rfl⟩:=List.getElem_of_mem hx
   obtain ⟨q,hq,h3⟩:=h.val a ha
   rw [getD_at ha] at h3
   have:=eq_of_beq he
   omega
  intro hlt
  obtain ⟨a,ha,h3⟩:=h.onto j hlt
  rw [getD_at ha] at h3
  exact ⟨_,List.getElem_mem ha,by rw [h3]; simp⟩
 rw [hany]
 by_cases hlt:j < t
 ·rw [if_pos (decide_eq_true hlt)]; omega
 rw [if_neg (by simpa using hlt)]; omega
def clsL (L:List Int) (n i:Nat):List Nat:=(List.range i).filter fun k=>L.getD k 0==(n:Int)
def splB (hs:List Sn) (L:List Int) (i:Nat):Bool:=(List.range i).all fun n=>oneB hs (clsL L n L.length)
open Go Go.Ab Go.Ab.Pln Go.Proofs
set_option maxHeartbeats 1000000
set_option maxRecDepth 100000
structure SetL (n X:Nat) (L:List Int):Prop where
 lt:X < 2 ^ n
 n8:n≤8
 eq:L=natsV (bitsL X)
theorem SetL.len {n X:Nat} {L:List Int} (h:SetL n X L):L.length=(bitsL X).length:=by rw [h.eq,List.length_map]
theorem SetL.get {n X i:Nat} {L:List Int} (h:SetL n X L) (hi:i < L.length):∃ k:Nat,getI L (i:Int)=some (k:Int)∧X.testBit k=true∧k < n:=by
 obtain ⟨h1,h2,rfl⟩:=h
 rw [List.length_map] at hi
 have hm:=List.getElem_mem hi
 exact ⟨(bitsL X)[i],getI_nats hi,(bitsL_mem (by omega) h1).1 hm,bits_range (by omega) h1 hm⟩
theorem SetL.has {n X:Nat} {L:List Int} (h:SetL n X L) (k:Nat):(L.any fun x=>x==(k:Int))=X.testBit k:=by rw [h.eq]; exact has_bits (c:=n) (by have:=h.n8; omega) h.lt

noncomputable abbrev parX (gl:Gl):Par S Unit:={ par gl with hd:=true,nx:=true }
theorem parX_ok (gl:Gl) (En:Env Unit):ParOk PR gl (parX gl) En:={ par_ok gl En with }
def optV:Option (List Int)→AV S
 | none=>.nil0
 | some l=>vL l
def stepR (hs:List Sn) (most k t:Nat) (L:List Int) (j:Nat):Option (List Int):=if okJ hs L j then refS hs most k (max t (j+1)) (L++[(j:Int)]) else none
def bV:Option Tb→AV S
 | none=>.nil0
 | some B=>intsV B
def bstU (ls:List Lf) (cs:List Cp) (i:Nat):Option Tb:=((kinL cs.length []).take i).foldl (rndT ls cs) none
def bstN (ls:List Lf) (cs:List Cp) (L:List Tb) (o:Option Tb) (n:Nat):Option Tb:=(L.take n).foldl (stpT ls cs) o
theorem fold_take {α β:Type} (f:β→α→β) (b:β) {l:List α} {i:Nat} (h:i < l.length):(l.take (i+1)).foldl f b=f ((l.take i).foldl f b) l[i]:=by
 rw [take_succ' h,List.foldl_append]; rfl
theorem bstU_succ {ls:List Lf} {cs:List Cp} {i:Nat} (h:i < (kinL cs.length []).length):bstU ls cs (i+1)=rndT ls cs (bstU ls cs i) (kinL cs.length [])[i]:=fold_take _ _ h
theorem bstN_succ {ls:List Lf} {cs:List Cp} {L:List Tb} {o:Option Tb} {n:Nat} (h:n < L.length):bstN ls cs L o (n+1)=stpT ls cs (bstN ls cs L o n) L[n]:=fold_take _ _ h
theorem stp_none {ls:List Lf} {cs:List Cp} {Q:Tb}:stpT ls cs none Q=some Q:=by unfold stpT; rw [show (none:Option Tb).getD Q=Q from rfl,ite_self]
theorem stp_yes {ls:List Lf} {cs:List Cp} {Q B:Tb} (h:betT ls cs Q B=true):stpT ls cs (some B) Q=some Q:=by unfold stpT; rw [show (some B).getD Q=B from rfl,if_pos h]
theorem stp_no {ls:List Lf} {cs:List Cp} {Q B:Tb} (h:betT ls cs Q B=false):stpT ls cs (some B) Q=some B:=by unfold stpT; rw [show (some B).getD Q=B from rfl,if_neg (by rw [h]; simp)]
theorem RectT.m9 {m n:Nat} {A:Tb} (h:RectT m n A) (hm:m≤4):A.length≤1000:=by rw [h.len]; omega
theorem RectT.r9 {m n:Nat} {A:Tb} (h:RectT m n A) (hn:n≤6) (c:Nat):(A.getD c []).length≤1000:=by
 by_cases g:c < m
 ·rw [h.row c g]; omega
 rw [List.getD_eq_getElem?_getD,List.getElem?_eq_none (by rw [h.len]; omega)]; exact Nat.zero_le _
theorem RectT.le9 {m n:Nat} {A B:Tb} (h:RectT m n A) (k:RectT m n B):A.length≤B.length:=by rw [h.len,k.len]; exact Nat.le_refl _
theorem RectT.all9 {m n:Nat} {A:Tb} (h:RectT m n A) (hn:n≤6):∀ r∈A,r.length≤1000:=fun r hr=>by rw [h.rows r hr]; omega
theorem refP_rect {n:Nat} {cs:List Cp} {K:List Int}:∀ (f c l:Nat) {P:Tb},RectT cs.length n P→∀ Q∈refP n cs K f c l P,RectT cs.length n Q
 | 0,c,l,P,_,Q,h=>by cases h
 | f+1,c,l,P,hP,Q,h=>by
  unfold refP at h
  split at h
  ·rw [List.mem_singleton] at h; rw [h]; exact keptU_ok hP _
  split at h
  ·exact refP_rect f _ _ hP Q h
  split at h
  ·exact refP_rect f _ _ hP Q h
  split at h
  ·exact refP_rect f _ _ (hP.set2 _ _ _) Q h
  rw [donP_flat,List.mem_flatMap] at h
  obtain ⟨d,_,h⟩:=h
  split at h
  ·exact refP_rect f _ _ (hP.set2 _ _ _) Q h
  cases h
theorem blk_rect (ls:List Lf) (cs:List Cp):RectT cs.length ls.length (blkT ls cs):=⟨List.length_replicate ..,fun c hc=>by
 unfold blkT
 rw [getD_at (by rw [List.length_replicate]; exact hc),List.getElem_replicate,List.length_replicate]⟩
theorem bstN_rect {ls:List Lf} {cs:List Cp} {L:List Tb} {o:Option Tb} (hL:∀ Q∈L,RectT cs.length ls.length Q) (ho:∀ B,o=some B→RectT cs.length ls.length B):∀ n B,bstN ls cs L o n=some B→RectT cs.length ls.length B:=fun n B h=>by
 have key:∀ (l:List Tb) (o:Option Tb),(∀ Q∈l,RectT cs.length ls.length Q)→(∀ B,o=some B→RectT cs.length ls.length B)→∀ B,l.foldl (stpT ls cs) o=some B→RectT cs.length ls.length B:=fun l=>by
  induction l with
  | nil=>intro o _ h2 B h; exact h2 B h
  | cons a l ih =>
   intro o h1 h2 B h
   refine ih (stpT ls cs o a) (fun Q hQ=>h1 Q (List.mem_cons_of_mem _ hQ)) (fun C hC=>?_) B h
   unfold stpT at hC
   cases hC
   have ha:=h1 a List.mem_cons_self
   split
   ·exact ha
   cases o with
   | none=>exact ha
   | some D=>exact h2 D rfl
 exact key _ _ (fun Q hQ=>hL Q (List.mem_of_mem_take hQ)) ho B h
theorem bstU_rect {ls:List Lf} {cs:List Cp}:∀ i B,bstU ls cs i=some B→RectT cs.length ls.length B
 | 0,B,h=>by cases h
 | i+1,B,h=>by
  by_cases hi:i < (kinL cs.length []).length
  ·rw [bstU_succ hi] at h
   unfold rndT at h
   split at h
   ·have:=bstN_rect (ls:=ls) (cs:=cs) (L:=lstT ls cs (kinL cs.length [])[i]) (o:=bstU ls cs i) (fun Q hQ=>refP_rect _ _ _ (blk_rect ls cs) Q hQ) (fun B hB=>bstU_rect i B hB) (lstT ls cs (kinL cs.length [])[i]).length B
    unfold bstN at this
    rw [List.take_length] at this
    exact this h
   exact bstU_rect i B h
  have e:bstU ls cs (i+1)=bstU ls cs i:=by unfold bstU; rw [List.take_of_length_le (by omega),List.take_of_length_le (by omega)]
  rw [e] at h; exact bstU_rect i B h
theorem kin_row {k i:Nat} (h:i < (kinL k []).length):(kinL k [])[i].length=k:=by
 obtain ⟨T,h1,h2,_⟩:=kinL_mem.1 (List.getElem_mem h)
 rw [h1,List.nil_append]; exact h2
theorem lens_val9 {p:Int} {ls:List Lf} {cs:List Cp} (h:Valid p ls cs):LensS ls cs:=by
 have h4:=h.m4
 have h6:=h.n6
 refine ⟨⟨by omega,by omega⟩,fun x hx=>?_⟩
 obtain ⟨i,hi,rfl⟩:=List.getElem_of_mem hx
 rw [(h.cp hi).2.1]; omega
theorem c29 (gl:Gl) (p:Int) (ls:List Lf) (cs:List Cp) (hL:LensS ls cs) (hN:LensN ls cs):PCalls PR gl 29 [.agg [vI p,lfsV ls,cpsV cs]] fun r=>r=.tup [intsV (whoV p ls cs).1,vI (whoV p ls cs).2.1,vI (whoV p ls cs).2.2.1,vI (whoV p ls cs).2.2.2.1,vI (whoV p ls cs).2.2.2.2]:=by
 refine fnW_sound (parX_ok gl) Tryd.func29 ?_;conv=>whnf
 refine ⟨?_⟩;conv=>whnf
 refine ⟨false,?_⟩;conv=>whnf
 refine ⟨?_⟩;conv=>whnf
 refine byC (c17 gl p ls cs hL hN) op17 ?_;conv=>whnf
 refine ⟨?_⟩;conv=>whnf
 apply bc9<;>intro h2
 ·have hk:chE p ls cs≠0:=by have h:(chE p ls cs != 0)=true:=h2; simpa using h
  conv=>whnf
  refine ⟨?_⟩;conv=>whnf
  refine ⟨false,?_⟩;conv=>whnf
  unfold whoV
  rw [if_neg hk]
 have hk:chE p ls cs=0:=by have h:(chE p ls cs != 0)=false:=h2; simpa using h
 have hV:=chk_valid.1 hk
 have hm4:=hV.m4
 have hn6:=hV.n6
 obtain ⟨A,a,b,c0,hW,hM⟩:=more_plain hV
 have hbest:bestT ls cs=some A:=by rw [ref_best hV,hW]
 have hkl:=kinL_len cs.length []
 have h81:=pow3 hm4
 have hAl:=hM.right.1
 have h48:=c48 gl p ls cs hV A hM.right
 have hc2:(aftL ls cs A).length=cs.length:=aft_len
 have h47:=c47 gl p ls (aftL ls cs A) (lens_val9 (aft_valid hV)) (by omega)
 rw [hM.wh] at h47
 have hAR:RectT cs.length ls.length A:=⟨hM.right.1,fun c hc=>(hM.right.2 c hc).1⟩
 have h49:=c49 gl A (hAR.m9 hm4) (hAR.r9 hn6)
 rw [hM.mv] at h49
 have h50:=c50 gl p ls cs hV A hAR
 rw [hM.ct] at h50
 conv=>whnf
 refine ⟨?_⟩;conv=>whnf
 refine ⟨true,?_⟩;conv=>whnf
 refine ⟨?_⟩;conv=>whnf
 refine byC (c93 gl cs.length hm4 cs.length [] (Nat.zero_add _)) op93 ?_;conv=>whnf
 refine ⟨?_⟩;conv=>whnf
 refine loop_q fun Q1 hQ1=>?_
 refine ⟨⟨7170,[2],[2]⟩,?_⟩
 refine LoopW_ind _ (fun i:Nat=>(({ tmps:=[J,.own 1 [],J,J,J,J,J,J,J,J,bV (bstU ls cs i),intsV (kinL cs.length []),vI i,J,J,J,J,J,J,J,J,J,J,J,J,J,J,J,J,J,J,J,J,J,J,J,J,J,J,J,J,J,J,J,J,J,J,J,J,J,J,J,J,J,J,J,J,J,J,J,J,J,J,J,J,J,J,J,J,J,J,J,J,J,J,J,J,J,J,J,J,J,J,J,J,J,J,J,J,J,J,J,J,J,J,J,J,J,J,J,J,J,J,J,J,J,J,J,J,J,J,J,J,J,J,J,J,J,J,J,J,J,J,J,J,J,J,J],seg:=[(1,.cells [vI p,lfsV ls,cpsV cs])],up:=[] }:St S))) (fun i:Nat=>(i≤(kinL cs.length []).length)) (fun i:Nat=>((kinL cs.length []).length - i)) () ?_ 0 (Nat.zero_le _)
 intro i hi Z1 hZ1
 conv=>whnf
 refine ⟨?_⟩;conv=>whnf
 apply bc9<;>intro h7
 ·have hil:i < (kinL cs.length []).length:=by have:=of_decide_eq_true h7; omega
  have hwi:=wrap_nat (n:=i) (by omega)
  obtain ⟨K,hK⟩:∃ K,K=(kinL cs.length [])[i]:=⟨_,rfl⟩
  have hgK:getI (kinL cs.length []) (i:Int)=some K:=by rw [getI_nat hil,hK]
  have hKl:K.length=cs.length:=by rw [hK]; exact kin_row hil
  conv=>whnf
  refine ⟨?_⟩;conv=>whnf
  rcases hbo:bstU ls cs i with _ | B0
  ·conv => whnf
   refine ⟨?_⟩;conv=>whnf
   refine ⟨⟨31746,[],[]⟩,?_⟩
   refine LoopW_ind _ (fun k:Nat=>(({ tmps:=[J,.own 1 [],J,J,J,J,J,J,J,J,bV (none:Option Tb),intsV (kinL cs.length []),vI i,vB (enF ls cs K k),vI (k+1:Nat),J,J,J,J,J,J,J,J,J,J,J,J,J,J,J,J,J,J,J,J,J,J,J,J,J,J,J,J,J,J,J,J,J,J,J,J,J,J,J,J,J,J,J,J,J,J,J,J,J,J,J,J,J,J,J,J,J,J,J,J,J,J,J,J,J,J,J,J,J,J,J,J,J,J,J,J,J,J,J,J,J,J,J,J,J,J,J,J,J,J,J,J,J,J,J,J,J,J,J,J,J,J,J,J,J,J,J,J,J,J,J,J,J],seg:=[(1,.cells [vI p,lfsV ls,cpsV cs])],up:=[] }:St S))) (fun k:Nat=>(k≤2)) (fun k:Nat=>(2 - k)) () ?_ 0 (Nat.zero_le _)
   intro k hk2 Z2 hZ2
   conv=>whnf
   refine ⟨?_⟩;conv=>whnf
   apply bc9<;>intro h11
   ·have hkl2:k < 2:=by have:=of_decide_eq_true h11; omega
    have hwk:IntKind.i64.wrap (((k+1:Nat):Int)+1)=((k+1+1:Nat):Int):=wrap_nat (by omega)
    have hsl:scaU cs ((k+1:Nat):Int) ls.length < ls.length:=by have:=scaU_lt cs ((k+1:Nat):Int) (ls.length - 1); rw [show ls.length - 1+1=ls.length by have:=hV.n1; omega] at this; have:=hV.n1; omega
    conv=>whnf
    refine ⟨[0,1,2,3,4,5,6,8,9,10,12,7,11,13,14,15,16],[],[],[],⟨340282366920938463463374607431768211455,[],[]⟩,by decide +kernel,?_⟩;conv=>whnf
    apply bc9<;>intro g13_1
    ·have g13:enF ls cs K k=true:=g13_1
     conv=>whnf
     refine ⟨_,hgK,?_⟩;conv=>whnf
     refine byC (c94 gl K (by omega) ((k+1:Nat):Int)) op94 ?_;conv=>whnf
     refine byC (c82 gl p ls cs hV ((k+1:Nat):Int)) op82 ?_;conv=>whnf
     refine byC (c83 gl p ls cs hV _ hsl ((k+1:Nat):Int)) op83 ?_;conv=>whnf
     refine ⟨?_⟩;conv=>whnf
     refine ⟨⟨31746,[],[]⟩,?_⟩;conv=>whnf
     rw [hwk]
     have hz:=hZ2 (k+1) hkl2 (by omega)
     rw [show enF ls cs K (k+1)=(((cntI K ((k+1:Nat):Int):Nat):Int)==((hvA cs (scaU cs ((k+1:Nat):Int) ls.length) ((k+1:Nat):Int):Nat):Int)) from by show (enF ls cs K k&&_)=_; rw [g13,Bool.true_and]] at hz
     exact hz
    have g13:enF ls cs K k=false:=g13_1
    conv=>whnf
    refine ⟨?_⟩;conv=>whnf
    refine ⟨⟨31746,[],[]⟩,?_⟩;conv=>whnf
    rw [hwk]
    have hz:=hZ2 (k+1) hkl2 (by omega)
    rw [show enF ls cs K (k+1)=false from by show (enF ls cs K k&&_)=_; rw [g13,Bool.false_and]] at hz
    exact hz
   have hkg:k=2:=by have:=of_decide_eq_false h11; omega
   subst hkg
   conv=>whnf
   refine ⟨?_⟩;conv=>whnf
   apply bc9<;>intro h14
   ·have h14f:enF ls cs K 2=false:=by have h:(!enF ls cs K 2)=true:=h14; simpa using h
    have hrd:bstU ls cs (i+1)=(none:Option Tb):=by rw [bstU_succ hil,←hK]; unfold rndT; rw [h14f,hbo]; rfl
    conv=>whnf
    refine ⟨?_⟩;conv=>whnf
    refine ⟨⟨7170,[91,97],[]⟩,?_⟩;conv=>whnf
    rw [hwi]
    have hz:=hZ1 (i+1) hil (by omega)
    rw [hrd] at hz
    exact hz
   have h14t:enF ls cs K 2=true:=by have h:(!enF ls cs K 2)=false:=h14; simpa using h
   have hrd:bstU ls cs (i+1)=bstN ls cs (lstT ls cs K) (none:Option Tb) (List.length (lstT ls cs K)):=by rw [bstU_succ hil,←hK]; unfold rndT bstN; rw [if_pos h14t,List.take_length,hbo]
   have h95:=c95 gl p ls cs hV K hKl 36 0 0 (blkT ls cs) (Nat.zero_le _) (Nat.zero_le _) (blk_rect ls cs) (by have:=Nat.mul_le_mul hm4 (show ls.length+1≤7 by omega); rw [Nat.sub_zero,Nat.sub_zero]; omega)
   have hrL:∀ Q∈(lstT ls cs K),RectT cs.length ls.length Q:=fun Q hQ=>refP_rect _ _ _ (blk_rect ls cs) Q hQ
   have hlL:List.length (lstT ls cs K)≤282429536481:=Nat.le_trans (refP_len hV.n1 hm4 36 0 0 _ (Nat.zero_le _) (Nat.zero_le _)) (Nat.le_trans (Nat.pow_le_pow_right (by decide) (show (cs.length - 0) * ls.length - 0≤24 from by have:=Nat.mul_le_mul hm4 hn6; rw [Nat.sub_zero,Nat.sub_zero]; omega)) (by decide))
   conv=>whnf
   refine ⟨[0,1,2,3,4,5,6,7,8],[],[],[],⟨340282366920938463463374607431768211455,[],[]⟩,by decide +kernel,?_⟩;conv=>whnf
   refine ⟨_,hgK,?_⟩;conv=>whnf
   refine byC (c96 gl p ls cs hV) op96 ?_;conv=>whnf
   refine byC h95 op95 ?_;conv=>whnf
   refine ⟨?_⟩;conv=>whnf
   refine ⟨⟨105474,[],[]⟩,?_⟩
   refine LoopW_ind _ (fun n:Nat=>(({ tmps:=[J,.own 1 [],J,J,J,J,J,J,J,J,bV (bstN ls cs (lstT ls cs K) (none:Option Tb) n),intsV (kinL cs.length []),vI i,J,J,.sl (S:=S) U.intss (lstT ls cs K) none,vI n,J,J,J,J,J,J,J,J,J,J,J,J,J,J,J,J,J,J,J,J,J,J,J,J,J,J,J,J,J,J,J,J,J,J,J,J,J,J,J,J,J,J,J,J,J,J,J,J,J,J,J,J,J,J,J,J,J,J,J,J,J,J,J,J,J,J,J,J,J,J,J,J,J,J,J,J,J,J,J,J,J,J,J,J,J,J,J,J,J,J,J,J,J,J,J,J,J,J,J,J,J,J,J,J,J,J,J,J,J,J,J],seg:=[(1,.cells [vI p,lfsV ls,cpsV cs])],up:=[] }:St S))) (fun n:Nat=>(n≤List.length (lstT ls cs K))) (fun n:Nat=>(List.length (lstT ls cs K) - n)) () ?_ 0 (Nat.zero_le _)
   intro n hn Z3 hZ3
   conv=>whnf
   refine ⟨?_⟩;conv=>whnf
   rcases hb:(bstN ls cs (lstT ls cs K) (none:Option Tb) n) with _ | B
   ·conv=>whnf
    apply bc9<;>intro h17
    ·have hnl:n < List.length (lstT ls cs K):=by have:=of_decide_eq_true h17; omega
     have hwn:=wrap_nat (n:=n) (by omega)
     have hst:=bstN_succ (ls:=ls) (cs:=cs) (o:=(none:Option Tb)) hnl
     obtain ⟨Q,hQ⟩:∃ Q,Q=(lstT ls cs K)[n]'hnl:=⟨_,rfl⟩
     have hgQ:getI (lstT ls cs K) (n:Int)=some Q:=by rw [getI_nat hnl,hQ]
     rw [show (lstT ls cs K)[n]=Q from hQ.symm] at hst
     have hRQ:RectT cs.length ls.length Q:=by rw [hQ]; exact hrL _ (List.getElem_mem hnl)
     conv=>whnf
     refine ⟨?_⟩;conv=>whnf
     refine ⟨?_⟩;conv=>whnf
     refine ⟨_,hgQ,?_⟩;conv=>whnf
     refine ⟨[0,1,2,3,5,6,7,8,9,12,14,15,4,10,13,16,11,18,17,19],[11,17],[],[],⟨340282366920938463463374607431768211455,[],[]⟩,by decide +kernel,?_⟩;conv=>whnf
     refine ⟨_,hgQ,?_⟩;conv=>whnf
     refine ⟨_,hgQ,?_⟩;conv=>whnf
     refine byC (c49 gl _ (hRQ.m9 hm4) (hRQ.r9 hn6)) op49 ?_;conv=>whnf
     refine byC (c50 gl p ls cs hV _ hRQ) op50 ?_;conv=>whnf
     refine byC (c49 gl _ (RectT.m9 (by assumption) hm4) (RectT.r9 (by assumption) hn6)) op49 ?_;conv=>whnf
     refine byC (c50 gl p ls cs hV _ (by assumption)) op50 ?_;conv=>whnf
     refine ⟨_,rfl,?_⟩;conv=>whnf
     refine ⟨_,rfl,?_⟩;conv=>whnf
     refine ⟨_,rfl,?_⟩;conv=>whnf
     refine ⟨_,rfl,?_⟩;conv=>whnf
     refine ⟨?_⟩;conv=>whnf
     refine byC (c97 gl _ _ (by show 2≤9223372036854775807; decide)) op97 ?_;conv=>whnf
     apply bc9<;>intro g22_3
     ·conv=>whnf
      refine ⟨?_⟩;conv=>whnf
      refine ⟨_,hgQ,?_⟩;conv=>whnf
      refine ⟨?_⟩;conv=>whnf
      refine ⟨⟨105474,[91,97],[]⟩,?_⟩;conv=>whnf
      rw [hwn]
      have hz:=hZ3 (n+1) hnl (by omega)
      rw [hst,hb,stp_none] at hz
      exact hz
     conv=>whnf
     refine byC (c20 gl _ _ (by show 2≤9223372036854775807; decide)) op20 ?_;conv=>whnf
     apply bc9<;>intro g22_7
     ·conv=>whnf
      refine ⟨_,hgQ,?_⟩;conv=>whnf
      refine byC (c98 gl _ _ (hRQ.m9 hm4) (hRQ.le9 (by assumption)) (hRQ.all9 hn6)) op98 ?_;conv=>whnf
      apply bc9<;>intro h22
      ·conv=>whnf
       refine ⟨?_⟩;conv=>whnf
       refine ⟨_,hgQ,?_⟩;conv=>whnf
       refine ⟨?_⟩;conv=>whnf
       refine ⟨⟨105474,[91,97],[]⟩,?_⟩;conv=>whnf
       rw [hwn]
       have hz:=hZ3 (n+1) hnl (by omega)
       rw [hst,hb,stp_none] at hz
       exact hz
      conv=>whnf
      refine ⟨?_⟩;conv=>whnf
      refine ⟨⟨105474,[91,97],[]⟩,?_⟩;conv=>whnf
      rw [hwn]
      have hz:=hZ3 (n+1) hnl (by omega)
      rw [hst,hb,stp_none] at hz
      exact hz
     conv=>whnf
     refine ⟨?_⟩;conv=>whnf
     refine ⟨⟨105474,[91,97],[]⟩,?_⟩;conv=>whnf
     rw [hwn]
     have hz:=hZ3 (n+1) hnl (by omega)
     rw [hst,hb,stp_none] at hz
     exact hz
    have hgn:n=List.length (lstT ls cs K):=by have:=of_decide_eq_false h17; omega
    conv=>whnf
    refine ⟨?_⟩;conv=>whnf
    refine ⟨⟨7170,[91,97],[]⟩,?_⟩;conv=>whnf
    rw [hwi]
    have hz:=hZ1 (i+1) hil (by omega)
    rw [hrd,←hgn,hb] at hz
    exact hz
   have hRB:RectT cs.length ls.length B:=bstN_rect hrL (fun B hB=>bstU_rect i B (by rw [hbo]; exact hB)) n B hb
   have hBne:B≠[]:=fun e=>by have h:=hRB.len; rw [e] at h; have:=hV.m1; simp at h; omega
   conv=>whnf
   apply bc9<;>intro h17
   ·have hnl:n < List.length (lstT ls cs K):=by have:=of_decide_eq_true h17; omega
    have hwn:=wrap_nat (n:=n) (by omega)
    have hst:=bstN_succ (ls:=ls) (cs:=cs) (o:=(none:Option Tb)) hnl
    obtain ⟨Q,hQ⟩:∃ Q,Q=(lstT ls cs K)[n]'hnl:=⟨_,rfl⟩
    have hgQ:getI (lstT ls cs K) (n:Int)=some Q:=by rw [getI_nat hnl,hQ]
    rw [show (lstT ls cs K)[n]=Q from hQ.symm] at hst
    have hRQ:RectT cs.length ls.length Q:=by rw [hQ]; exact hrL _ (List.getElem_mem hnl)
    conv=>whnf
    refine ⟨?_⟩;conv=>whnf
    refine ⟨hBne,?_⟩;conv=>whnf
    refine ⟨[0,1,2,3,5,6,7,8,9,12,14,15,4,10,13,16,11,18,17,19],[11,17],[],[],⟨340282366920938463463374607431768211455,[],[]⟩,by decide +kernel,?_⟩;conv=>whnf
    refine ⟨_,hgQ,?_⟩;conv=>whnf
    refine ⟨_,hgQ,?_⟩;conv=>whnf
    refine byC (c49 gl _ (hRQ.m9 hm4) (hRQ.r9 hn6)) op49 ?_;conv=>whnf
    refine byC (c50 gl p ls cs hV _ hRQ) op50 ?_;conv=>whnf
    refine byC (c49 gl _ (RectT.m9 (by assumption) hm4) (RectT.r9 (by assumption) hn6)) op49 ?_;conv=>whnf
    refine byC (c50 gl p ls cs hV _ (by assumption)) op50 ?_;conv=>whnf
    refine ⟨_,rfl,?_⟩;conv=>whnf
    refine ⟨_,rfl,?_⟩;conv=>whnf
    refine ⟨_,rfl,?_⟩;conv=>whnf
    refine ⟨_,rfl,?_⟩;conv=>whnf
    refine ⟨?_⟩;conv=>whnf
    refine byC (c97 gl _ _ (by show 2≤9223372036854775807; decide)) op97 ?_;conv=>whnf
    apply bc9<;>intro g22_3
    ·have hv:=stp_yes (ls:=ls) (cs:=cs) (Q:=Q) (B:=B) (by unfold betT; rw [show befL _ _=true from g22_3]; rfl)
     conv=>whnf
     refine ⟨?_⟩;conv=>whnf
     refine ⟨_,hgQ,?_⟩;conv=>whnf
     refine ⟨?_⟩;conv=>whnf
     refine ⟨⟨105474,[91,97],[]⟩,?_⟩;conv=>whnf
     rw [hwn]
     have hz:=hZ3 (n+1) hnl (by omega)
     rw [hst,hb,hv] at hz
     exact hz
    conv=>whnf
    refine byC (c20 gl _ _ (by show 2≤9223372036854775807; decide)) op20 ?_;conv=>whnf
    apply bc9<;>intro g22_7
    ·conv=>whnf
     refine ⟨_,hgQ,?_⟩;conv=>whnf
     refine byC (c98 gl _ _ (hRQ.m9 hm4) (hRQ.le9 (by assumption)) (hRQ.all9 hn6)) op98 ?_;conv=>whnf
     apply bc9<;>intro h22
     ·have hv:=stp_yes (ls:=ls) (cs:=cs) (Q:=Q) (B:=B) (by unfold betT; rw [show befL _ _=false from g22_3,show decide (_=_)=true from g22_7,show befR _ _=true from h22]; rfl)
      conv=>whnf
      refine ⟨?_⟩;conv=>whnf
      refine ⟨_,hgQ,?_⟩;conv=>whnf
      refine ⟨?_⟩;conv=>whnf
      refine ⟨⟨105474,[91,97],[]⟩,?_⟩;conv=>whnf
      rw [hwn]
      have hz:=hZ3 (n+1) hnl (by omega)
      rw [hst,hb,hv] at hz
      exact hz
     have hv:=stp_no (ls:=ls) (cs:=cs) (Q:=Q) (B:=B) (by unfold betT; rw [show befL _ _=false from g22_3,show decide (_=_)=true from g22_7,show befR _ _=false from h22]; rfl)
     conv=>whnf
     refine ⟨?_⟩;conv=>whnf
     refine ⟨⟨105474,[91,97],[]⟩,?_⟩;conv=>whnf
     rw [hwn]
     have hz:=hZ3 (n+1) hnl (by omega)
     rw [hst,hb,hv] at hz
     exact hz
    have hv:=stp_no (ls:=ls) (cs:=cs) (Q:=Q) (B:=B) (by unfold betT; rw [show befL _ _=false from g22_3,show decide (_=_)=false from g22_7]; rfl)
    conv=>whnf
    refine ⟨?_⟩;conv=>whnf
    refine ⟨⟨105474,[91,97],[]⟩,?_⟩;conv=>whnf
    rw [hwn]
    have hz:=hZ3 (n+1) hnl (by omega)
    rw [hst,hb,hv] at hz
    exact hz
   have hgn:n=List.length (lstT ls cs K):=by have:=of_decide_eq_false h17; omega
   conv=>whnf
   refine ⟨?_⟩;conv=>whnf
   refine ⟨⟨7170,[91,97],[]⟩,?_⟩;conv=>whnf
   rw [hwi]
   have hz:=hZ1 (i+1) hil (by omega)
   rw [hrd,←hgn,hb] at hz
   exact hz
  conv=>whnf
  refine ⟨?_⟩;conv=>whnf
  refine ⟨⟨31746,[],[]⟩,?_⟩
  refine LoopW_ind _ (fun k:Nat=>(({ tmps:=[J,.own 1 [],J,J,J,J,J,J,J,J,bV (some B0),intsV (kinL cs.length []),vI i,vB (enF ls cs K k),vI (k+1:Nat),J,J,J,J,J,J,J,J,J,J,J,J,J,J,J,J,J,J,J,J,J,J,J,J,J,J,J,J,J,J,J,J,J,J,J,J,J,J,J,J,J,J,J,J,J,J,J,J,J,J,J,J,J,J,J,J,J,J,J,J,J,J,J,J,J,J,J,J,J,J,J,J,J,J,J,J,J,J,J,J,J,J,J,J,J,J,J,J,J,J,J,J,J,J,J,J,J,J,J,J,J,J,J,J,J,J,J,J,J,J,J,J,J],seg:=[(1,.cells [vI p,lfsV ls,cpsV cs])],up:=[] }:St S))) (fun k:Nat=>(k≤2)) (fun k:Nat=>(2 - k)) () ?_ 0 (Nat.zero_le _)
  intro k hk2 Z2 hZ2
  conv=>whnf
  refine ⟨?_⟩;conv=>whnf
  apply bc9<;>intro h11
  ·have hkl2:k < 2:=by have:=of_decide_eq_true h11; omega
   have hwk:IntKind.i64.wrap (((k+1:Nat):Int)+1)=((k+1+1:Nat):Int):=wrap_nat (by omega)
   have hsl:scaU cs ((k+1:Nat):Int) ls.length < ls.length:=by have:=scaU_lt cs ((k+1:Nat):Int) (ls.length - 1); rw [show ls.length - 1+1=ls.length by have:=hV.n1; omega] at this; have:=hV.n1; omega
   conv=>whnf
   refine ⟨[0,1,2,3,4,5,6,8,9,10,12,7,11,13,14,15,16],[],[],[],⟨340282366920938463463374607431768211455,[],[]⟩,by decide +kernel,?_⟩;conv=>whnf
   apply bc9<;>intro g13_1
   ·have g13:enF ls cs K k=true:=g13_1
    conv=>whnf
    refine ⟨_,hgK,?_⟩;conv=>whnf
    refine byC (c94 gl K (by omega) ((k+1:Nat):Int)) op94 ?_;conv=>whnf
    refine byC (c82 gl p ls cs hV ((k+1:Nat):Int)) op82 ?_;conv=>whnf
    refine byC (c83 gl p ls cs hV _ hsl ((k+1:Nat):Int)) op83 ?_;conv=>whnf
    refine ⟨?_⟩;conv=>whnf
    refine ⟨⟨31746,[],[]⟩,?_⟩;conv=>whnf
    rw [hwk]
    have hz:=hZ2 (k+1) hkl2 (by omega)
    rw [show enF ls cs K (k+1)=(((cntI K ((k+1:Nat):Int):Nat):Int)==((hvA cs (scaU cs ((k+1:Nat):Int) ls.length) ((k+1:Nat):Int):Nat):Int)) from by show (enF ls cs K k&&_)=_; rw [g13,Bool.true_and]] at hz
    exact hz
   have g13:enF ls cs K k=false:=g13_1
   conv=>whnf
   refine ⟨?_⟩;conv=>whnf
   refine ⟨⟨31746,[],[]⟩,?_⟩;conv=>whnf
   rw [hwk]
   have hz:=hZ2 (k+1) hkl2 (by omega)
   rw [show enF ls cs K (k+1)=false from by show (enF ls cs K k&&_)=_; rw [g13,Bool.false_and]] at hz
   exact hz
  have hkg:k=2:=by have:=of_decide_eq_false h11; omega
  subst hkg
  conv=>whnf
  refine ⟨?_⟩;conv=>whnf
  apply bc9<;>intro h14
  ·have h14f:enF ls cs K 2=false:=by have h:(!enF ls cs K 2)=true:=h14; simpa using h
   have hrd:bstU ls cs (i+1)=(some B0):=by rw [bstU_succ hil,←hK]; unfold rndT; rw [h14f,hbo]; rfl
   conv=>whnf
   refine ⟨?_⟩;conv=>whnf
   refine ⟨⟨7170,[91,97],[]⟩,?_⟩;conv=>whnf
   rw [hwi]
   have hz:=hZ1 (i+1) hil (by omega)
   rw [hrd] at hz
   exact hz
  have h14t:enF ls cs K 2=true:=by have h:(!enF ls cs K 2)=false:=h14; simpa using h
  have hrd:bstU ls cs (i+1)=bstN ls cs (lstT ls cs K) (some B0) (List.length (lstT ls cs K)):=by rw [bstU_succ hil,←hK]; unfold rndT bstN; rw [if_pos h14t,List.take_length,hbo]
  have h95:=c95 gl p ls cs hV K hKl 36 0 0 (blkT ls cs) (Nat.zero_le _) (Nat.zero_le _) (blk_rect ls cs) (by have:=Nat.mul_le_mul hm4 (show ls.length+1≤7 by omega); rw [Nat.sub_zero,Nat.sub_zero]; omega)
  have hrL:∀ Q∈(lstT ls cs K),RectT cs.length ls.length Q:=fun Q hQ=>refP_rect _ _ _ (blk_rect ls cs) Q hQ
  have hlL:List.length (lstT ls cs K)≤282429536481:=Nat.le_trans (refP_len hV.n1 hm4 36 0 0 _ (Nat.zero_le _) (Nat.zero_le _)) (Nat.le_trans (Nat.pow_le_pow_right (by decide) (show (cs.length - 0) * ls.length - 0≤24 from by have:=Nat.mul_le_mul hm4 hn6; rw [Nat.sub_zero,Nat.sub_zero]; omega)) (by decide))
  conv=>whnf
  refine ⟨[0,1,2,3,4,5,6,7,8],[],[],[],⟨340282366920938463463374607431768211455,[],[]⟩,by decide +kernel,?_⟩;conv=>whnf
  refine ⟨_,hgK,?_⟩;conv=>whnf
  refine byC (c96 gl p ls cs hV) op96 ?_;conv=>whnf
  refine byC h95 op95 ?_;conv=>whnf
  refine ⟨?_⟩;conv=>whnf
  refine ⟨⟨105474,[],[]⟩,?_⟩
  refine LoopW_ind _ (fun n:Nat=>(({ tmps:=[J,.own 1 [],J,J,J,J,J,J,J,J,bV (bstN ls cs (lstT ls cs K) (some B0) n),intsV (kinL cs.length []),vI i,J,J,.sl (S:=S) U.intss (lstT ls cs K) none,vI n,J,J,J,J,J,J,J,J,J,J,J,J,J,J,J,J,J,J,J,J,J,J,J,J,J,J,J,J,J,J,J,J,J,J,J,J,J,J,J,J,J,J,J,J,J,J,J,J,J,J,J,J,J,J,J,J,J,J,J,J,J,J,J,J,J,J,J,J,J,J,J,J,J,J,J,J,J,J,J,J,J,J,J,J,J,J,J,J,J,J,J,J,J,J,J,J,J,J,J,J,J,J,J,J,J,J,J,J,J,J,J],seg:=[(1,.cells [vI p,lfsV ls,cpsV cs])],up:=[] }:St S))) (fun n:Nat=>(n≤List.length (lstT ls cs K))) (fun n:Nat=>(List.length (lstT ls cs K) - n)) () ?_ 0 (Nat.zero_le _)
  intro n hn Z3 hZ3
  conv=>whnf
  refine ⟨?_⟩;conv=>whnf
  rcases hb:(bstN ls cs (lstT ls cs K) (some B0) n) with _ | B
  ·conv=>whnf
   apply bc9<;>intro h17
   ·have hnl:n < List.length (lstT ls cs K):=by have:=of_decide_eq_true h17; omega
    have hwn:=wrap_nat (n:=n) (by omega)
    have hst:=bstN_succ (ls:=ls) (cs:=cs) (o:=(some B0)) hnl
    obtain ⟨Q,hQ⟩:∃ Q,Q=(lstT ls cs K)[n]'hnl:=⟨_,rfl⟩
    have hgQ:getI (lstT ls cs K) (n:Int)=some Q:=by rw [getI_nat hnl,hQ]
    rw [show (lstT ls cs K)[n]=Q from hQ.symm] at hst
    have hRQ:RectT cs.length ls.length Q:=by rw [hQ]; exact hrL _ (List.getElem_mem hnl)
    conv=>whnf
    refine ⟨?_⟩;conv=>whnf
    refine ⟨?_⟩;conv=>whnf
    refine ⟨_,hgQ,?_⟩;conv=>whnf
    refine ⟨[0,1,2,3,5,6,7,8,9,12,14,15,4,10,13,16,11,18,17,19],[11,17],[],[],⟨340282366920938463463374607431768211455,[],[]⟩,by decide +kernel,?_⟩;conv=>whnf
    refine ⟨_,hgQ,?_⟩;conv=>whnf
    refine ⟨_,hgQ,?_⟩;conv=>whnf
    refine byC (c49 gl _ (hRQ.m9 hm4) (hRQ.r9 hn6)) op49 ?_;conv=>whnf
    refine byC (c50 gl p ls cs hV _ hRQ) op50 ?_;conv=>whnf
    refine byC (c49 gl _ (RectT.m9 (by assumption) hm4) (RectT.r9 (by assumption) hn6)) op49 ?_;conv=>whnf
    refine byC (c50 gl p ls cs hV _ (by assumption)) op50 ?_;conv=>whnf
    refine ⟨_,rfl,?_⟩;conv=>whnf
    refine ⟨_,rfl,?_⟩;conv=>whnf
    refine ⟨_,rfl,?_⟩;conv=>whnf
    refine ⟨_,rfl,?_⟩;conv=>whnf
    refine ⟨?_⟩;conv=>whnf
    refine byC (c97 gl _ _ (by show 2≤9223372036854775807; decide)) op97 ?_;conv=>whnf
    apply bc9<;>intro g22_3
    ·conv=>whnf
     refine ⟨?_⟩;conv=>whnf
     refine ⟨_,hgQ,?_⟩;conv=>whnf
     refine ⟨?_⟩;conv=>whnf
     refine ⟨⟨105474,[91,97],[]⟩,?_⟩;conv=>whnf
     rw [hwn]
     have hz:=hZ3 (n+1) hnl (by omega)
     rw [hst,hb,stp_none] at hz
     exact hz
    conv=>whnf
    refine byC (c20 gl _ _ (by show 2≤9223372036854775807; decide)) op20 ?_;conv=>whnf
    apply bc9<;>intro g22_7
    ·conv=>whnf
     refine ⟨_,hgQ,?_⟩;conv=>whnf
     refine byC (c98 gl _ _ (hRQ.m9 hm4) (hRQ.le9 (by assumption)) (hRQ.all9 hn6)) op98 ?_;conv=>whnf
     apply bc9<;>intro h22
     ·conv=>whnf
      refine ⟨?_⟩;conv=>whnf
      refine ⟨_,hgQ,?_⟩;conv=>whnf
      refine ⟨?_⟩;conv=>whnf
      refine ⟨⟨105474,[91,97],[]⟩,?_⟩;conv=>whnf
      rw [hwn]
      have hz:=hZ3 (n+1) hnl (by omega)
      rw [hst,hb,stp_none] at hz
      exact hz
     conv=>whnf
     refine ⟨?_⟩;conv=>whnf
     refine ⟨⟨105474,[91,97],[]⟩,?_⟩;conv=>whnf
     rw [hwn]
     have hz:=hZ3 (n+1) hnl (by omega)
     rw [hst,hb,stp_none] at hz
     exact hz
    conv=>whnf
    refine ⟨?_⟩;conv=>whnf
    refine ⟨⟨105474,[91,97],[]⟩,?_⟩;conv=>whnf
    rw [hwn]
    have hz:=hZ3 (n+1) hnl (by omega)
    rw [hst,hb,stp_none] at hz
    exact hz
   have hgn:n=List.length (lstT ls cs K):=by have:=of_decide_eq_false h17; omega
   conv=>whnf
   refine ⟨?_⟩;conv=>whnf
   refine ⟨⟨7170,[91,97],[]⟩,?_⟩;conv=>whnf
   rw [hwi]
   have hz:=hZ1 (i+1) hil (by omega)
   rw [hrd,←hgn,hb] at hz
   exact hz
  have hRB:RectT cs.length ls.length B:=bstN_rect hrL (fun B hB=>bstU_rect i B (by rw [hbo]; exact hB)) n B hb
  have hBne:B≠[]:=fun e=>by have h:=hRB.len; rw [e] at h; have:=hV.m1; simp at h; omega
  conv=>whnf
  apply bc9<;>intro h17
  ·have hnl:n < List.length (lstT ls cs K):=by have:=of_decide_eq_true h17; omega
   have hwn:=wrap_nat (n:=n) (by omega)
   have hst:=bstN_succ (ls:=ls) (cs:=cs) (o:=(some B0)) hnl
   obtain ⟨Q,hQ⟩:∃ Q,Q=(lstT ls cs K)[n]'hnl:=⟨_,rfl⟩
   have hgQ:getI (lstT ls cs K) (n:Int)=some Q:=by rw [getI_nat hnl,hQ]
   rw [show (lstT ls cs K)[n]=Q from hQ.symm] at hst
   have hRQ:RectT cs.length ls.length Q:=by rw [hQ]; exact hrL _ (List.getElem_mem hnl)
   conv=>whnf
   refine ⟨?_⟩;conv=>whnf
   refine ⟨hBne,?_⟩;conv=>whnf
   refine ⟨[0,1,2,3,5,6,7,8,9,12,14,15,4,10,13,16,11,18,17,19],[11,17],[],[],⟨340282366920938463463374607431768211455,[],[]⟩,by decide +kernel,?_⟩;conv=>whnf
   refine ⟨_,hgQ,?_⟩;conv=>whnf
   refine ⟨_,hgQ,?_⟩;conv=>whnf
   refine byC (c49 gl _ (hRQ.m9 hm4) (hRQ.r9 hn6)) op49 ?_;conv=>whnf
   refine byC (c50 gl p ls cs hV _ hRQ) op50 ?_;conv=>whnf
   refine byC (c49 gl _ (RectT.m9 (by assumption) hm4) (RectT.r9 (by assumption) hn6)) op49 ?_;conv=>whnf
   refine byC (c50 gl p ls cs hV _ (by assumption)) op50 ?_;conv=>whnf
   refine ⟨_,rfl,?_⟩;conv=>whnf
   refine ⟨_,rfl,?_⟩;conv=>whnf
   refine ⟨_,rfl,?_⟩;conv=>whnf
   refine ⟨_,rfl,?_⟩;conv=>whnf
   refine ⟨?_⟩;conv=>whnf
   refine byC (c97 gl _ _ (by show 2≤9223372036854775807; decide)) op97 ?_;conv=>whnf
   apply bc9<;>intro g22_3
   ·have hv:=stp_yes (ls:=ls) (cs:=cs) (Q:=Q) (B:=B) (by unfold betT; rw [show befL _ _=true from g22_3]; rfl)
    conv=>whnf
    refine ⟨?_⟩;conv=>whnf
    refine ⟨_,hgQ,?_⟩;conv=>whnf
    refine ⟨?_⟩;conv=>whnf
    refine ⟨⟨105474,[91,97],[]⟩,?_⟩;conv=>whnf
    rw [hwn]
    have hz:=hZ3 (n+1) hnl (by omega)
    rw [hst,hb,hv] at hz
    exact hz
   conv=>whnf
   refine byC (c20 gl _ _ (by show 2≤9223372036854775807; decide)) op20 ?_;conv=>whnf
   apply bc9<;>intro g22_7
   ·conv=>whnf
    refine ⟨_,hgQ,?_⟩;conv=>whnf
    refine byC (c98 gl _ _ (hRQ.m9 hm4) (hRQ.le9 (by assumption)) (hRQ.all9 hn6)) op98 ?_;conv=>whnf
    apply bc9<;>intro h22
    ·have hv:=stp_yes (ls:=ls) (cs:=cs) (Q:=Q) (B:=B) (by unfold betT; rw [show befL _ _=false from g22_3,show decide (_=_)=true from g22_7,show befR _ _=true from h22]; rfl)
     conv=>whnf
     refine ⟨?_⟩;conv=>whnf
     refine ⟨_,hgQ,?_⟩;conv=>whnf
     refine ⟨?_⟩;conv=>whnf
     refine ⟨⟨105474,[91,97],[]⟩,?_⟩;conv=>whnf
     rw [hwn]
     have hz:=hZ3 (n+1) hnl (by omega)
     rw [hst,hb,hv] at hz
     exact hz
    have hv:=stp_no (ls:=ls) (cs:=cs) (Q:=Q) (B:=B) (by unfold betT; rw [show befL _ _=false from g22_3,show decide (_=_)=true from g22_7,show befR _ _=false from h22]; rfl)
    conv=>whnf
    refine ⟨?_⟩;conv=>whnf
    refine ⟨⟨105474,[91,97],[]⟩,?_⟩;conv=>whnf
    rw [hwn]
    have hz:=hZ3 (n+1) hnl (by omega)
    rw [hst,hb,hv] at hz
    exact hz
   have hv:=stp_no (ls:=ls) (cs:=cs) (Q:=Q) (B:=B) (by unfold betT; rw [show befL _ _=false from g22_3,show decide (_=_)=false from g22_7]; rfl)
   conv=>whnf
   refine ⟨?_⟩;conv=>whnf
   refine ⟨⟨105474,[91,97],[]⟩,?_⟩;conv=>whnf
   rw [hwn]
   have hz:=hZ3 (n+1) hnl (by omega)
   rw [hst,hb,hv] at hz
   exact hz
  have hgn:n=List.length (lstT ls cs K):=by have:=of_decide_eq_false h17; omega
  conv=>whnf
  refine ⟨?_⟩;conv=>whnf
  refine ⟨⟨7170,[91,97],[]⟩,?_⟩;conv=>whnf
  rw [hwi]
  have hz:=hZ1 (i+1) hil (by omega)
  rw [hrd,←hgn,hb] at hz
  exact hz
 have hgi:i=(kinL cs.length []).length:=by have:=of_decide_eq_false h7; omega
 rw [show bstU ls cs i=some A from by rw [←hbest]; unfold bstU bestT; rw [hgi,List.take_length]]
 conv=>whnf
 refine (hQ1 _ _ _).mpr ?_;conv=>whnf
 refine ⟨[0,1,2,5,7,8,3,4,6,9,10,11,12,13,14],[],[],[],⟨340282366920938463463374607431768211455,[],[]⟩,by decide +kernel,?_⟩;conv=>whnf
 refine byC h48 op48 ?_;conv=>whnf
 refine byC h47 op47 ?_;conv=>whnf
 refine byC h49 op49 ?_;conv=>whnf
 refine byC h50 op50 ?_;conv=>whnf
 rw [hW]
theorem op29:Opens PR 29:=⟨_,Tryd.func29,rfl,rfl⟩
theorem who_len (p:Int) (ls:List Lf) (cs:List Cp):(whoV p ls cs).1.length≤1000∧∀ x∈(whoV p ls cs).1,x.length≤1000:=by
 by_cases hk:chE p ls cs=0
 ·have hV:=chk_valid.1 hk
  have hm4:=hV.m4
  have hn6:=hV.n6
  obtain ⟨A,a,b,c,hW,hM⟩:=more_plain hV
  rw [hW]
  have hR:RectT cs.length ls.length A:=⟨hM.right.1,fun c hc=>(hM.right.2 c hc).1⟩
  exact ⟨hR.m9 hm4,hR.all9 hn6⟩
 unfold whoV; rw [if_neg hk]; exact ⟨Nat.zero_le _,fun x hx=>by cases hx⟩
theorem eqq9 (n:Int) (h:(n==n)=false):False:=by simp at h
theorem c4 (p:Int) (ls:List Lf) (cs:List Cp) (hL:LensS ls cs) (hN:LensN ls cs):PCalls PR glT 4 [.agg [vI p,lfsV ls,cpsV cs]] fun r=>r=vB true:=by
 have h28:=c28 p ls cs hL
 have h29:=c29 glT p ls cs hL hN
 obtain ⟨hA1,hA2⟩:=who_len p ls cs
 generalize whoV p ls cs=W at *
 obtain ⟨A,a,b,c,e⟩:=W
 dsimp only at hA1 hA2 h28 h29
 refine fnW_sound (parH_ok glT) Tryd.func4 ?_;conv=>whnf
 refine ⟨?_⟩;conv=>whnf
 refine ⟨?_⟩;conv=>whnf
 refine byC h28 op28 ?_;conv=>whnf
 refine ⟨?_⟩;conv=>whnf
 refine byC h29 op29 ?_;conv=>whnf
 refine ⟨?_⟩;conv=>whnf
 refine byC (to (c30 glT A A (Nat.le_trans hA1 (by decide)) fun x hx=>Nat.le_trans (hA2 x hx) (by decide)) (by rw [decide_eq_true rfl])) op30 ?_;conv=>whnf
 apply bc9<;>intro g3_8
 ·conv=>whnf
  apply bc9<;>intro g3_13
  ·conv=>whnf
   apply bc9<;>intro g3_18
   ·conv=>whnf
    apply bc9<;>intro g3_23
    ·conv=>whnf
     refine byC c27 op27 ?_;conv=>whnf
     rfl
    exfalso
    exact eqq9 _ g3_23
   exfalso
   exact eqq9 _ g3_18
  exfalso
  exact eqq9 _ g3_13
 exfalso
 exact eqq9 _ g3_8
open Go Go.Ab Go.Proofs Go.Proofs.YtmchcpmkadhmjaaDoor Go.ChangeShapes Go.WideShapes Go.ChangeAt Go.RowKit
theorem post_same {H:Type} {enc:TypeId×Value→H} {P:Program} {f:Func} {s:ChangeSpec} {apart fresh handsOn again:Bool} {W W':World} {args:Array Value} {v:Value} {ds gs:List (DataW H)} {before pa pv:List MemPlace}
  (hW:DataW.Whole enc P f.params.toList s.vars apart W args.toList ds gs before)
  (hres:∀ (b:Nat) (sp:Nat→Bool) (hd:Bool),DataW.TrodAll enc P W' b sp hd f.resultTypes.toList (v.resultList f.resultTypes.size) (s.fn H (ds++gs)).results [])
  (hargs:∀ sp:Nat→Bool,(∀ p∈before,sp p.block=true)→DataW.TrodAll enc P W' 0 sp true f.params.toList args.toList (s.fn H (ds++gs)).args pa)
  (hvars:∀ sp:Nat→Bool,(∀ p∈before,sp p.block=true)→DataW.TrodVars enc P W' sp s.vars (s.fn H (ds++gs)).vars pv)
  (hps:before=pa++pv) (hk:W.keptBut W' (·∈before)) (hfz:∀ a,a.block < W.heap.size→W'.frozen? a=W.frozen? a)
  (hok:∀ (j:Nat) (t:TypeId) (r:Value),f.resultTypes[j]?=some t→(v.resultList f.resultTypes.size)[j]?=some r→Value.okWide P W' .any 0 t r) :
  s.post enc P f apart fresh handsOn again W args v W':=by
 have hlt:=hW.lt
 have hold:∀ p∈before,(fun b=>decide (b < W.heap.size)) p.block=true:=fun p hp=>by simpa using hlt p hp
 refine ⟨ds,gs,before,[],pa,pv,hW,hres _ _ _,hargs _ hold,hvars _ hold,World.keptBut_mono (fun p hp=>⟨hp,?_⟩) hk,fun _=>?_⟩
 ·rw [hps,List.mem_append] at hp
  exact Or.inr hp
 obtain ⟨_,_,_,_,_,hz,hn⟩:=hW
 refine ⟨hok,_,_,([]++pa)++pv,⟨[]++pa,pv,trodAll_append (hargs _ (fun _ _=>rfl)) (hres _ _ _),hvars _ (fun _ _=>rfl),rfl,?_,?_⟩,?_⟩
 ·intro b off hp
  have hp':MemPlace.cell b off∈before:=by rw [hps]; simpa using hp
  rw [hfz _ (hlt _ hp')]
  exact hz b off hp'
 ·intro ha
  have:=hn ha
  rw [hps] at this
  simpa using this
 intro p hp _
 rw [hps]
 simpa using hp
theorem grow_kept {w w':World} (h:Grow w w') (may:MemPlace→Prop):w.keptBut w' may:=by
 refine ⟨h.os,h.output,fun i hi=>?_⟩
 rw [h.block i hi]
 cases w.heap[i]? with
 | none=>trivial
 | some o=>cases o <;> simp
theorem grow_fz {w w':World} (h:Grow w w') (a:Addr) (ha:a.block < w.heap.size):w'.frozen? a=w.frozen? a:=by
 unfold World.frozen?
 rw [h.block _ ha]
theorem gTab:Tryd.prog.globalNamed "math/bits.deBruijn64tab" = some 1:=by kernel_rfl
theorem gTabType:(Tryd.prog.globals[1]?).map (·.type)=some 198:=by kernel_rfl
theorem cells198:Tryd.prog.cellsOf 198=64:=by kernel_rfl
theorem cells5:Tryd.prog.cellsOf 5=1:=by kernel_rfl
theorem laid_glT {W:World} (h:laidMetH Tryd.prog [("math/bits.deBruijn32tab", Rows.laid_math_bits_deBruijn32tab),("math/bits.deBruijn64tab", Rows.laid_math_bits_deBruijn64tab)] W):glT.G W:=by
 have h1:=laidMetH.filter (fun x=>x.1 == "math/bits.deBruijn64tab") h
 have e:([("math/bits.deBruijn32tab", Rows.laid_math_bits_deBruijn32tab),("math/bits.deBruijn64tab", Rows.laid_math_bits_deBruijn64tab)]:List (String×DataW Unit)).filter (fun x=>x.1 == "math/bits.deBruijn64tab")=[("math/bits.deBruijn64tab", Rows.laid_math_bits_deBruijn64tab)]:=by rfl
 rw [e,Go.MakeChecks.laidMetH_plain _ _ _ (by kernel_rfl)] at h1
 have ht:Lib.TabIs Tryd.prog W "math/bits.deBruijn64tab" .u8 (Lib.deBruijn64tab.map fun n:Nat=>(n:Int)):=Lib.tabIs_of_head (rest:=[]) gTab gTabType Tryd.underlying198 Tryd.underlying5 cells5 cells198 h1
 have hc:TabAt 1 Lib.deBruijn64tab W:=fun j hj=>by
  have:=ht.cell gTab j (by simpa using hj)
  rw [this]
  simp [List.getD,hj]
 refine ⟨?_,hc⟩
 have:=hc 0 (by decide)
 rcases Nat.lt_or_ge 1 W.heap.size with hlt | hge
 ·exact hlt
 exfalso
 have hn:W.heap[1]?=none:=Array.getElem?_eq_none hge
 simp [World.cell?,hn] at this
def tab32:List Int:=[0,1,28,2,29,14,24,3,30,22,20,15,25,17,4,8,31,27,13,23,21,19,16,7,26,12,18,6,11,5,10,9]
def tab64:List Int:=[0,1,56,2,57,49,28,3,61,58,42,50,38,29,17,4,62,47,59,36,45,43,51,22,53,39,33,30,24,18,12,5,63,55,48,27,60,41,37,16,46,35,44,21,52,32,23,11,54,26,40,15,34,20,31,10,25,14,19,9,13,8,7,6]
def setTab (zs:List Int):Obj→Obj
 | .cells _ t frozen=>.cells (zs.map fun n=>Value.int .u8 n).toArray t frozen
 | o=>o
def tabWorld (w:World):World:={ w with heap:=(w.heap.modify 0 (setTab tab32)).modify 1 (setTab tab64) }
open Go Go.Ab Go.Proofs
theorem kids:Kids Tryd.prog (· < Tryd.prog.types.size):=kids_rows (by kernel_rfl) (by kernel_rfl)
theorem full:∀ t e,t < Tryd.prog.types.size→Tryd.prog.underlying t=some (.slice e)→0 < Tryd.prog.cellsOf e:=slices_full_of Tryd.prog (by kernel_rfl)
theorem zc3:Tryd.prog.cellsOf 3=1:=by kernel_rfl
theorem zc9:Tryd.prog.cellsOf 9=1:=by kernel_rfl
theorem zc30:Tryd.prog.cellsOf 30=1:=by kernel_rfl
abbrev B63:Nat:=9223372036854775807
section
variable {H:Type} {enc:TypeId×Value→H} {w:World}
theorem oInt:OpA S enc Tryd.prog w 3 fun cl=>∃ n:Int,cl=Cod.enc (S:=S) U.int n∧IntKind.i64.min≤n∧n≤IntKind.i64.max :=
 (OpA.int Tryd.underlying3).mono fun _ ⟨n,h,h1⟩=>⟨n,h,h1⟩
theorem oInts:OpA S enc Tryd.prog w 30 fun cl=>∃ ys:List Int,cl=[vL ys]∧ys.length≤B63∧∀ y∈ys,IntKind.i64.min≤y∧y≤IntKind.i64.max :=
 OpA.slice (S:=S) (u:=U.int) Tryd.underlying30 zc3 oInt
end
abbrev noHand:Value:=.agg #[.slice none 0 0]
theorem zc22:Tryd.prog.cellsOf 22=1:=by kernel_rfl
theorem zc23:Tryd.prog.cellsOf 23=1:=by kernel_rfl
theorem zc25:Tryd.prog.cellsOf 25=3:=by kernel_rfl
theorem zc88:Tryd.prog.cellsOf 88=2:=by kernel_rfl
theorem zc94:Tryd.prog.cellsOf 94=3:=by kernel_rfl
section
variable {H:Type} {enc:TypeId×Value→H} {w:World}
theorem oLf:OpA S enc Tryd.prog w 94 fun cl=>∃ y:Lf,cl=Cod.enc (S:=S) U.leaf y∧y.1.size≤B63:=by
 refine (OpA.struct (Rs:=[_,_,_]) Tryd.underlying94 ⟨rfl,_,_,rfl,OpA.str Tryd.underlying9,by rw [zc9],_,_,rfl,oInt,by rw [zc9,zc3],_,_,rfl,oInt,by rw [zc9,zc3,zc94],rfl⟩).mono ?_
 rintro cl ⟨a,b,rfl,⟨s,rfl,hs⟩,c,d,rfl,⟨n,rfl,_⟩,e,f,rfl,⟨m,rfl,_⟩,rfl⟩
 exact ⟨(s,n,m),rfl,hs⟩
theorem oLfs:OpA S enc Tryd.prog w 22 fun cl=>∃ ys:List Lf,cl=[lfsV ys]∧ys.length≤B63∧∀ y∈ys,y.1.size≤B63 :=
 OpA.slice (S:=S) (u:=U.leaf) Tryd.underlying22 zc94 oLf
theorem oCp:OpA S enc Tryd.prog w 88 fun cl=>∃ y:Cp,cl=Cod.enc (S:=S) U.copy y∧y.1.size≤B63∧y.2.length≤B63:=by
 refine (OpA.struct (Rs:=[_,_]) Tryd.underlying88 ⟨rfl,_,_,rfl,OpA.str Tryd.underlying9,by rw [zc9],_,_,rfl,oInts,by rw [zc9,zc30,zc88],rfl⟩).mono ?_
 rintro cl ⟨a,b,rfl,⟨s,rfl,hs⟩,c,d,rfl,⟨ys,rfl,h,_⟩,rfl⟩
 exact ⟨(s,ys),rfl,hs,h⟩
theorem oCps:OpA S enc Tryd.prog w 23 fun cl=>∃ ys:List Cp,cl=[cpsV ys]∧ys.length≤B63∧∀ y∈ys,y.1.size≤B63∧y.2.length≤B63 :=
 OpA.slice (S:=S) (u:=U.copy) Tryd.underlying23 zc88 oCp
theorem oSet:OpA S enc Tryd.prog w 25 fun cl=>∃ p ls cs,cl=setC p ls cs∧LensS ls cs∧LensN ls cs:=by
 refine (OpA.struct (Rs:=[_,_,_]) Tryd.underlying25 ⟨rfl,_,_,rfl,oInt,by rw [zc3],_,_,rfl,oLfs,by rw [zc3,zc22],_,_,rfl,oCps,by rw [zc3,zc22,zc23,zc25],rfl⟩).mono ?_
 rintro cl ⟨a,b,rfl,⟨p,rfl,_⟩,c,d,rfl,⟨ls,rfl,h1,h2⟩,e,f,rfl,⟨cs,rfl,h3,h4⟩,rfl⟩
 exact ⟨p,ls,cs,rfl,⟨⟨h1,h3⟩,fun x hx=>(h4 x hx).2⟩,h2,fun x hx=>(h4 x hx).1⟩
end
abbrev noSet:Value:=.agg #[.int .i64 0,.slice none 0 0,.slice none 0 0]
end Go.Ab.MkF
