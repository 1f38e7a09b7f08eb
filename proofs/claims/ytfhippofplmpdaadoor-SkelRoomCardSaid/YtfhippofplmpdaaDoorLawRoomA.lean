/-
  THE SKELETON FAMILY: the arguments of its laws, read as ours.
-/
import Derived.Test.YtfhippofplmpdaaDoorCards
import Derived.Test.YtfhippofplmpdaaDoorTie
import Derived.WalkKit
import Derived.ProofKit
import Derived.OpenShut
import Derived.Deep.DeepHandedRow
import Derived.Lib.LaidTab
import Derived.LaidSub
import Derived.MakeChecks
import Derived.ChangeBears
import Derived.Test.YtfhippofplmpdaaDoorSkelB
import Derived.Test.YtfhippofplmpdaaDoorSkelA
import Derived.Test.YtfhippofplmpdaaDoorEngD
namespace Go.Ab.SkF
open Go Go.Ab Go.Ab.Pln
def foN (f:Fm):Int:=if [f.2.1,f.2.2.1,f.2.2.2].any (outB 0 60) then 7 else if [f.2.2.1].any (outB f.2.1 f.2.2.2) then 2 else 0
theorem foN_7 {f:Fm} (h:[f.2.1,f.2.2.1,f.2.2.2].any (outB 0 60)=true):foN f=7:=by unfold foN; rw [if_pos h]
theorem foN_2 {f:Fm} (h:[f.2.1,f.2.2.1,f.2.2.2].any (outB 0 60)=false) (h':[f.2.2.1].any (outB f.2.1 f.2.2.2)=true):foN f=2:=by unfold foN; rw [if_neg (by rw [h]; simp),if_pos h']
theorem foN_0 {f:Fm} (h:[f.2.1,f.2.2.1,f.2.2.2].any (outB 0 60)=false) (h':[f.2.2.1].any (outB f.2.1 f.2.2.2)=false):foN f=0:=by unfold foN; rw [if_neg (by rw [h]; simp),if_neg (by rw [h']; simp)]
theorem in_out (x lo hi:Int):(!inB x lo hi)=outB lo hi x:=by
 unfold inB outB
 by_cases h1:lo≤x <;> by_cases h2:x≤hi <;> simp [h1,h2] <;> omega
abbrev namesF (fs:Fms):List ByteArray:=fs.map fun f=>f.1
theorem foE_names (pre:Fms) (f:Fm):foE pre f=if tyE (namesF pre) f.1=0 then foN f else tyE (namesF pre) f.1:=by
 unfold foE tyE foN
 rw [List.any_map,show (pre.any ((fun p=>strEq p f.1) ∘ fun f=>f.1))=pre.any fun p=>strEq p.1 f.1 from rfl]
 cases nameB f.1 <;> cases (pre.any fun p=>strEq p.1 f.1) <;> simp
theorem chk_long {ts:List ByteArray} {fs:Fms} {ss:Sgs} (h:ts.length > 6):chk ts fs ss=(1,0,3):=by unfold chk; rw [if_pos h]
theorem chk_type {ts:List ByteArray} {fs:Fms} {ss:Sgs} (h:¬ ts.length > 6) {i:Nat} (hi:i < ts.length) (h0:∀ j,j < i→tyF ts j=0) (he:tyF ts i≠0):chk ts fs ss=(1,(i:Int),tyF ts i):=by
 unfold chk; rw [if_neg h,firstR_at hi h0 he,if_pos he]
theorem chk_2 {ts:List ByteArray} {fs:Fms} {ss:Sgs} (h:¬ ts.length > 6) (h0:∀ j,j < ts.length→tyF ts j=0):chk ts fs ss=chk2 ts.length fs ss:=by
 unfold chk; rw [if_neg h,firstR_no h0,if_neg (by simp)]
theorem chk2_long {nt:Nat} {fs:Fms} {ss:Sgs} (h:[(fs.length:Int)].any (outB 1 7)=true):chk2 nt fs ss=(2,0,3):=by unfold chk2; rw [if_pos h]
theorem chk2_forme {nt:Nat} {fs:Fms} {ss:Sgs} (h:[(fs.length:Int)].any (outB 1 7)=false) {i:Nat} (hi:i < fs.length) (h0:∀ j,j < i→foF fs j=0) (he:foF fs i≠0):chk2 nt fs ss=(2,(i:Int),foF fs i):=by
 unfold chk2; rw [if_neg (by rw [h]; simp),firstR_at hi h0 he,if_pos he]
theorem chk2_3 {nt:Nat} {fs:Fms} {ss:Sgs} (h:[(fs.length:Int)].any (outB 1 7)=false) (h0:∀ j,j < fs.length→foF fs j=0):chk2 nt fs ss=chk3 nt fs.length ss:=by
 unfold chk2; rw [if_neg (by rw [h]; simp),firstR_no h0,if_neg (by simp)]
theorem chk3_long {nt n:Nat} {ss:Sgs} (h:ss.length > 12):chk3 nt n ss=(3,0,3):=by unfold chk3; rw [if_pos h]
theorem chk3_sight {nt n:Nat} {ss:Sgs} (h:¬ ss.length > 12) {i:Nat} (hi:i < ss.length) (h0:∀ j,j < i→siF n nt ss j=0) (he:siF n nt ss i≠0):chk3 nt n ss=(3,(i:Int),siF n nt ss i):=by
 unfold chk3; rw [if_neg h,firstR_at hi h0 he,if_pos he]
theorem chk3_ok {nt n:Nat} {ss:Sgs} (h:¬ ss.length > 12) (h0:∀ j,j < ss.length→siF n nt ss j=0):chk3 nt n ss=(0,0,0):=by
 unfold chk3; rw [if_neg h,firstR_no h0,if_neg (by simp)]
def seenB (ss:Sgs) (f t:Int):Bool:=ss.any fun s=>s.1==f&&s.2.1==t
def comB (nt:Nat) (ss:Sgs) (a b:Int):Bool:=(List.range nt).any fun t=>seenB ss a t&&seenB ss b t
abbrev comR (nt:Nat) (ss:Sgs):Rel:=fun a b=>comB nt ss a b
def rndU (c:Rel) (n r:Nat):List Nat:=(List.range r).foldl (fun o _=>joinRound c n o) (List.range n)
def rowU (c:Rel) (n:Nat) (o:List Nat) (a:Nat):List Nat:=(List.range a).foldl (joinRow c n) o
def stpU (c:Rel) (a:Nat) (o:List Nat) (b:Nat):List Nat:=(List.range b).foldl (joinStep c a) o
def labL (n:Nat) (ss:Sgs):List Nat:=(List.range n).map (lab n ss)
def firV (fs:Fms) (ss:Sgs):Int×Int:=match clashJ fs ss with
 | some (a,b)=>((a:Int),(b:Int))
 | none=>(-1,-1)
def cl2 (fs:Fms) (ss:Sgs) (i k:Nat):Bool:=lab fs.length ss i==lab fs.length ss k&&stB (fs.getD i f0) (fs.getD k f0)
open Go Go.Ab Go.Ab.Pln Go.Proofs
set_option maxHeartbeats 1000000
set_option maxRecDepth 100000
theorem names_snoc {fs:Fms} {k:Nat} (h:k < fs.length):namesF (fs.take k)++[fs[k].1]=namesF (fs.take (k+1)):=by
 rw [take_snoc h]
 show (fs.take k).map (fun f=>f.1)++[fs[k]].map (fun f=>f.1)=_
 rw [←List.map_append]
theorem c69 (gl:Gl) (f:Fm):PCalls PR gl 69 [.agg [.str f.1,vI f.2.1,vI f.2.2.1,vI f.2.2.2]] fun r=>r=vI (foN f):=by
 refine fnW_sound (par_ok gl) Tryd.func69 ?_;conv=>whnf
 refine byC (c68 gl _ _ _) op68 ?_;conv=>whnf
 apply bc9<;>intro g1_4
 ·have qg1_4:outB 0 60 f.2.1=true:=by have g:(!inB f.2.1 0 60)=true:=g1_4; rw [in_out] at g; exact g
  conv=>whnf
  rw [foN_7 (by simp only [List.any_cons,qg1_4,Bool.true_or])]
 have qg1_4:outB 0 60 f.2.1=false:=by have g:(!inB f.2.1 0 60)=false:=g1_4; rw [in_out] at g; exact g
 conv=>whnf
 refine byC (c68 gl _ _ _) op68 ?_;conv=>whnf
 apply bc9<;>intro g1_10
 ·have qg1_10:outB 0 60 f.2.2.1=true:=by have g:(!inB f.2.2.1 0 60)=true:=g1_10; rw [in_out] at g; exact g
  conv=>whnf
  rw [foN_7 (by simp only [List.any_cons,qg1_10,Bool.true_or,Bool.or_true])]
 have qg1_10:outB 0 60 f.2.2.1=false:=by have g:(!inB f.2.2.1 0 60)=false:=g1_10; rw [in_out] at g; exact g
 conv=>whnf
 refine byC (c68 gl _ _ _) op68 ?_;conv=>whnf
 apply bc9<;>intro h1
 ·have qh1:outB 0 60 f.2.2.2=true:=by have g:(!inB f.2.2.2 0 60)=true:=h1; rw [in_out] at g; exact g
  conv=>whnf
  rw [foN_7 (by simp only [List.any_cons,qh1,Bool.true_or,Bool.or_true])]
 have qh1:outB 0 60 f.2.2.2=false:=by have g:(!inB f.2.2.2 0 60)=false:=h1; rw [in_out] at g; exact g
 conv=>whnf
 apply bc9<;>intro g3_5
 ·have q:[f.2.1,f.2.2.1,f.2.2.2].any (outB 0 60)=false:=by simp only [List.any_cons,List.any_nil,qg1_4,qg1_10,qh1,Bool.or_false]
  have g:=of_decide_eq_true g3_5
  conv=>whnf
  rw [foN_2 q (by simp [outB]; omega)]
 have q:[f.2.1,f.2.2.1,f.2.2.2].any (outB 0 60)=false:=by simp only [List.any_cons,List.any_nil,qg1_4,qg1_10,qh1,Bool.or_false]
 conv=>whnf
 apply bc9<;>intro h3
 ·have g:=of_decide_eq_true h3
  conv=>whnf
  rw [foN_2 q (by simp [outB]; omega)]
 have g:=of_decide_eq_false h3
 have g2:=of_decide_eq_false g3_5
 conv=>whnf
 rw [foN_0 q (by simp [outB]; omega)]
theorem op69:Opens PR 69:=⟨_,Tryd.func69,rfl,rfl⟩
theorem c70 (gl:Gl) (ts:List ByteArray) (fs:Fms) (ss:Sgs) (hf:fs.length≤9223372036854775807) (ht:ts.length≤9223372036854775807) (hs:ss.length≤9223372036854775807) (i:Nat) (hi:i < ss.length):PCalls PR gl 70 [.agg [strsV ts,fmsV fs,sgsV ss],vI i] fun r=>r=vI (siF fs.length ts.length ss i):=by
 have w1:IntKind.i64.wrap ((fs.length:Int) - 1)=(fs.length:Int) - 1:=wrap_int (by omega) (by omega)
 have w2:IntKind.i64.wrap ((ts.length:Int) - 1)=(ts.length:Int) - 1:=wrap_int (by omega) (by omega)
 have hg:ss.getD i s0=ss[i]:=getD_at hi
 unfold siF
 rw [hg]
 refine fnW_sound (par_ok gl) Tryd.func70 ?_;conv=>whnf
 refine ⟨_,getI_nat hi,?_⟩;conv=>whnf
 refine byC (c68 gl _ _ _) op68 ?_;conv=>whnf
 apply bc9<;>intro g2_8
 ·have q1:outB 0 ((fs.length:Int) - 1) ss[i].1=true:=by have g:(!inB ss[i].1 0 (IntKind.i64.wrap ((fs.length:Int) - 1)))=true:=g2_8; rw [w1,in_out] at g; exact g
  conv=>whnf
  unfold siE
  rw [if_pos (by simp only [List.any_cons,q1,Bool.true_or])]
 have q1:outB 0 ((fs.length:Int) - 1) ss[i].1=false:=by have g:(!inB ss[i].1 0 (IntKind.i64.wrap ((fs.length:Int) - 1)))=false:=g2_8; rw [w1,in_out] at g; exact g
 conv=>whnf
 refine byC (c68 gl _ _ _) op68 ?_;conv=>whnf
 apply bc9<;>intro h2
 ·have q2:outB 0 ((ts.length:Int) - 1) ss[i].2.1=true:=by have g:(!inB ss[i].2.1 0 (IntKind.i64.wrap ((ts.length:Int) - 1)))=true:=h2; rw [w2,in_out] at g; exact g
  conv=>whnf
  unfold siE
  rw [if_pos (by simp only [List.any_cons,q2,Bool.true_or,Bool.or_true])]
 have q2:outB 0 ((ts.length:Int) - 1) ss[i].2.1=false:=by have g:(!inB ss[i].2.1 0 (IntKind.i64.wrap ((ts.length:Int) - 1)))=false:=h2; rw [w2,in_out] at g; exact g
 unfold siE
 rw [if_neg (by simp only [List.any_cons,List.any_nil,q1,q2,Bool.or_false]; decide)]
 conv=>whnf
 refine byC (c68 gl _ _ _) op68 ?_;conv=>whnf
 apply bc9<;>intro h4
 ·have q3:outB 0 2 ss[i].2.2=true:=by have g:(!inB ss[i].2.2 0 2)=true:=h4; rw [in_out] at g; exact g
  conv=>whnf
  rw [if_pos (by simp only [List.any_cons,q3,Bool.true_or])]
 have q3:outB 0 2 ss[i].2.2=false:=by have g:(!inB ss[i].2.2 0 2)=false:=h4; rw [in_out] at g; exact g
 rw [if_neg (by simp only [List.any_cons,List.any_nil,q3,Bool.or_false]; decide)]
 conv=>whnf
 refine ⟨⟨102,[],[]⟩,?_⟩
 refine LoopW_ind _ (fun k:Nat=>(({ tmps:=[J,vI i,.own 2 [],J,J,.own 5 [],vI k,J,J,J,J,J,J,J,J,J,J,J,J,J,J,J,J,J,J,J,J,J,J,J,J,J,J,J,J,J,J,J,J,J,J,J,J,J,J,J,J,J,J,J,J,J,J,J,J,J,J,J,J],seg:=[(2,.cells [strsV ts,fmsV fs,sgsV ss]),(5,.cells [vI ss[i].1,vI ss[i].2.1,vI ss[i].2.2])],up:=[] }:St S))) (fun k:Nat=>(k≤i∧∀ j,(hj:j < k)→∀ hl:j < ss.length,(ss[j].1==ss[i].1&&ss[j].2.1==ss[i].2.1)=false)) (fun k:Nat=>(i - k)) () ?_ 0 ⟨Nat.zero_le _,fun j h=>absurd h (Nat.not_lt_zero j)⟩
 intro k hinv Z1 hZ1
 obtain ⟨hk,hn⟩:=hinv
 conv=>whnf
 apply bc9<;>intro h7
 ·have hlt:k < i:=by have:=of_decide_eq_true h7; omega
  have hw:=wrap_nat (n:=k) (by omega)
  have hks:k < ss.length:=by omega
  conv=>whnf
  refine ⟨[0,1,2,3,4,5,6,7,8,9,10,11,12,13,14,15,16,17,18,19],[],[],[],⟨576460752303423487,[],[]⟩,by decide +kernel,?_⟩;conv=>whnf
  refine ⟨_,getI_nat hks,?_⟩;conv=>whnf
  apply bc9<;>intro g9_9
  ·have q4:(ss[k].1==ss[i].1)=true:=g9_9
   conv=>whnf
   refine ⟨_,getI_nat hks,?_⟩;conv=>whnf
   apply bc9<;>intro h9
   ·have q5:(ss[k].2.1==ss[i].2.1)=true:=h9
    conv=>whnf
    rw [if_pos (List.any_eq_true.2 ⟨ss[k],List.mem_take_iff_getElem.2 ⟨k,by omega,rfl⟩,by rw [q4,q5]; rfl⟩)]
   have q5:(ss[k].2.1==ss[i].2.1)=false:=h9
   conv=>whnf
   refine ⟨⟨102,[],[]⟩,?_⟩;conv=>whnf
   rw [hw]
   exact hZ1 (k+1) ⟨by omega,fun j hj hl=>by
    rcases Nat.lt_or_ge j k with h | h
    ·exact hn j h hl
    obtain rfl:j=k:=by omega
    rw [q5,Bool.and_false]⟩ (by omega)
  have q4:(ss[k].1==ss[i].1)=false:=g9_9
  conv=>whnf
  refine ⟨⟨102,[],[]⟩,?_⟩;conv=>whnf
  rw [hw]
  exact hZ1 (k+1) ⟨by omega,fun j hj hl=>by
   rcases Nat.lt_or_ge j k with h | h
   ·exact hn j h hl
   obtain rfl:j=k:=by omega
   rw [q4,Bool.false_and]⟩ (by omega)
 have hge:k=i:=by have:=of_decide_eq_false h7; omega
 conv=>whnf
 rw [if_neg (fun h=>by
  obtain ⟨y,hy,he⟩:=List.any_eq_true.1 h
  obtain ⟨j,hj,rfl⟩:=List.mem_take_iff_getElem.1 hy
  rw [hn j (by omega) (by omega)] at he; cases he)]
theorem op70:Opens PR 70:=⟨_,Tryd.func70,rfl,rfl⟩
theorem c17 (gl:Gl) (ts:List ByteArray) (fs:Fms) (ss:Sgs) (hL:LensJ ts fs ss):PCalls PR gl 17 [.agg [strsV ts,fmsV fs,sgsV ss]] fun r=>r=.tup [vI (chk ts fs ss).1,vI (chk ts fs ss).2.1,vI (chk ts fs ss).2.2]:=by
 have h1t:=hL.t
 have h1f:=hL.f
 have h1s:=hL.s
 refine fnW_sound (par_ok gl) Tryd.func17 ?_;conv=>whnf
 apply bc9<;>intro h1
 ·have h1:ts.length > 6:=by have:=of_decide_eq_true h1; omega
  conv=>whnf
  rw [chk_long h1]
 have h1:¬ ts.length > 6:=by have:=of_decide_eq_false h1; omega
 conv=>whnf
 refine ⟨⟨34,[],[]⟩,?_⟩
 refine LoopW_ind _ (fun i:Nat=>(({ tmps:=[J,.own 1 [],J,J,J,vI i,J,J,J,J,J,J,J,J,J,J,J,J,J,J,J,J,J,J,J,J,J,J,J,J,J,J,J,J,J,J,J,J,J,J,J,J,J,J,J,J,J,J,J,J,J,J,J,J,J,J,J,J,J,J,J,J,J,J,J,J,J,J,J,J,J,J,J,J,J,J,J,J,J,J,J,J,J,J,J,J,J,J,J,J,J,J,J,J,J,J],seg:=[(1,.cells [strsV ts,fmsV fs,sgsV ss])],up:=[] }:St S))) (fun i:Nat=>(i≤ts.length∧∀ j,j < i→tyF ts j=0)) (fun i:Nat=>(ts.length - i)) () ?_ 0 ⟨Nat.zero_le _,fun j h=>absurd h (Nat.not_lt_zero j)⟩
 intro i hinv Z1 hZ1
 obtain ⟨hi,hd⟩:=hinv
 conv=>whnf
 apply bc9<;>intro h4
 ·have hlt:i < ts.length:=by have:=of_decide_eq_true h4; omega
  have hw:=wrap_nat (n:=i) (by omega)
  conv=>whnf
  refine ⟨[0,1,2,3,4,5,6,7,8,9,10],[],[],[],⟨79228162514264337593543950335,[],[]⟩,by decide +kernel,?_⟩;conv=>whnf
  refine ⟨_,getI_nat hlt,?_⟩;conv=>whnf
  refine ⟨by omega,?_⟩;conv=>whnf
  refine ⟨by omega,by simp <;> omega,?_⟩;conv=>whnf
  have hty:freE ts[i] (ts.take i)=tyF ts i:=by unfold tyF; rw [getD_at hlt]; rfl
  have h67:PCalls PR gl 67 [.str ts[i],strsV (ts.take i)] fun r=>r=vI (tyF ts i):=by have h:=c67 gl ts[i] (hL.tn _ (List.getElem_mem hlt)) (ts.take i) (by rw [List.length_take]; omega); rw [hty] at h; exact h
  refine byC h67 op67 ?_;conv=>whnf
  apply bc9<;>intro h7
  ·have h7:tyF ts i≠0:=by have g:(tyF ts i != 0)=true:=h7; simpa using g
   conv=>whnf
   rw [chk_type h1 hlt hd h7]
  have h7:tyF ts i=0:=by have g:(tyF ts i != 0)=false:=h7; simpa using g
  conv=>whnf
  refine ⟨⟨34,[],[]⟩,?_⟩;conv=>whnf
  rw [hw]
  exact hZ1 (i+1) ⟨hlt,up_succ hd h7⟩ (by omega)
 have hge:i=ts.length:=by have:=of_decide_eq_false h4; omega
 have hC2:=chk_2 (fs:=fs) (ss:=ss) h1 (by rw [←hge]; exact hd)
 clear hd hi h4 hZ1
 conv=>whnf
 refine byC (c68 gl _ _ _) op68 ?_;conv=>whnf
 apply bc9<;>intro h9
 ·have h9:[(fs.length:Int)].any (outB 1 7)=true:=by have g:(!inB (fs.length:Int) 1 7)=true:=h9; rw [in_out] at g; simpa using g
  conv=>whnf
  rw [hC2,chk2_long h9]
 have h9:[(fs.length:Int)].any (outB 1 7)=false:=by have g:(!inB (fs.length:Int) 1 7)=false:=h9; rw [in_out] at g; simpa using g
 have h9n:=(out1 _ _ _).1 h9
 conv=>whnf
 refine ⟨⟨386,[],[7]⟩,?_⟩
 refine LoopW_ind _ (fun s9:Nat×List ByteArray=>match s9 with | (k,nm)=>(({ tmps:=[J,.own 1 [],J,J,J,J,J,.sl (S:=S) U.str nm (some 7),vI k,J,J,J,J,J,J,J,J,J,J,J,J,J,J,J,J,J,J,J,J,J,J,J,J,J,J,J,J,J,J,J,J,J,J,J,J,J,J,J,J,J,J,J,J,J,J,J,J,J,J,J,J,J,J,J,J,J,J,J,J,J,J,J,J,J,J,J,J,J,J,J,J,J,J,J,J,J,J,J,J,J,J,J,J,J,J,J],seg:=[(1,.cells [strsV ts,fmsV fs,sgsV ss]),(7,.row U.str false)],up:=[] }:St S))) (fun s9:Nat×List ByteArray=>match s9 with | (k,nm)=>(k≤fs.length∧nm=namesF (fs.take k)∧∀ j,j < k→foF fs j=0)) (fun s9:Nat×List ByteArray=>match s9 with | (k,nm)=>(fs.length - k)) () ?_ (0,_) ⟨Nat.zero_le _,rfl,fun j h=>absurd h (Nat.not_lt_zero j)⟩
 rintro ⟨k,nm⟩ hinv Z2 hZ2
 dsimp only at hinv hZ2
 obtain ⟨hk,hnm,hd⟩:=hinv
 conv=>whnf
 apply bc9<;>intro h13
 ·have hltk:k < fs.length:=by have:=of_decide_eq_true h13; omega
  have hwk:=wrap_nat (n:=k) (by omega)
  conv=>whnf
  refine ⟨_,getI_nat hltk,?_⟩;conv=>whnf
  have hnl:nm.length≤9223372036854775807:=by rw [hnm]; simp; omega
  refine byC (c67 gl fs[k].1 (hL.fn _ (List.getElem_mem hltk)) nm hnl) op67 ?_;conv=>whnf
  have hff:foF fs k=if freE fs[k].1 nm=0 then foN fs[k] else freE fs[k].1 nm:=by unfold foF; rw [getD_at hltk,foE_names,hnm]; rfl
  apply bc9<;>intro h16
  ·have h16:freE fs[k].1 nm=0:=by have g:(freE fs[k].1 nm==0)=true:=h16; simpa using g
   rw [if_pos h16] at hff
   conv=>whnf
   refine ⟨_,getI_nat hltk,?_⟩;conv=>whnf
   refine byC (c69 gl fs[k]) op69 ?_;conv=>whnf
   apply bc9<;>intro h18
   ·have h18:foF fs k≠0:=by have g:(foN fs[k] != 0)=true:=h18; rw [hff]; simpa using g
    conv=>whnf
    rw [hC2,chk2_forme h9 hltk hd h18,hff]
   have h18:foF fs k=0:=by have g:(foN fs[k] != 0)=false:=h18; rw [hff]; simpa using g
   conv=>whnf
   refine ⟨_,getI_nat hltk,?_⟩;conv=>whnf
   refine ⟨_,rfl,?_⟩;conv=>whnf
   refine ⟨lim (by rw [hnm]; simp; omega),?_⟩;conv=>whnf
   refine ⟨⟨386,[76,77],[]⟩,?_⟩;conv=>whnf
   rw [hwk]
   exact hZ2 (k+1,_) ⟨hltk,by rw [hnm]; exact names_snoc hltk,up_succ hd h18⟩ (by dsimp only; omega)
  have h16:freE fs[k].1 nm≠0:=by have g:(freE fs[k].1 nm==0)=false:=h16; simpa using g
  rw [if_neg h16] at hff
  conv=>whnf
  apply bc9<;>intro h18
  ·have h18:foF fs k≠0:=by rw [hff]; exact h16
   conv=>whnf
   rw [hC2,chk2_forme h9 hltk hd h18,hff]
  exfalso
  have g:(freE fs[k].1 nm != 0)=false:=h18
  exact h16 (by simpa using g)
 have hgek:k=fs.length:=by have:=of_decide_eq_false h13; omega
 have hC3:=chk2_3 (nt:=ts.length) (ss:=ss) h9 (by rw [←hgek]; exact hd)
 clear hd hk h13 hZ2
 conv=>whnf
 apply bc9<;>intro h21
 ·have h21:ss.length > 12:=by have:=of_decide_eq_true h21; omega
  conv=>whnf
  rw [hC2,hC3,chk3_long h21]
 have h21:¬ ss.length > 12:=by have:=of_decide_eq_false h21; omega
 conv=>whnf
 refine ⟨⟨1026,[7],[]⟩,?_⟩
 refine LoopW_ind _ (fun q:Nat=>(({ tmps:=[J,.own 1 [],J,J,J,J,J,J,J,J,vI q,J,J,J,J,J,J,J,J,J,J,J,J,J,J,J,J,J,J,J,J,J,J,J,J,J,J,J,J,J,J,J,J,J,J,J,J,J,J,J,J,J,J,J,J,J,J,J,J,J,J,J,J,J,J,J,J,J,J,J,J,J,J,J,J,J,J,J,J,J,J,J,J,J,J,J,J,J,J,J,J,J,J,J,J,J],seg:=[(1,.cells [strsV ts,fmsV fs,sgsV ss])],up:=[] }:St S))) (fun q:Nat=>(q≤ss.length∧∀ j,j < q→siF fs.length ts.length ss j=0)) (fun q:Nat=>(ss.length - q)) () ?_ 0 ⟨Nat.zero_le _,fun j h=>absurd h (Nat.not_lt_zero j)⟩
 intro q hinv Z3 hZ3
 obtain ⟨hq,hd⟩:=hinv
 conv=>whnf
 apply bc9<;>intro h24
 ·have hltq:q < ss.length:=by have:=of_decide_eq_true h24; omega
  have hwq:=wrap_nat (n:=q) (by omega)
  conv=>whnf
  refine byC (c70 gl ts fs ss h1f h1t h1s q hltq) op70 ?_;conv=>whnf
  apply bc9<;>intro h27
  ·have h27:siF fs.length ts.length ss q≠0:=by have g:(siF fs.length ts.length ss q != 0)=true:=h27; simpa using g
   conv=>whnf
   rw [hC2,hC3,chk3_sight h21 hltq hd h27]
  have h27:siF fs.length ts.length ss q=0:=by have g:(siF fs.length ts.length ss q != 0)=false:=h27; simpa using g
  conv=>whnf
  refine ⟨⟨1026,[],[]⟩,?_⟩;conv=>whnf
  rw [hwq]
  exact hZ3 (q+1) ⟨hltq,up_succ hd h27⟩ (by omega)
 have hgeq:q=ss.length:=by have:=of_decide_eq_false h24; omega
 conv=>whnf
 rw [hC2,hC3,chk3_ok h21 (by rw [←hgeq]; exact hd)]
theorem op17:Opens PR 17:=⟨_,Tryd.func17,rfl,rfl⟩
noncomputable abbrev parO (gl:Gl):Par S Unit:={ par gl with ow:=true }
def cndB (day look d:Int):Bool:=decide (d≥day)==(look==2)
def crkP (fs:Fms) (ss:Sgs) (t:Int) (d:Nat):Bool:=ss.all (saidB fs t d)
def crkL (fs:Fms) (ss:Sgs) (t:Int):List Nat:=(List.range 62).filter (crkP fs ss t)
theorem filt_T {p:Nat→Bool} {i:Nat} (h:p i=true):natsV ((List.range i).filter p)++[((i:Nat):Int)]=natsV ((List.range (i+1)).filter p):=by
 rw [List.range_succ,List.filter_append]; simp [natsV,h]
theorem filt_F {p:Nat→Bool} {i:Nat} (h:p i=false):(List.range i).filter p=(List.range (i+1)).filter p:=by
 rw [List.range_succ,List.filter_append]; simp [h]
abbrev gR (g:List Nat):Rel:=fun a k=>g.getD k 0==g.getD a 0
abbrev mR (t:List (List Bool)):Rel:=fun a k=>(t.getD a []).getD k false
def rowR (R:Rel) (n a:Nat):List Bool:=(List.range n).map (R a)
def tabR (R:Rel) (n:Nat):List (List Bool):=(List.range n).map (rowR R n)
def okK (G M:Rel) (l:List Nat) (n k:Nat):Bool:=!(G l.length k&&l.getD k 0 != n||M l.length k&&l.getD k 0==n)
def numU (G M:Rel) (lim m:Nat) (l:List Nat) (k:Nat):List (List Nat):=(List.range k).flatMap fun n=>if okN G M l n then numR G M lim m (l++[n]) else []
theorem Few.congr {G M G' M':Rel} {n:Nat} {x:List Nat} {u:Nat} (h:∀ i k,i < n→k < i→G i k=G' i k∧M i k=M' i k) (hf:Few G M n x u):Few G' M' n x u:=by
 refine ⟨by rw [←fewS_congr h]; exact hf.eq,?_,hf.top,hf.pos,hf.le,fun c hc K hK=>hf.least c (hc.congr fun i k hi hk=>⟨(h i k hi hk).1.symm,(h i k hi hk).2.symm⟩) K hK,by rw [←waysA_congr h]; exact hf.head,fun lim hl=>by rw [←waysA_congr h]; exact hf.none lim hl⟩
 have:(x,u)∈waysA G' M' u n:=by rw [←waysA_congr h]; exact List.mem_of_mem_head? hf.head
 exact (mem_ways.1 this).1
theorem ask_no {ts:List ByteArray} {fs:Fms} {ss:Sgs} (h:chE ts fs ss≠0):askE ts fs ss=chE ts fs ss:=by unfold askE; rw [if_pos h]
theorem ask_cl {ts:List ByteArray} {fs:Fms} {ss:Sgs} (h:chE ts fs ss=0) {p:Nat×Nat} (hJ:clashJ fs ss=some p):askE ts fs ss=9:=by unfold askE; rw [if_neg (fun h'=>h' h),hJ]; rfl
theorem ask_ok {ts:List ByteArray} {fs:Fms} {ss:Sgs} (h:chE ts fs ss=0) (hJ:clashJ fs ss=none):askE ts fs ss=0:=by unfold askE; rw [if_neg (fun h'=>h' h),hJ]; rfl
abbrev boolsV (t:List (List Bool)):AV S:=.sl (S:=S) U.bools t none
def subX (l:List Nat) (x:Sg) (k:Nat):Sgs:=((List.range k).filter fun k=>((l.getD k 0:Nat):Int)==x.1).map fun (k:Nat)=>((k:Int),x.2)
def sameC (W:List (List Nat)) (a b:Nat):Nat:=(W.filter fun x=>x.getD a 0==x.getD b 0).length


def rmA (c nt:Int) (tys:List Int) (i:Nat):Int:=if c≠0 then c else if (tys.take i).any (outB 0 (nt - 1)) then 4 else 0
def rmB (c:Int) (tys:List Int) (i:Nat):Int:=if c≠0 then c else if (List.range i).any (dupB tys) then 5 else 0
def onB (fs:Fms) (d:Int) (k:Nat):Bool:=decide (setOf fs k≤d)&&decide (d≤offOf fs k)
theorem op55:Opens PR 55:=⟨_,Tryd.func55,rfl,rfl⟩
noncomputable abbrev parE (gl:Gl):Par S Unit:={ par gl with ow:=true,hd:=true }
theorem parE_ok (gl:Gl) (En:Env Unit):ParOk PR gl (parE gl) En:={ par_ok gl En with }
theorem byL {f:FuncId} {args:List (AV S)} {sg:List (Nat×AO S)} {gl:Gl} {Q:AV S→List (Nat×AO S)→Prop} {v:AV S} {sg1:List (Nat×AO S)} (h:LCalls PR gl f args sg fun r s=>r=v∧s=sg1) (ho:Opens PR f) (hq:Q v sg1):LCalls PR gl f args sg Q∧Opens PR f :=
 ⟨fun w V l vs hs=>(h w V l vs hs).mono fun _ _ ⟨v',he,r,sg',V',l',⟨hr,hsg⟩,h2⟩=>⟨v',he,r,sg',V',l',by subst hr; subst hsg; exact hq,h2⟩,ho⟩
theorem c55L (gl:Gl) (ts:List ByteArray) (fs:Fms) (ss:Sgs) (hf:fs.length≤100) (hs:ss.length≤100) (tys:List Int) (ht:tys.length≤1000) (day days:Int) (hd:0≤day∧day≤1000) (hd2:0≤days∧days≤1000) :
  LCalls PR gl 55 [.agg [strsV ts,fmsV fs,sgsV ss],vL tys,vI day,vI days] [] fun r sg=>r=.agg [strsV ts,.sl (S:=S) U.forme (furF fs day days) (some 18),sgsV (furS fs.length ss tys)]∧sg=[(18,.row U.forme true)]:=by
 have hw0:IntKind.i64.wrap (IntKind.i64.wrap (day+days) - 1)=day+days - 1:=by rw [wrap_int (n:=day+days) (by omega) (by omega),wrap_int (by omega) (by omega)]
 refine fnL_sound (parE_ok gl) Tryd.func55 ?_;conv=>whnf
 refine ⟨?_⟩;conv=>whnf
 refine ⟨?_⟩;conv=>whnf
 refine ⟨?_⟩;conv=>whnf
 refine ⟨Pln.lim (show fs.length≤1000000000 by omega),true,?_⟩;conv=>whnf
 refine ⟨_,rfl,?_⟩;conv=>whnf
 refine ⟨Pln.lim (by show fs.length+1≤_; omega),?_⟩;conv=>whnf
 refine ⟨?_⟩;conv=>whnf
 refine ⟨Pln.lim (show ss.length≤1000000000 by omega),false,?_⟩;conv=>whnf
 refine ⟨?_⟩;conv=>whnf
 refine ⟨⟨3858,[26,1008,2008,3008],[1008,2008,3008]⟩,?_⟩
 refine LoopW_ind _ (fun s9:Nat×Fms×Sgs=>match s9 with | (i,F,G)=>(({ tmps:=[J,vL tys,J,J,.own 4 [],J,J,J,.own 8 [],vI fs.length,.sl (S:=S) U.sight G (some 32),vI i,J,J,J,J,J,J,J,J,J,J,J,J,J,J,J,J,J,J,J,J,J,J,J,J,J,J,J,J,J,J,J,J,J,J,J,J,J,J,J],seg:=[(4,.cells [strsV ts,.sl (S:=S) U.forme F (some 18),sgsV ss]),(8,.cells [strsV [],fmsV [],sgsV []]),(18,.row U.forme true),(32,.row U.sight false)],up:=[] }:St S))) (fun s9:Nat×Fms×Sgs=>match s9 with | (i,F,G)=>(i≤tys.length∧F=(furF fs day days)∧G=(ss++(tys.take i).map fun t=>((fs.length:Int),t,(0:Int))))) (fun s9:Nat×Fms×Sgs=>match s9 with | (i,F,G)=>(tys.length - i)) () ?_ (0,fs++[(b0,day,day,IntKind.i64.wrap (IntKind.i64.wrap (day+days) - 1))],ss) ⟨Nat.zero_le _,(by rw [hw0]; rfl),(List.append_nil ss).symm⟩
 rintro ⟨i,F,G⟩ hinv Z1 hZ1
 dsimp only at hinv hZ1
 obtain ⟨hi,hF,hG⟩:=hinv
 conv=>whnf
 refine ⟨?_⟩;conv=>whnf
 apply bc9<;>intro h5
 ·have hlt:i < tys.length:=by have:=of_decide_eq_true h5; omega
  have hw:=wrap_nat (n:=i) (by omega)
  conv=>whnf
  refine ⟨?_⟩;conv=>whnf
  refine ⟨_,getI_nat hlt,?_⟩;conv=>whnf
  refine ⟨_,rfl,?_⟩;conv=>whnf
  refine ⟨Pln.lim (by rw [hG]; simp; omega),?_⟩;conv=>whnf
  refine ⟨?_⟩;conv=>whnf
  refine ⟨⟨3858,[46,47],[]⟩,?_⟩;conv=>whnf
  rw [hw]
  exact hZ1 (i+1,F,_) ⟨hlt,hF,by rw [hG,take_snoc hlt,List.map_append,←List.append_assoc]; rfl⟩ (by dsimp only; omega)
 have hge:i=tys.length:=by have:=of_decide_eq_false h5; omega
 rw [hge,List.take_length] at hG
 subst hF hG
 conv=>whnf
 refine ⟨?_⟩;conv=>whnf
 refine ⟨?_⟩;conv=>whnf
 refine ⟨⟨1,[4,8,32],[]⟩,?_⟩;conv=>whnf
 exact ⟨rfl,rfl⟩
theorem job3 (ts:List ByteArray) (fs:Fms) (ss:Sgs):(∃ e,e≠0∧chE ts fs ss=e∧fewR ts fs ss=([],0,e))∨(chE ts fs ss=0∧∃ a b,clashJ fs ss=some (a,b)∧fewR ts fs ss=([],0,9)) ∨
  (chE ts fs ss=0∧clashJ fs ss=none∧∃ x u,Skel fs ss x u∧fewR ts fs ss=(natsV x,(u:Int),0)):=by
 by_cases hk:chE ts fs ss=0
 ·right
  rcases hJ:clashJ fs ss with _ | ⟨a,b⟩
  ·right
   have hv:=(chk_valid.1 hk).job
   obtain ⟨x,u,hsk⟩:=skel_of hv.n0 hv.n8 hv.s6 hJ
   exact ⟨hk,rfl,x,u,hsk,by unfold fewR; rw [if_neg (fun h=>h (ask_ok hk hJ)),hsk.eq]⟩
  left
  exact ⟨hk,a,b,rfl,by unfold fewR; rw [ask_cl hk hJ,if_pos (by decide)]⟩
 exact .inl ⟨_,hk,rfl,by unfold fewR; rw [ask_no hk,if_pos hk]⟩
structure ShareF (fs:Fms) (ss:Sgs) (x:List Nat) (a b:Nat) (v:Int):Prop where
 lo:0≤v
 hi:v≤2
 same:lab fs.length ss a=lab fs.length ss b→v=1
 never:stN fs a b=true→v=2
 eq:v=1→x.getD a 0=x.getD b 0
 ne:v=2→x.getD a 0≠x.getD b 0
theorem mod_byte {a:Int} (ha:0≤a∧a≤255) (n:Nat):(IntKind.i64.wrap a).tmod (n:Int)=((a.toNat % n:Nat):Int):=by
 rw [wrap_int (by omega) (by omega)]
 obtain ⟨k,rfl⟩:∃ k:Nat,a=k:=⟨a.toNat,by omega⟩
 rw [Int.tmod_eq_emod_of_nonneg (by omega)]; rfl
def maxU (f:Nat→Nat):Nat→Nat
 | 0=>0
 | t+1=>max (maxU f t) (f t)
def prC (fs:Fms) (t:Nat):Nat:=(onP (onOf fs) (offOf fs) fs.length t).length
def prU (fs:Fms) (t i:Nat):Nat:=(onP (onOf fs) (offOf fs) i t).length
structure SiOk (n nt:Nat) (ss:Sgs):Prop where
 each:∀ s∈ss,0≤s.1∧s.1 < n∧0≤s.2.1∧s.2.1 < nt∧0≤s.2.2∧s.2.2≤2
 two:ss.Pairwise fun a b=>¬ (a.1=b.1∧a.2.1=b.2.1)
theorem si_ok {n nt:Nat} {ss:Sgs} (h:SiOk n nt ss) {i:Nat} (hi:i < ss.length):siF n nt ss i=0:=by
 obtain ⟨h1,h2,h3,h4,h5,h6⟩:=h.each _ (List.getElem_mem hi)
 unfold siF siE
 rw [getD_at hi,if_neg,if_neg,if_neg]
 ·rw [List.any_eq_true]
  rintro ⟨y,hy,he⟩
  obtain ⟨j,hj,rfl⟩:=List.mem_take_iff_getElem.1 hy
  rw [Bool.and_eq_true,beq_iff_eq,beq_iff_eq] at he
  exact List.pairwise_iff_getElem.1 h.two j i (by omega) hi (by omega) he
 ·rw [Bool.not_eq_true]; exact (out1 _ _ _).2 ⟨h5,h6⟩
 rw [Bool.not_eq_true,Bool.or_eq_false_iff]; exact ⟨(out1 _ _ _).2 (by omega),(out1 _ _ _).2 (by omega)⟩
theorem Valid.ok {ts:List ByteArray} {fs:Fms} {ss:Sgs} (v:Valid ts fs ss):SiOk fs.length ts.length ss:=by
 refine ⟨fun s hs=>?_,List.pairwise_iff_getElem.2 fun i j hi hj hij he=>?_⟩
 ·obtain ⟨i,hi,rfl⟩:=List.getElem_of_mem hs
  obtain ⟨h1,h2,h3,h4,h5,h6,_⟩:=v.sight hi
  exact ⟨h1,h2,h3,h4,h5,h6⟩
 exact (v.sight hj).2.2.2.2.2.2 i hij he.1 he.2
theorem Valid.with {ts:List ByteArray} {fs:Fms} {ss ss':Sgs} (v:Valid ts fs ss) (h:SiOk fs.length ts.length ss') (hl:ss'.length≤12):Valid ts fs ss' :=
 ⟨v.t6,v.tn,v.n1,v.n7,v.fo,hl,fun _ hi=>si_ok h hi⟩
theorem SiOk.sub {n nt:Nat} {ss ss':Sgs} (h:SiOk n nt ss) (hs:ss'.Sublist ss):SiOk n nt ss':=⟨fun s hm=>h.each s (hs.subset hm),h.two.sublist hs⟩
theorem pick_sublist (ss:Sgs) (p:Nat→Bool):(pickS ss p).Sublist ss:=by
 unfold pickS pickU
 have h:(List.range ss.length).map (fun i=>ss.getD i s0)=ss:=by
  apply List.ext_getElem
  ·simp
  intro i h1 h2; rw [List.getElem_map,List.getElem_range,getD_at h2]
 conv=>rhs; rw [←h]
 exact List.Sublist.map _ List.filter_sublist
theorem Valid.pick {ts:List ByteArray} {fs:Fms} {ss:Sgs} (v:Valid ts fs ss) (p:Nat→Bool):Valid ts fs (pickS ss p) :=
 v.with (v.ok.sub (pick_sublist ss p)) (Nat.le_trans (pick_sublist ss p).length_le v.s12)
def okC (fs:Fms) (ss:Sgs) (t:Nat):Bool:=decide ((crackS fs ss t).1≤(crackS fs ss t).2)
theorem bitR {b i:Nat} (hi:i < 64):((shrI .i64 (b:Int) (i:Int)).tmod 2==1)=b.testBit i:=by
 rw [shr_nat hi,Nat.testBit_eq_decide_div_mod_eq]
 generalize b / 2 ^ i=q
 rw [Int.tmod_eq_emod_of_nonneg (Int.natCast_nonneg q),Bool.eq_iff_iff,beq_iff_eq,decide_eq_true_eq]
 omega
def dropI (l:List Nat) (i:Nat):List Nat:=l.take i++l.drop (i+1)
structure ProofF (ts:List ByteArray) (fs:Fms) (ss:Sgs) (u:Nat) (p:List Nat):Prop where
 asc:Asc 0 fs.length p
 len:u≤p.length
 ne:p≠[]
 many:∃ y,Skel (subF fs p) (subR ss p) y u
 less:∀ i,i < p.length→1 < p.length→∃ y w,Skel (subF fs (dropI p i)) (subR ss (dropI p i)) y w∧w < u
def tnI (x:List Int) (i:Nat):Int:=if x.length=0 then 0 else x.getD (i % x.length) 0
def tnN (x:List Int) (i:Nat):Nat:=(tnI x i).toNat
def badP (fs:Fms) (ss:Sgs) (c:Nat→Nat) (a b:Nat):Bool:=(lab fs.length ss a==lab fs.length ss b&&!(c a==c b))||(stN fs a b&&c a==c b)
theorem seen_more {ss ss':Sgs} (h:∀ s∈ss,s∈ss') {f t:Nat} (hs:seenP ss f t):seenP ss' f t:=by
 obtain ⟨s,h1,h2⟩:=hs
 exact ⟨s,h s h1,h2⟩
theorem com_more {ss ss':Sgs} (h:∀ s∈ss,s∈ss') {a b:Nat} (hc:comP ss a b):comP ss' a b:=by
 obtain ⟨t,h1,h2⟩:=hc
 exact ⟨t,seen_more h h1,seen_more h h2⟩
structure MoreF (ts:List ByteArray) (fs:Fms) (ss:Sgs) (s:Sg):Prop where
 valid:Valid ts fs ss
 types:0 < ts.length
 same:∀ a b,a < fs.length→b < fs.length→lab fs.length ss a=lab fs.length ss b→lab fs.length (ss++[s]) a=lab fs.length (ss++[s]) b
 free:clashJ fs (ss++[s])=none→clashJ fs ss=none
 few:∀ {x u y w},Skel fs ss x u→Skel fs (ss++[s]) y w→u≤w
def nmK (k:Nat):ByteArray:=⟨⟨List.replicate (k+1) 97⟩⟩
theorem nmK_size (k:Nat):(nmK k).size=k+1:=List.length_replicate
theorem nmK_succ (k:Nat):nmK k++(⟨#[97]⟩:ByteArray)=nmK (k+1):=by
 apply ByteArray.ext
 rw [ByteArray.data_append]
 apply Array.ext'
 rw [Array.toList_append]
 exact (List.replicate_succ' (n:=k+1) (a:=(97:UInt8))).symm
def hasK (N:List ByteArray) (k:Nat):Bool:=N.any fun x=>strEq x (nmK k)
theorem strEq_size {x y:ByteArray} (h:strEq x y=true):x.size=y.size:=by
 have:=congrArg List.length (eq_of_beq (show (x.toList==y.toList)=true from h))
 rw [ByteArray.toList_eq,ByteArray.toList_eq] at this
 exact this
theorem nm_free (N:List ByteArray) {k:Nat} (h:∀ j,j < k→hasK N j=true):k≤N.length:=by
 have h1:((List.range k).map (·+1)).length≤(N.map ByteArray.size).length:=nodup_sub_len (by
  unfold List.Nodup
  rw [List.pairwise_map]
  exact (List.nodup_range (n:=k)).imp fun h e=>h (by omega)) fun a ha=>by
   obtain ⟨j,hj,rfl⟩:=List.mem_map.1 ha
   obtain ⟨x,hx,he⟩:=List.any_eq_true.1 (h j (List.mem_range.1 hj))
   exact List.mem_map.2 ⟨x,hx,by rw [strEq_size he,nmK_size]⟩
 simpa using h1
def nmI (N:List ByteArray):Nat:=((List.range (N.length+1)).find? fun k=>!hasK N k).getD 0
theorem nmI_is {N:List ByteArray} {k:Nat} (h:∀ j,j < k→hasK N j=true) (hn:hasK N k=false):nmI N=k:=by
 have hk:=nm_free N h
 have hf:((List.range (N.length+1)).find? fun k=>!hasK N k)=some k:=find_range.2 ⟨by omega,by rw [hn]; rfl,fun j hj=>by rw [h j hj]; rfl⟩
 unfold nmI
 rw [hf]; rfl
theorem nmI_spec (N:List ByteArray):hasK N (nmI N)=false∧nmI N≤N.length:=by
 cases hf:(List.range (N.length+1)).find? fun k=>!hasK N k with
 | some k =>
  obtain ⟨h1,h2,_⟩:=find_range.1 hf
  unfold nmI
  rw [hf]
  exact ⟨by simpa using h2,by show k≤_; omega⟩
 | none =>
  exfalso
  have:=nm_free N (k:=N.length+1) fun j hj=>by
   have:=List.find?_eq_none.1 hf j (List.mem_range.2 hj)
   simpa using this
  omega
def nmsF (F:Fms):List ByteArray:=(F.take (F.length - 1)).map Prod.fst
def nameF (F:Fms):Fms:=F.set (F.length - 1) (nmK (nmI (nmsF F)),(F.getD (F.length - 1) f0).2)
theorem nameF_len (F:Fms):(nameF F).length=F.length:=List.length_set
theorem nameF_snoc (fs:Fms) (x:Fm):nameF (fs++[x])=fs++[(nmK (nmI (fs.map Prod.fst)),x.2)]:=by
 unfold nameF nmsF
 have e:(fs++[x]).length - 1=fs.length:=by rw [List.length_append]; simp
 rw [e,List.take_left,List.set_append_right _ _ (Nat.le_refl _),Nat.sub_self]
 have g:(fs++[x]).getD fs.length f0=x:=by rw [List.getD_eq_getElem?_getD,List.getElem?_append_right (Nat.le_refl _),Nat.sub_self]; rfl
 rw [g]; rfl
def addF (fs:Fms) (day days:Int):Fms:=fs++[(nmK (nmI (fs.map Prod.fst)),day,day,day+days - 1)]
theorem name_fur (fs:Fms) (day days:Int):nameF (furF fs day days)=addF fs day days:=nameF_snoc fs _
theorem addF_len (fs:Fms) (day days:Int):(addF fs day days).length=fs.length+1:=by unfold addF; rw [List.length_append]; rfl
theorem addF_get (fs:Fms) (day days:Int) (i:Nat):((addF fs day days).getD i f0).2=((furF fs day days).getD i f0).2:=by
 unfold addF furF
 rcases Nat.lt_or_ge i fs.length with h | h
 ·rw [List.getD_eq_getElem?_getD,List.getD_eq_getElem?_getD,List.getElem?_append_left h,List.getElem?_append_left h]
 rw [List.getD_eq_getElem?_getD,List.getD_eq_getElem?_getD,List.getElem?_append_right h,List.getElem?_append_right h]
 cases hh:i - fs.length with
 | zero=>rfl
 | succ n=>rfl
theorem addF_st (fs:Fms) (day days:Int) (i k:Nat):stN (addF fs day days) i k=stN (furF fs day days) i k:=by
 unfold stN stB
 rw [addF_get,addF_get]
theorem addF_old (fs:Fms) (day days:Int) {i:Nat} (h:i < fs.length):(addF fs day days).getD i f0=fs.getD i f0:=by
 unfold addF
 rw [List.getD_eq_getElem?_getD,List.getElem?_append_left h,←List.getD_eq_getElem?_getD]
theorem nmK_ok {k:Nat} (h:k≤6):nameB (nmK k)=true:=by
 match k,h with
 | 0,_ | 1,_ | 2,_ | 3,_ | 4,_ | 5,_ | 6,_=>decide
section
variable {ts:List ByteArray} {fs:Fms} {ss:Sgs} {tys:List Int} {days:Int} {d:Nat}
theorem fur_si (v:Valid ts fs ss) (ht:∀ t∈tys,0≤t∧t < ts.length) (hn:tys.Nodup):SiOk (fs.length+1) ts.length (furS fs.length ss tys):=by
 have ho:=v.ok
 refine ⟨fun s hs=>?_,?_⟩
 ·rcases List.mem_append.1 hs with h | h
  ·have:=ho.each s h; omega
  obtain ⟨t,h1,rfl⟩:=List.mem_map.1 h
  have:=ht t h1
  simp only
  omega
 unfold furS
 rw [List.pairwise_append]
 refine ⟨ho.two,?_,fun a ha b hb=>?_⟩
 ·rw [List.pairwise_map]
  exact hn.imp fun h e=>h e.2
 obtain ⟨t,_,rfl⟩:=List.mem_map.1 hb
 have:=ho.each a ha
 rintro ⟨e,_⟩
 simp only at e
 omega
theorem add_valid (v:Valid ts fs ss) (h7:fs.length < 7) (h12:ss.length+tys.length≤12) (ht:∀ t∈tys,0≤t∧t < ts.length) (hn:tys.Nodup) (hd:1≤days) (hd2:(d:Int)+days≤61):Valid ts (addF fs d days) (furS fs.length ss tys):=by
 have hsp:=nmI_spec (fs.map Prod.fst)
 rw [List.length_map] at hsp
 refine ⟨v.t6,v.tn,by rw [addF_len]; omega,by rw [addF_len]; omega,fun i hi=>?_,by unfold furS; rw [List.length_append,List.length_map]; exact h12,fun i hi=>by rw [addF_len]; exact si_ok (fur_si v ht hn) hi⟩
 rw [addF_len] at hi
 rcases Nat.lt_succ_iff_lt_or_eq.1 hi with h | h
 ·have:=v.fo i h
  unfold foF at this ⊢
  rw [addF_old fs d days h]
  have e:(addF fs d days).take i=fs.take i:=by unfold addF; rw [List.take_append_of_le_length (by omega)]
  rw [e]; exact this
 subst h
 unfold foF foE
 have e:(addF fs d days).take fs.length=fs:=by unfold addF; rw [List.take_left]
 have g:(addF fs d days).getD fs.length f0=(nmK (nmI (fs.map Prod.fst)),(d:Int),(d:Int),(d:Int)+days - 1):=by
  unfold addF
  rw [List.getD_eq_getElem?_getD,List.getElem?_append_right (Nat.le_refl _),Nat.sub_self]; rfl
 rw [e,g,if_neg (by rw [nmK_ok (by omega)]; simp),if_neg,if_neg,if_neg]
 ·rw [Bool.not_eq_true]; exact (out1 _ _ _).2 ⟨Int.le_refl _,by show (d:Int)≤(d:Int)+days - 1; omega⟩
 ·rw [Bool.not_eq_true]
  show (outB 0 60 (d:Int)||(outB 0 60 (d:Int)||(outB 0 60 ((d:Int)+days - 1)||false)))=false
  have o:∀ x:Int,0≤x→x≤60→outB 0 60 x=false:=fun x h1 h2=>by
   have:=(out1 x 0 60).2 ⟨h1,h2⟩
   simpa using this
  rw [o _ (by omega) (by omega),o _ (by omega) (by omega)]; rfl
 rw [Bool.not_eq_true]
 have:=hsp.1
 unfold hasK at this
 rwa [List.any_map] at this
theorem add_clash:clashJ (addF fs d days) (furS fs.length ss tys)=clashJ (furF fs d days) (furS fs.length ss tys):=by
 unfold clashJ
 rw [addF_len,furF_len,show stN (addF fs d days)=stN (furF fs d days) from funext fun i=>funext fun k=>addF_st ..]
theorem add_room (v:Valid ts fs ss) (hJ:clashJ fs ss=none) (h7:fs.length < 7) (h12:ss.length+tys.length≤12) (ht:∀ t∈tys,0≤t∧t < ts.length) (hn:tys.Nodup) (hd:1≤days) (hd2:(d:Int)+days≤61) :
  (roomD fs ss tys days d=true→askE ts (addF fs d days) (furS fs.length ss tys)=0∧manyJ (addF fs d days) (furS fs.length ss tys)=manyJ fs ss) ∧
  (roomD fs ss tys days d=false→askE ts (addF fs d days) (furS fs.length ss tys)=9∨(askE ts (addF fs d days) (furS fs.length ss tys)=0∧manyJ fs ss < manyJ (addF fs d days) (furS fs.length ss tys))):=by
 have v':=add_valid (d:=d) v h7 h12 ht hn hd hd2
 have hv:=v.job
 have hv':=v'.job
 have hcl:=add_clash (fs:=fs) (ss:=ss) (tys:=tys) (days:=days) (d:=d)
 have hask:askE ts (addF fs d days) (furS fs.length ss tys)=if (clashJ (addF fs d days) (furS fs.length ss tys)).isSome then 9 else 0:=by
  unfold askE; rw [if_neg fun q=>q (chk_valid.2 v')]
 rw [hask]
 unfold roomD
 rw [←hcl]
 cases hc:clashJ (addF fs d days) (furS fs.length ss tys) with
 | some p=>simp
 | none =>
  obtain ⟨x,u,hx⟩:=skel_of hv.n0 hv.n8 hv.s6 hJ
  obtain ⟨y,w,hy⟩:=skel_of (by rw [addF_len]; omega) hv'.n8 hv'.s6 hc
  have hm:manyJ fs ss=u:=by unfold manyJ; rw [hx.eq]
  have hm':manyJ (addF fs d days) (furS fs.length ss tys)=w:=by unfold manyJ; rw [hy.eq]
  have hle:u≤w:=by
   refine hx.least (fun i=>y.getD i 0) ⟨fun i k hi hk hcm=>?_,fun i k hi hk hst=>?_⟩ w fun i hi=>hy.lt i (by rw [addF_len]; omega)
   ·exact hy.fits.same i k (by rw [addF_len]; omega) (by rw [addF_len]; omega) (com_more (fun s hs=>List.mem_append_left _ hs) hcm)
   refine hy.fits.diff i k (by rw [addF_len]; omega) (by rw [addF_len]; omega) ?_
   unfold stN at hst ⊢
   rw [addF_old fs d days hi,addF_old fs d days hk]; exact hst
  have hway:(waysA (grpB (fs.length+1) (furS fs.length ss tys)) (stN (furF fs d days)) u (fs.length+1)).isEmpty=decide (u < w):=by
   have e:waysA (grpB (fs.length+1) (furS fs.length ss tys)) (stN (furF fs d days)) u (fs.length+1)=waysA (grpB (addF fs d days).length (furS fs.length ss tys)) (stN (addF fs d days)) u (addF fs d days).length:=by
    rw [addF_len,show stN (addF fs d days)=stN (furF fs d days) from funext fun i=>funext fun k=>addF_st ..]
   rw [e]
   by_cases hlt:u < w
   ·rw [hy.few.none u hlt,decide_eq_true hlt]; rfl
   have huw:u=w:=by omega
   have h9:=hy.few.head
   rw [←huw] at h9
   rw [decide_eq_false hlt]
   cases hw:waysA (grpB (addF fs d days).length (furS fs.length ss tys)) (stN (addF fs d days)) u (addF fs d days).length with
   | nil=>rw [hw] at h9; cases h9
   | cons _ _=>rfl
  rw [hm,hm',hway]
  by_cases hlt:u < w
  ·simp [hlt]
  have huw:u=w:=by omega
  simp [huw]
end
theorem c54L (gl:Gl) (ts:List ByteArray) (F:Fms) (ss:Sgs) (h1:1≤F.length) (hf:F.length≤1000) :
  LCalls PR gl 54 [.agg [strsV ts,.sl (S:=S) U.forme F (some 1000018),sgsV ss]] [(1000018,.row U.forme true)] fun r sg=>r=.agg [strsV ts,.sl (S:=S) U.forme (nameF F) (some 1000018),sgsV ss]∧sg=[(1000018,.row U.forme true)]:=by
 refine fnL_sound (parE_ok gl) Tryd.func54 ?_;conv=>whnf
 refine ⟨?_⟩;conv=>whnf
 refine ⟨?_⟩;conv=>whnf
 refine ⟨?_⟩;conv=>whnf
 refine ⟨⟨30,[1002,2002,3002],[3,1002,2002,3002]⟩,?_⟩
 refine LoopW_ind _ (fun i:Nat=>(({ tmps:=[J,.own 1 [],.own 2 [],.sl (S:=S) U.str ((F.take i).map Prod.fst) (some 3),vI i,J,J,J,J,J,J,J,J,J,J,J,J,J,J,J,J,J,J,J,J,J,J,J,J,J,J,J,J,J,J,J,J,J,J,J,J,J],seg:=[(1,.cells [strsV ts,.sl (S:=S) U.forme F (some 1000018),sgsV ss]),(2,.cells [strsV [],fmsV [],sgsV []]),(3,.row U.str false),(1000018,.row U.forme true)],up:=[] }:St S))) (fun i:Nat=>(i+1≤F.length)) (fun i:Nat=>(F.length - i)) () ?_ 0 h1
 intro i hi Z1 hZ1
 conv=>whnf
 refine ⟨?_⟩;conv=>whnf
 apply bc9<;>intro h3
 ·have hlt:i+1 < F.length:=by have g:decide (IntKind.i64.wrap ((i:Int)+1) < (F.length:Int))=true:=h3; rw [show IntKind.i64.wrap ((i:Int)+1)=((i+1:Nat):Int) from wrap_nat (by omega)] at g; have:=of_decide_eq_true g; omega
  have hli:i < F.length:=by omega
  have hw:=wrap_nat (n:=i) (by omega)
  conv=>whnf
  refine ⟨?_⟩;conv=>whnf
  refine ⟨true,⟨_,getI_nat hli,?_⟩⟩;conv=>whnf
  refine ⟨_,getI_nat hli,?_⟩;conv=>whnf
  refine ⟨_,rfl,?_⟩;conv=>whnf
  refine ⟨Pln.lim (by show ((F.take i).map Prod.fst).length+1≤_; rw [List.length_map,List.length_take]; omega),?_⟩;conv=>whnf
  refine ⟨?_⟩;conv=>whnf
  refine ⟨⟨30,[22,23],[]⟩,?_⟩;conv=>whnf
  rw [hw]
  have hz:=hZ1 (i+1) hlt (by omega)
  rw [take_succ' hli,List.map_append] at hz
  exact hz
 have hge:i=F.length - 1:=by have g:decide (IntKind.i64.wrap ((i:Int)+1) < (F.length:Int))=false:=h3; rw [show IntKind.i64.wrap ((i:Int)+1)=((i+1:Nat):Int) from wrap_nat (by omega)] at g; have:=of_decide_eq_false g; omega
 obtain ⟨N,hN⟩:∃ N,N=(F.take i).map Prod.fst:=⟨_,rfl⟩
 rw [←hN]
 have hNl:N.length≤1000:=by rw [hN,List.length_map,List.length_take]; omega
 conv=>whnf
 refine ⟨?_⟩;conv=>whnf
 refine ⟨⟨46,[],[]⟩,?_⟩
 refine LoopW_ind _ (fun k:Nat=>(({ tmps:=[J,.own 1 [],.own 2 [],.sl (S:=S) U.str N (some 3),J,.str (nmK k),J,J,J,J,J,J,J,J,J,J,J,J,J,J,J,J,J,J,J,J,J,J,J,J,J,J,J,J,J,J,J,J,J,J,J,J],seg:=[(1,.cells [strsV ts,.sl (S:=S) U.forme F (some 1000018),sgsV ss]),(2,.cells [strsV [],fmsV [],sgsV []]),(3,.row U.str false),(1000018,.row U.forme true)],up:=[] }:St S))) (fun k:Nat=>(∀ j,j < k→hasK N j=true)) (fun k:Nat=>(N.length+1 - k)) () ?_ 0 (fun j h=>absurd h (Nat.not_lt_zero j))
 intro k hk Z2 hZ2
 conv=>whnf
 refine ⟨?_⟩;conv=>whnf
 refine byC (c101 gl N (by omega) (nmK k)) op101 ?_;conv=>whnf
 apply bc9<;>intro h7
 ·have h7t:hasK N k=true:=by have g:decide (idx (fun x=>strEq x (nmK k)) N 0≥0)=true:=h7; rw [idx_any] at g; exact g
  have hkn:=nm_free N (up_succ hk h7t)
  conv=>whnf
  refine ⟨?_⟩;conv=>whnf
  refine ⟨by rw [nmK_size]; show k+1+1≤_; omega,?_⟩;conv=>whnf
  refine ⟨⟨46,[],[]⟩,?_⟩;conv=>whnf
  rw [nmK_succ]
  exact hZ2 (k+1) (up_succ hk h7t) (by omega)
 have h7f:hasK N k=false:=by have g:decide (idx (fun x=>strEq x (nmK k)) N 0≥0)=false:=h7; rw [idx_any] at g; exact g
 have hki:=nmI_is hk h7f
 have hwn:IntKind.i64.wrap ((F.length:Int) - 1)=((F.length - 1:Nat):Int):=by rw [wrap_int (by omega) (by omega)]; omega
 have hl1:F.length - 1 < F.length:=by omega
 conv=>whnf
 refine ⟨?_⟩;conv=>whnf
 rw [hwn]
 conv=>whnf
 refine ⟨true,⟨_,getI_nat hl1,?_⟩⟩;conv=>whnf
 refine ⟨?_⟩;conv=>whnf
 refine ⟨_,getI_nat hl1,?_⟩;conv=>whnf
 refine ⟨_,rfl,?_⟩;conv=>whnf
 refine ⟨?_⟩;conv=>whnf
 refine ⟨⟨1,[1,2,3],[]⟩,?_⟩;conv=>whnf
 have e1:(F.take (F.length - 1)).map Prod.fst=N:=by rw [hN,hge]
 have hset:nameF F=F.set (F.length - 1) (nmK k,(F[F.length - 1]).2):=by unfold nameF nmsF; rw [e1,hki,getD_at hl1]
 rw [hset]
 exact ⟨rfl,rfl⟩
def tysB (B n:Nat):List Int:=natsV ((List.range n).filter B.testBit)
theorem tysB_lt {B n:Nat} {t:Int} (h:t∈tysB B n):0≤t∧t < n:=by
 unfold tysB natsV at h
 obtain ⟨k,hk,rfl⟩:=List.mem_map.1 h
 have:=List.mem_range.1 (List.mem_filter.1 hk).1
 constructor <;> omega
theorem tysB_nodup (B n:Nat):(tysB B n).Nodup:=by
 unfold tysB natsV List.Nodup
 rw [List.pairwise_map]
 refine List.Pairwise.imp ?_ (List.Pairwise.sublist List.filter_sublist (List.pairwise_lt_range (n:=n)))
 intro a b h e
 omega
theorem tysB_len (B n:Nat):(tysB B n).length≤n:=by
 unfold tysB natsV
 rw [List.length_map]
 have:=List.length_filter_le B.testBit (List.range n)
 simpa using this
theorem nodup_take {l:List Int} (h:l.Nodup) {i:Nat} (hi:i < l.length):((l.take i).any fun x=>x==l.getD i 0)=false:=by
 cases hc:(l.take i).any fun x=>x==l.getD i 0 with
 | false=>rfl
 | true =>
  exfalso
  obtain ⟨x,hx,he⟩:=List.any_eq_true.1 hc
  obtain ⟨j,hj,rfl⟩:=List.getElem_of_mem hx
  rw [List.length_take] at hj
  rw [List.getElem_take,getD_at hi] at he
  have:=eq_of_beq he
  have h2:=(List.pairwise_iff_getElem.1 h) j i (by omega) hi (by omega)
  exact h2 this
section
variable {ts:List ByteArray} {fs:Fms} {ss:Sgs} {tys:List Int} {days:Int} {d:Nat}
theorem room_ask (hk:chE ts fs ss=0) (ht:∀ t∈tys,0≤t∧t < ts.length) (hn:tys.Nodup) (hd:1≤days∧days≤60):roomE ts fs ss tys days=askE ts fs ss:=by
 unfold roomE
 rw [if_neg (fun h=>h hk),if_neg,if_neg,if_neg]
 ·rw [Bool.not_eq_true]; exact (out1 _ _ _).2 hd
 ·rw [Bool.not_eq_true,List.any_eq_false]
  intro i hi
  rw [Bool.not_eq_true]
  exact nodup_take hn (List.mem_range.1 hi)
 rw [Bool.not_eq_true,List.any_eq_false]
 intro t h
 have:=ht t h
 simp [outB]
 omega
theorem rAsk_ok (hk:chE ts fs ss=0) (hJ:clashJ fs ss=none):askE ts fs ss=0:=by unfold askE; rw [if_neg (fun h=>h hk),hJ]; rfl
theorem rAsk_cl {p:Nat×Nat} (hk:chE ts fs ss=0) (hJ:clashJ fs ss=some p):askE ts fs ss=9:=by unfold askE; rw [if_neg (fun h=>h hk),hJ]; rfl
theorem room_bad (hk:chE ts fs ss≠0):roomR ts fs ss tys days=(0,chE ts fs ss):=roomR_err (by unfold roomE; rw [if_pos hk]) hk
theorem room_cl {p:Nat×Nat} (hk:chE ts fs ss=0) (hJ:clashJ fs ss=some p) (ht:∀ t∈tys,0≤t∧t < ts.length) (hn:tys.Nodup) (hd:1≤days∧days≤60):roomR ts fs ss tys days=(0,9) :=
 roomR_err ((room_ask hk ht hn hd).trans (rAsk_cl hk hJ)) (by decide)
theorem room_two (hk:chE ts fs ss=0) (hJ:clashJ fs ss=none) (ht:∀ t∈tys,0≤t∧t < ts.length) (hn:tys.Nodup) (hd:1≤days∧days≤60) :
  (∃ d:Nat,(d:Int)+days≤61∧roomR ts fs ss tys days=((d:Int),0)∧roomD fs ss tys days d=true∧∀ e,e < d→roomD fs ss tys days e=false) ∨
  (roomR ts fs ss tys days=(0,9)∧∀ e:Nat,(e:Int)+days≤61→roomD fs ss tys days e=false):=by
 have h0:=(room_ask hk ht hn hd).trans (rAsk_ok hk hJ)
 cases hf:(List.range (62 - days.toNat)).find? (roomD fs ss tys days) with
 | some d =>
  obtain ⟨h1,h2,h3⟩:=find_range.1 hf
  exact .inl ⟨d,by omega,roomR_day h0 h1 h2 h3,h2,h3⟩
 | none =>
  have h4:∀ e,e < 62 - days.toNat→roomD fs ss tys days e=false:=fun e he=>by
   have:=List.find?_eq_none.1 hf e (List.mem_range.2 he)
   simpa using this
  exact .inr ⟨roomR_none h0 h4,fun e he=>h4 e (by omega)⟩
theorem few_0 (h:askE ts fs ss=0):fewR ts fs ss=(natsV (skelJ fs ss).1,(manyJ fs ss:Int),0):=by unfold fewR; rw [if_neg (fun q=>q h)]; rfl
theorem few_9 (h:askE ts fs ss=9):fewR ts fs ss=([],0,9):=by unfold fewR; rw [h,if_pos (by decide)]
theorem add_yes (v:Valid ts fs ss) (hJ:clashJ fs ss=none) (h7:fs.length < 7) (h12:ss.length+tys.length≤12) (ht:∀ t∈tys,0≤t∧t < ts.length) (hn:tys.Nodup) (hd:1≤days) (hd2:(d:Int)+days≤61) (hr:roomD fs ss tys days d=true) :
  ∃ L,fewR ts (addF fs d days) (furS fs.length ss tys)=(L,(manyJ fs ss:Int),0):=by
 obtain ⟨h1,h2⟩:=(add_room v hJ h7 h12 ht hn hd hd2).1 hr
 exact ⟨_,by rw [few_0 h1,h2]⟩
theorem add_no (v:Valid ts fs ss) (hJ:clashJ fs ss=none) (h7:fs.length < 7) (h12:ss.length+tys.length≤12) (ht:∀ t∈tys,0≤t∧t < ts.length) (hn:tys.Nodup) (hd:1≤days) (hd2:(d:Int)+days≤61) (hr:roomD fs ss tys days d=false) :
  (∃ L,fewR ts (addF fs d days) (furS fs.length ss tys)=(L,0,9))∨∃ L n,fewR ts (addF fs d days) (furS fs.length ss tys)=(L,((n:Nat):Int),0)∧manyJ fs ss < n:=by
 rcases (add_room v hJ h7 h12 ht hn hd hd2).2 hr with h | ⟨h,h2⟩
 ·exact .inl ⟨_,few_9 h⟩
 exact .inr ⟨_,_,few_0 h,h2⟩
end
theorem c41 (gl:Gl) (ts:List ByteArray) (fs:Fms) (ss:Sgs) (hL:LensJ ts fs ss):PCalls PR gl 41 [.agg [strsV ts,fmsV fs,sgsV ss]] fun r=>r=vB (chE ts fs ss==0):=by
 refine fnW_sound (par_ok gl) Tryd.func41 ?_;conv=>whnf
 refine byC (c17 gl ts fs ss hL) op17 ?_;conv=>whnf
theorem op41:Opens PR 41:=⟨_,Tryd.func41,rfl,rfl⟩
theorem c41t (gl:Gl) (ts:List ByteArray) (fs:Fms) (ss:Sgs) (hL:LensJ ts fs ss) (h:chE ts fs ss=0):PCalls PR gl 41 [jobV ts fs ss] fun r=>r=vB true:=by
 have hc:=c41 gl ts fs ss hL
 rw [show (chE ts fs ss==0)=true by rw [h]; rfl] at hc
 exact hc
theorem c41f (gl:Gl) (ts:List ByteArray) (fs:Fms) (ss:Sgs) (hL:LensJ ts fs ss) (h:chE ts fs ss≠0):PCalls PR gl 41 [jobV ts fs ss] fun r=>r=vB false:=by
 have hc:=c41 gl ts fs ss hL
 rw [show (chE ts fs ss==0)=false by simpa using h] at hc
 exact hc





noncomputable abbrev parZ (gl:Gl):Par S Unit:={ par gl with hd:=true,loc:=fun f=>Nat.beq f 54||(Nat.beq f 55||locB f),lend:=fun f=>Nat.beq f 54||Nat.beq f 55 }
theorem parZ_ok (gl:Gl) (En:Env Unit):ParOk PR gl (parZ gl) En:={ par_ok gl En with }
theorem op54:Opens PR 54:=⟨_,Tryd.func54,rfl,rfl⟩
theorem tysB_T {B i:Nat} (h:B.testBit i=true):tysB B i++[((i:Nat):Int)]=tysB B (i+1):=filt_T h
theorem tysB_F {B i:Nat} (h:B.testBit i=false):tysB B i=tysB B (i+1):=by unfold tysB; rw [filt_F h]
theorem lens_add {ts:List ByteArray} {fs:Fms} {ss:Sgs} (h:LensJ ts fs ss) (v:Valid ts fs ss) (d:Nat) (days:Int) {T:List Int} (hT:ss.length+T.length≤12):LensJ ts (nameF (furF fs d days)) (furS fs.length ss T):=by
 have h7:=v.n7
 have hsp:=(nmI_spec (fs.map Prod.fst)).2
 rw [List.length_map] at hsp
 refine ⟨h.t,by rw [nameF_len,furF_len]; omega,by unfold furS; rw [List.length_append,List.length_map]; omega,h.tn,fun x hx=>?_⟩
 rw [name_fur] at hx
 rcases List.mem_append.1 hx with hx | hx
 ·exact h.fn x hx
 rw [List.mem_singleton] at hx; subst hx; show (nmK _).size≤_; rw [nmK_size]; omega
theorem room4 (ts:List ByteArray) (fs:Fms) (ss:Sgs) {T:List Int} {days:Int} (hTn:T.Nodup) (ht:∀ t∈T,0≤t∧t < ts.length) (hd:1≤days∧days≤60):(∃ e,e≠0∧chE ts fs ss=e)∨(chE ts fs ss=0∧fewR ts fs ss=([],0,9)∧roomR ts fs ss T days=(0,9)) ∨
  (chE ts fs ss=0∧clashJ fs ss=none∧∃ L u,manyJ fs ss=u∧fewR ts fs ss=(L,(u:Int),0)∧∃ d:Nat,(d:Int)+days≤61∧roomR ts fs ss T days=((d:Int),0)∧roomD fs ss T days d=true∧∀ e,e < d→roomD fs ss T days e=false) ∨
  (chE ts fs ss=0∧clashJ fs ss=none∧∃ L u,manyJ fs ss=u∧fewR ts fs ss=(L,(u:Int),0)∧roomR ts fs ss T days=(0,9)∧∀ e:Nat,(e:Int)+days≤61→roomD fs ss T days e=false):=by
 rcases job3 ts fs ss with ⟨e,he0,hk,hR⟩ | ⟨hk,p,q,hJ,hR⟩ | ⟨hk,hJ,x,u,hsk,hR⟩
 ·exact .inl ⟨e,he0,hk⟩
 ·exact .inr (.inl ⟨hk,hR,room_cl hk hJ ht hTn hd⟩)
 have h0:=few_0 (rAsk_ok hk hJ)
 rcases room_two hk hJ ht hTn hd with ⟨d,h1,h2,h3,h4⟩ | ⟨h1,h2⟩
 ·exact .inr (.inr (.inl ⟨hk,hJ,_,_,rfl,h0,d,h1,h2,h3,h4⟩))
 exact .inr (.inr (.inr ⟨hk,hJ,_,_,rfl,h0,h1,h2⟩))
theorem c14 (ts:List ByteArray) (fs:List Fm) (ss:List Sg) (hL:LensJ ts fs ss) (bits:Int) (hbits:0≤bits∧bits≤255) (a b:Int) (ha:0≤a∧a≤255) (hb:0≤b∧b≤255):PCalls PR glT 14 [.agg [strsV ts,fmsV fs,sgsV ss],.int .u8 bits,.agg [.arr (S:=S) U.u8 2 [a,b]]] fun r=>r=vB true:=by
 have hm60:(IntKind.i64.wrap a).tmod 60=((a.toNat % 60:Nat):Int):=mod_byte ha 60
 have hl60:a.toNat % 60 < 60:=Nat.mod_lt _ (by decide)
 obtain ⟨days,hdd⟩:∃ days:Int,days=1+((a.toNat % 60:Nat):Int):=⟨_,rfl⟩
 have hd60:1≤days∧days≤60:=by omega
 have hdw:IntKind.i64.wrap (1+(IntKind.i64.wrap a).tmod 60)=days:=by rw [hm60,wrap_int (by omega) (by omega)]; omega
 have hlast:IntKind.i64.wrap (IntKind.i64.wrap (60 - days)+1)=61 - days:=by rw [wrap_int (n:=60 - days) (by omega) (by omega),wrap_int (by omega) (by omega)]; omega
 have hwb:IntKind.i64.wrap bits=((bits.toNat:Nat):Int):=by rw [wrap_int (by omega) (by omega)]; omega
 generalize bits.toNat=B at hwb
 obtain ⟨T,hT⟩:∃ T,T=tysB B ts.length:=⟨_,rfl⟩
 have hTlt:∀ t∈T,0≤t∧t < ts.length:=fun t h=>tysB_lt (by rw [←hT]; exact h)
 have hTn:T.Nodup:=by rw [hT]; exact tysB_nodup B ts.length
 have hTl:T.length≤ts.length:=by rw [hT]; exact tysB_len B ts.length
 refine fnW_sound (parZ_ok glT) Tryd.func14 ?_;conv=>whnf
 refine ⟨?_⟩;conv=>whnf
 refine ⟨?_⟩;conv=>whnf
 rcases room4 ts fs ss hTn hTlt hd60 with ⟨e,he0,hk⟩ | ⟨hk,hR,hM⟩ | ⟨hk,hJ,L,u,hu,hR,d,hd61,hM,hD,hN⟩ | ⟨hk,hJ,L,u,hu,hR,hM,hN⟩
 ·have h41:=c41f glT ts fs ss hL (by rw [hk]; exact he0)
  have h34:=c34 ts fs ss hL [] (by decide) 1
  rw [room_bad (by rw [hk]; exact he0),hk] at h34
  refine byC h41 op41 ?_;conv=>whnf
  refine ⟨?_⟩;conv=>whnf
  refine byC h34 op34 ?_;conv=>whnf
  refine ⟨?_⟩;conv=>whnf
  apply bc9<;>intro g3_2
  ·conv=>whnf
   refine byC ((c27)) op27 ?_;conv=>whnf
   first | done | rfl
  exfalso
  have g:(e != 0)=false:=g3_2
  exact he0 (by simpa using g)
 ·have hV:=chk_valid.1 hk
  have ht6:=hV.t6
  have hf7:=hV.n7
  have hs12:=hV.s12
  have hf1:=hV.n1
  have h41:=c41t glT ts fs ss hL hk
  have h28:=c28 ts fs ss hL
  rw [hR] at h28
  have h34:=c34 ts fs ss hL T (by omega) days
  rw [hM] at h34
  refine byC h41 op41 ?_;conv=>whnf
  refine ⟨?_⟩;conv=>whnf
  refine ⟨?_⟩;conv=>whnf
  refine ⟨⟨1578,[],[9]⟩,?_⟩
  refine LoopW_ind _ (fun i:Nat=>(({ tmps:=[J,.int .u8 bits,J,.own 3 [],J,.own 5 [],J,J,J,.sl (S:=S) U.int (tysB B i) (some 9),vI i,J,J,J,J,J,J,J,J,J,J,J,J,J,J,J,J,J,J,J,J,J,J,J,J,J,J,J,J,J,J,J,J,J,J,J,J,J,J,J,J,J,J,J,J,J,J,J,J,J,J,J,J,J,J,J,J,J,J,J,J,J,J,J,J,J,J,J,J,J,J,J,J,J,J,J,J,J,J,J,J,J,J,J,J,J,J,J,J,J,J,J,J,J,J,J,J,J,J,J,J,J,J,J,J,J,J,J,J,J,J,J,J,J,J,J,J,J,J,J,J,J,J,J,J,J,J,J,J,J,J,J,J,J,J,J,J,J,J,J,J,J,J,J,J,J,J,J,J,J,J,J,J,J,J,J,J,J,J,J,J,J,J,J,J,J,J,J,J,J,J],seg:=[(3,.cells [strsV ts,fmsV fs,sgsV ss]),(5,.cells [.arr (S:=S) U.u8 2 [a,b]]),(9,.row U.int false)],up:=[] }:St S))) (fun i:Nat=>(i≤ts.length)) (fun i:Nat=>(ts.length - i)) () ?_ 0 (Nat.zero_le _)
  intro i hi Z1 hZ1
  conv=>whnf
  refine ⟨?_⟩;conv=>whnf
  apply bc9<;>intro h6
  ·have hlt:i < ts.length:=by have:=of_decide_eq_true h6; omega
   have hw:=wrap_nat (n:=i) (by omega)
   conv=>whnf
   refine ⟨?_⟩;conv=>whnf
   refine ⟨by omega,?_⟩;conv=>whnf
   refine ⟨by decide,?_⟩;conv=>whnf
   apply bc9<;>intro h8
   ·have q:B.testBit i=true:=by have g:((shrI .i64 (IntKind.i64.wrap bits) (i:Int)).tmod 2==1)=true:=h8; rw [hwb,bitR (by omega)] at g; exact g
    conv=>whnf
    refine ⟨?_⟩;conv=>whnf
    refine ⟨_,rfl,?_⟩;conv=>whnf
    have hfl:=tysB_len B i
    refine ⟨Pln.lim (by show (tysB B i).length+1≤_; omega),?_⟩;conv=>whnf
    refine ⟨?_⟩;conv=>whnf
    refine ⟨⟨1578,[53,54],[]⟩,?_⟩;conv=>whnf
    rw [hw,tysB_T q]
    exact hZ1 (i+1) hlt (by omega)
   have q:B.testBit i=false:=by have g:((shrI .i64 (IntKind.i64.wrap bits) (i:Int)).tmod 2==1)=false:=h8; rw [hwb,bitR (by omega)] at g; exact g
   conv=>whnf
   refine ⟨?_⟩;conv=>whnf
   refine ⟨⟨1578,[53,54],[]⟩,?_⟩;conv=>whnf
   rw [hw,tysB_F q]
   exact hZ1 (i+1) hlt (by omega)
  have hge:i=ts.length:=by have:=of_decide_eq_false h6; omega
  subst hge
  rw [←hT]
  conv=>whnf
  refine ⟨?_⟩;conv=>whnf
  refine ⟨by omega,by omega,?_⟩;conv=>whnf
  refine ⟨_,rfl,?_⟩;conv=>whnf
  refine ⟨by decide,?_⟩;conv=>whnf
  refine ⟨?_⟩;conv=>whnf
  rw [hdw]
  refine byC h34 op34 ?_;conv=>whnf
  refine ⟨?_⟩;conv=>whnf
  refine byC h28 op28 ?_;conv=>whnf
  refine ⟨?_⟩;conv=>whnf
  refine ⟨?_⟩;conv=>whnf
  refine byC ((c27)) op27 ?_;conv=>whnf
  first | done | rfl
 ·have hV:=chk_valid.1 hk
  have ht6:=hV.t6
  have hf7:=hV.n7
  have hs12:=hV.s12
  have hf1:=hV.n1
  have h41:=c41t glT ts fs ss hL hk
  have h28:=c28 ts fs ss hL
  rw [hR] at h28
  have h34:=c34 ts fs ss hL T (by omega) days
  rw [hM] at h34
  refine byC h41 op41 ?_;conv=>whnf
  refine ⟨?_⟩;conv=>whnf
  refine ⟨?_⟩;conv=>whnf
  refine ⟨⟨1578,[],[9]⟩,?_⟩
  refine LoopW_ind _ (fun i:Nat=>(({ tmps:=[J,.int .u8 bits,J,.own 3 [],J,.own 5 [],J,J,J,.sl (S:=S) U.int (tysB B i) (some 9),vI i,J,J,J,J,J,J,J,J,J,J,J,J,J,J,J,J,J,J,J,J,J,J,J,J,J,J,J,J,J,J,J,J,J,J,J,J,J,J,J,J,J,J,J,J,J,J,J,J,J,J,J,J,J,J,J,J,J,J,J,J,J,J,J,J,J,J,J,J,J,J,J,J,J,J,J,J,J,J,J,J,J,J,J,J,J,J,J,J,J,J,J,J,J,J,J,J,J,J,J,J,J,J,J,J,J,J,J,J,J,J,J,J,J,J,J,J,J,J,J,J,J,J,J,J,J,J,J,J,J,J,J,J,J,J,J,J,J,J,J,J,J,J,J,J,J,J,J,J,J,J,J,J,J,J,J,J,J,J,J,J,J,J,J,J,J,J,J,J,J,J],seg:=[(3,.cells [strsV ts,fmsV fs,sgsV ss]),(5,.cells [.arr (S:=S) U.u8 2 [a,b]]),(9,.row U.int false)],up:=[] }:St S))) (fun i:Nat=>(i≤ts.length)) (fun i:Nat=>(ts.length - i)) () ?_ 0 (Nat.zero_le _)
  intro i hi Z1 hZ1
  conv=>whnf
  refine ⟨?_⟩;conv=>whnf
  apply bc9<;>intro h6
  ·have hlt:i < ts.length:=by have:=of_decide_eq_true h6; omega
   have hw:=wrap_nat (n:=i) (by omega)
   conv=>whnf
   refine ⟨?_⟩;conv=>whnf
   refine ⟨by omega,?_⟩;conv=>whnf
   refine ⟨by decide,?_⟩;conv=>whnf
   apply bc9<;>intro h8
   ·have q:B.testBit i=true:=by have g:((shrI .i64 (IntKind.i64.wrap bits) (i:Int)).tmod 2==1)=true:=h8; rw [hwb,bitR (by omega)] at g; exact g
    conv=>whnf
    refine ⟨?_⟩;conv=>whnf
    refine ⟨_,rfl,?_⟩;conv=>whnf
    have hfl:=tysB_len B i
    refine ⟨Pln.lim (by show (tysB B i).length+1≤_; omega),?_⟩;conv=>whnf
    refine ⟨?_⟩;conv=>whnf
    refine ⟨⟨1578,[53,54],[]⟩,?_⟩;conv=>whnf
    rw [hw,tysB_T q]
    exact hZ1 (i+1) hlt (by omega)
   have q:B.testBit i=false:=by have g:((shrI .i64 (IntKind.i64.wrap bits) (i:Int)).tmod 2==1)=false:=h8; rw [hwb,bitR (by omega)] at g; exact g
   conv=>whnf
   refine ⟨?_⟩;conv=>whnf
   refine ⟨⟨1578,[53,54],[]⟩,?_⟩;conv=>whnf
   rw [hw,tysB_F q]
   exact hZ1 (i+1) hlt (by omega)
  have hge:i=ts.length:=by have:=of_decide_eq_false h6; omega
  subst hge
  rw [←hT]
  conv=>whnf
  refine ⟨?_⟩;conv=>whnf
  refine ⟨by omega,by omega,?_⟩;conv=>whnf
  refine ⟨_,rfl,?_⟩;conv=>whnf
  refine ⟨by decide,?_⟩;conv=>whnf
  refine ⟨?_⟩;conv=>whnf
  rw [hdw]
  refine byC h34 op34 ?_;conv=>whnf
  refine ⟨?_⟩;conv=>whnf
  refine byC h28 op28 ?_;conv=>whnf
  refine ⟨?_⟩;conv=>whnf
  refine ⟨?_⟩;conv=>whnf
  apply bc9<;>intro g15_4
  ·conv=>whnf
   refine ⟨?_⟩;conv=>whnf
   refine byC ((c27)) op27 ?_;conv=>whnf
   first | done | rfl
  have hf6:fs.length < 7:=by
   have g:(((fs.length:Nat):Int)==((7:Nat):Int))=false:=g15_4
   rw [eqN] at g
   have g2:fs.length≠7:=by simpa using g
   omega
  conv=>whnf
  apply bc9<;>intro h15
  ·conv=>whnf
   refine ⟨?_⟩;conv=>whnf
   refine byC ((c27)) op27 ?_;conv=>whnf
   first | done | rfl
  have hsT:ss.length+T.length≤12:=by have g:decide (IntKind.i64.wrap (((ss.length:Nat):Int)+((T.length:Nat):Int)) > 12)=false:=h15; rw [wrap_int (by omega) (by omega)] at g; have g:=of_decide_eq_false g; omega
  conv=>whnf
  refine ⟨?_⟩;conv=>whnf
  refine ⟨?_⟩;conv=>whnf
  refine ⟨?_⟩;conv=>whnf
  refine ⟨[(2000018,18)],[9],?_⟩;conv=>whnf
  refine byL (c55L glT ts fs ss (by omega) (by omega) T (by omega) d days (by omega) (by omega)) op55 ?_;conv=>whnf
  refine ⟨[(2000018,1000018)],[],?_⟩;conv=>whnf
  refine byL (c54L glT ts (furF fs (d:Nat) days) (furS fs.length ss T) (by rw [furF_len]; omega) (by rw [furF_len]; omega)) op54 ?_;conv=>whnf
  refine ⟨?_⟩;conv=>whnf
  obtain ⟨L2,hF⟩:=add_yes hV hJ hf6 hsT hTlt hTn hd60.1 hd61 hD
  rw [←name_fur,hu] at hF
  have hLn:=lens_add hL hV d days (T:=T) (by omega)
  have h28n:=c28 ts (nameF (furF fs (d:Nat) days)) (furS fs.length ss T) hLn
  rw [hF] at h28n
  refine byC h28n op28 ?_;conv=>whnf
  refine ⟨?_⟩;conv=>whnf
  apply bc9<;>intro g21_7
  ·exfalso
   have g:decide ((d:Int) > IntKind.i64.wrap (IntKind.i64.wrap (60 - days)+1))=true:=g21_7; rw [hlast] at g; have g:=of_decide_eq_true g; omega
  conv=>whnf
  apply bc9<;>intro h21
  ·exfalso
   have g:((u:Int) != (u:Int))=true:=h21
   simp at g
  conv=>whnf
  refine ⟨?_⟩;conv=>whnf
  refine ⟨?_⟩;conv=>whnf
  apply bc9<;>intro h26
  ·conv=>whnf
   refine ⟨?_⟩;conv=>whnf
   refine byC ((c27)) op27 ?_;conv=>whnf
   first | done | rfl
  have hd1:1≤d:=by have g:decide (IntKind.i64.wrap ((d:Int) - 1) < 0)=false:=h26; rw [wrap_int (by omega) (by omega)] at g; have g:=of_decide_eq_false g; omega
  obtain ⟨m,hm⟩:∃ m:Nat,m=d:=⟨_,rfl⟩
  have hmod:IntKind.i64.wrap (IntKind.i64.wrap ((d:Int) - 1)+1)=(m:Int):=by rw [wrap_int (n:=(d:Int) - 1) (by omega) (by omega),wrap_int (by omega) (by omega)]; omega
  have hz:IntKind.i64.wrap (IntKind.i64.wrap ((d:Int) - 1)+1)≠0:=by rw [hmod]; omega
  have hmM:(IntKind.i64.wrap b).tmod (IntKind.i64.wrap (IntKind.i64.wrap ((d:Int) - 1)+1))=((b.toNat % m:Nat):Int):=by rw [hmod]; exact mod_byte hb m
  have hml:b.toNat % m < m:=Nat.mod_lt _ (by omega)
  generalize b.toNat % m=k at hmM hml
  have hno:=add_no hV hJ hf6 hsT hTlt hTn hd60.1 (show (k:Int)+days≤61 by omega) (hN k (by omega))
  conv=>whnf
  refine ⟨[0,1,2,3,4,5,6,7,8,9,10,11,12,13,14,15,16,17,18],[9,10,11],[],[],⟨3064991081731777716716694054300618367237478244367204351,[],[]⟩,by decide +kernel,?_⟩;conv=>whnf
  refine ⟨by omega,by omega,?_⟩;conv=>whnf
  refine ⟨_,rfl,?_⟩;conv=>whnf
  refine ⟨hz,?_⟩;conv=>whnf
  rw [hmM]
  refine ⟨[(3000018,18)],[],?_⟩;conv=>whnf
  refine byL (c55L glT ts fs ss (by omega) (by omega) T (by omega) k days (by omega) (by omega)) op55 ?_;conv=>whnf
  refine ⟨[(3000018,1000018)],[],?_⟩;conv=>whnf
  refine byL (c54L glT ts (furF fs (k:Nat) days) (furS fs.length ss T) (by rw [furF_len]; omega) (by rw [furF_len]; omega)) op54 ?_;conv=>whnf
  have hLn:=lens_add hL hV k days (T:=T) (by omega)
  have h28n:=c28 ts (nameF (furF fs (k:Nat) days)) (furS fs.length ss T) hLn
  rcases hno with ⟨L2,hF⟩ | ⟨L2,n,hF,hun⟩
  all_goals rw [←name_fur] at hF
  all_goals rw [hF] at h28n
  all_goals refine byC h28n op28 ?_
  ·conv=>whnf
   refine ⟨?_⟩;conv=>whnf
   refine byC ((c27)) op27 ?_;conv=>whnf
   first | done | rfl
  conv=>whnf
  refine ⟨?_⟩;conv=>whnf
  apply bc9<;>intro g29_11
  ·conv=>whnf
   refine byC ((c27)) op27 ?_;conv=>whnf
   first | done | rfl
  exfalso
  have g:decide ((n:Int) > (u:Int))=false:=g29_11
  have g:=of_decide_eq_false g
  omega
 have hV:=chk_valid.1 hk
 have ht6:=hV.t6
 have hf7:=hV.n7
 have hs12:=hV.s12
 have hf1:=hV.n1
 have h41:=c41t glT ts fs ss hL hk
 have h28:=c28 ts fs ss hL
 rw [hR] at h28
 have h34:=c34 ts fs ss hL T (by omega) days
 rw [hM] at h34
 refine byC h41 op41 ?_;conv=>whnf
 refine ⟨?_⟩;conv=>whnf
 refine ⟨?_⟩;conv=>whnf
 refine ⟨⟨1578,[],[9]⟩,?_⟩
 refine LoopW_ind _ (fun i:Nat=>(({ tmps:=[J,.int .u8 bits,J,.own 3 [],J,.own 5 [],J,J,J,.sl (S:=S) U.int (tysB B i) (some 9),vI i,J,J,J,J,J,J,J,J,J,J,J,J,J,J,J,J,J,J,J,J,J,J,J,J,J,J,J,J,J,J,J,J,J,J,J,J,J,J,J,J,J,J,J,J,J,J,J,J,J,J,J,J,J,J,J,J,J,J,J,J,J,J,J,J,J,J,J,J,J,J,J,J,J,J,J,J,J,J,J,J,J,J,J,J,J,J,J,J,J,J,J,J,J,J,J,J,J,J,J,J,J,J,J,J,J,J,J,J,J,J,J,J,J,J,J,J,J,J,J,J,J,J,J,J,J,J,J,J,J,J,J,J,J,J,J,J,J,J,J,J,J,J,J,J,J,J,J,J,J,J,J,J,J,J,J,J,J,J,J,J,J,J,J,J,J,J,J,J,J,J],seg:=[(3,.cells [strsV ts,fmsV fs,sgsV ss]),(5,.cells [.arr (S:=S) U.u8 2 [a,b]]),(9,.row U.int false)],up:=[] }:St S))) (fun i:Nat=>(i≤ts.length)) (fun i:Nat=>(ts.length - i)) () ?_ 0 (Nat.zero_le _)
 intro i hi Z1 hZ1
 conv=>whnf
 refine ⟨?_⟩;conv=>whnf
 apply bc9<;>intro h6
 ·have hlt:i < ts.length:=by have:=of_decide_eq_true h6; omega
  have hw:=wrap_nat (n:=i) (by omega)
  conv=>whnf
  refine ⟨?_⟩;conv=>whnf
  refine ⟨by omega,?_⟩;conv=>whnf
  refine ⟨by decide,?_⟩;conv=>whnf
  apply bc9<;>intro h8
  ·have q:B.testBit i=true:=by have g:((shrI .i64 (IntKind.i64.wrap bits) (i:Int)).tmod 2==1)=true:=h8; rw [hwb,bitR (by omega)] at g; exact g
   conv=>whnf
   refine ⟨?_⟩;conv=>whnf
   refine ⟨_,rfl,?_⟩;conv=>whnf
   have hfl:=tysB_len B i
   refine ⟨Pln.lim (by show (tysB B i).length+1≤_; omega),?_⟩;conv=>whnf
   refine ⟨?_⟩;conv=>whnf
   refine ⟨⟨1578,[53,54],[]⟩,?_⟩;conv=>whnf
   rw [hw,tysB_T q]
   exact hZ1 (i+1) hlt (by omega)
  have q:B.testBit i=false:=by have g:((shrI .i64 (IntKind.i64.wrap bits) (i:Int)).tmod 2==1)=false:=h8; rw [hwb,bitR (by omega)] at g; exact g
  conv=>whnf
  refine ⟨?_⟩;conv=>whnf
  refine ⟨⟨1578,[53,54],[]⟩,?_⟩;conv=>whnf
  rw [hw,tysB_F q]
  exact hZ1 (i+1) hlt (by omega)
 have hge:i=ts.length:=by have:=of_decide_eq_false h6; omega
 subst hge
 rw [←hT]
 conv=>whnf
 refine ⟨?_⟩;conv=>whnf
 refine ⟨by omega,by omega,?_⟩;conv=>whnf
 refine ⟨_,rfl,?_⟩;conv=>whnf
 refine ⟨by decide,?_⟩;conv=>whnf
 refine ⟨?_⟩;conv=>whnf
 rw [hdw]
 refine byC h34 op34 ?_;conv=>whnf
 refine ⟨?_⟩;conv=>whnf
 refine byC h28 op28 ?_;conv=>whnf
 refine ⟨?_⟩;conv=>whnf
 refine ⟨?_⟩;conv=>whnf
 apply bc9<;>intro g15_4
 ·conv=>whnf
  refine ⟨?_⟩;conv=>whnf
  refine byC ((c27)) op27 ?_;conv=>whnf
  first | done | rfl
 have hf6:fs.length < 7:=by
  have g:(((fs.length:Nat):Int)==((7:Nat):Int))=false:=g15_4
  rw [eqN] at g
  have g2:fs.length≠7:=by simpa using g
  omega
 conv=>whnf
 apply bc9<;>intro h15
 ·conv=>whnf
  refine ⟨?_⟩;conv=>whnf
  refine byC ((c27)) op27 ?_;conv=>whnf
  first | done | rfl
 have hsT:ss.length+T.length≤12:=by have g:decide (IntKind.i64.wrap (((ss.length:Nat):Int)+((T.length:Nat):Int)) > 12)=false:=h15; rw [wrap_int (by omega) (by omega)] at g; have g:=of_decide_eq_false g; omega
 conv=>whnf
 refine ⟨?_⟩;conv=>whnf
 refine ⟨?_⟩;conv=>whnf
 refine ⟨?_⟩;conv=>whnf
 refine ⟨?_⟩;conv=>whnf
 apply bc9<;>intro h26
 ·exfalso
  have g:decide (IntKind.i64.wrap (IntKind.i64.wrap (60 - days)+1) < 0)=true:=h26; rw [hlast] at g; have g:=of_decide_eq_true g; omega
 obtain ⟨m,hm⟩:∃ m:Nat,m=(62 - days).toNat:=⟨_,rfl⟩
 have hmod:IntKind.i64.wrap (IntKind.i64.wrap (IntKind.i64.wrap (60 - days)+1)+1)=(m:Int):=by rw [hlast,wrap_int (by omega) (by omega)]; omega
 have hz:IntKind.i64.wrap (IntKind.i64.wrap (IntKind.i64.wrap (60 - days)+1)+1)≠0:=by rw [hmod]; omega
 have hmM:(IntKind.i64.wrap b).tmod (IntKind.i64.wrap (IntKind.i64.wrap (IntKind.i64.wrap (60 - days)+1)+1))=((b.toNat % m:Nat):Int):=by rw [hmod]; exact mod_byte hb m
 have hml:b.toNat % m < m:=Nat.mod_lt _ (by omega)
 generalize b.toNat % m=k at hmM hml
 have hno:=add_no hV hJ hf6 hsT hTlt hTn hd60.1 (show (k:Int)+days≤61 by omega) (hN k (by omega))
 conv=>whnf
 refine ⟨[0,1,2,3,4,5,6,7,8,9,10,11,12,13,14,15,16,17,18],[9,10,11],[],[],⟨3064991081731777716716694054300618367237478244367204351,[],[]⟩,by decide +kernel,?_⟩;conv=>whnf
 refine ⟨by omega,by omega,?_⟩;conv=>whnf
 refine ⟨_,rfl,?_⟩;conv=>whnf
 refine ⟨hz,?_⟩;conv=>whnf
 rw [hmM]
 refine ⟨[(3000018,18)],[9],?_⟩;conv=>whnf
 refine byL (c55L glT ts fs ss (by omega) (by omega) T (by omega) k days (by omega) (by omega)) op55 ?_;conv=>whnf
 refine ⟨[(3000018,1000018)],[],?_⟩;conv=>whnf
 refine byL (c54L glT ts (furF fs (k:Nat) days) (furS fs.length ss T) (by rw [furF_len]; omega) (by rw [furF_len]; omega)) op54 ?_;conv=>whnf
 have hLn:=lens_add hL hV k days (T:=T) (by omega)
 have h28n:=c28 ts (nameF (furF fs (k:Nat) days)) (furS fs.length ss T) hLn
 rcases hno with ⟨L2,hF⟩ | ⟨L2,n,hF,hun⟩
 all_goals rw [←name_fur] at hF
 all_goals rw [hF] at h28n
 all_goals refine byC h28n op28 ?_
 ·conv=>whnf
  refine ⟨?_⟩;conv=>whnf
  refine byC ((c27)) op27 ?_;conv=>whnf
  first | done | rfl
 conv=>whnf
 refine ⟨?_⟩;conv=>whnf
 apply bc9<;>intro g29_11
 ·conv=>whnf
  refine byC ((c27)) op27 ?_;conv=>whnf
  first | done | rfl
 exfalso
 have g:decide ((n:Int) > (u:Int))=false:=g29_11
 have g:=of_decide_eq_false g
 omega
open Go Go.Ab Go.Proofs Go.Proofs.YtfhippofplmpdaaDoor Go.ChangeShapes Go.WideShapes Go.ChangeAt Go.RowKit
theorem post_same {H:Type} {enc:TypeId×Value→H} {P:Program} {f:Func} {s:ChangeSpec} {apart fresh handsOn again:Bool} {W W':World} {args:Array Value} {v:Value} {ds gs:List (DataW H)} {before pa pv:List MemPlace}
  (hW:DataW.Whole enc P f.params.toList s.vars apart W args.toList ds gs before)
  (hres:∀ (b:Nat) (sp:Nat→Bool) (hd:Bool),DataW.TrodAll enc P W' b sp hd f.resultTypes.toList (v.resultList f.resultTypes.size) (s.fn H (ds++gs)).results [])
  (hargs:∀ sp:Nat→Bool,(∀ p∈before,sp p.block=true)→DataW.TrodAll enc P W' 0 sp true f.params.toList args.toList (s.fn H (ds++gs)).args pa)
  (hvars:∀ sp:Nat→Bool,(∀ p∈before,sp p.block=true)→DataW.TrodVars enc P W' sp s.vars (s.fn H (ds++gs)).vars pv)
  (hps:before=pa++pv) (hk:W.keptBut W' (·∈before)) (hfz:∀ a,a.block < W.heap.size→W'.frozen? a=W.frozen? a)
  (hok:∀ (j:Nat) (t:TypeId) (r:Value),f.resultTypes[j]?=some t→(v.resultList f.resultTypes.size)[j]?=some r→Value.okWide P W' .any 0 t r) :
  s.post enc P f apart fresh handsOn again W args v W':=by
 have hlt:=hW.lt
 have hold:∀ p∈before,(fun b=>decide (b < W.heap.size)) p.block=true:=fun p hp=>by simpa using hlt p hp
 refine ⟨ds,gs,before,[],pa,pv,hW,hres _ _ _,hargs _ hold,hvars _ hold,World.keptBut_mono (fun p hp=>⟨hp,?_⟩) hk,fun _=>?_⟩
 ·rw [hps,List.mem_append] at hp
  exact Or.inr hp
 obtain ⟨_,_,_,_,_,hz,hn⟩:=hW
 refine ⟨hok,_,_,([]++pa)++pv,⟨[]++pa,pv,trodAll_append (hargs _ (fun _ _=>rfl)) (hres _ _ _),hvars _ (fun _ _=>rfl),rfl,?_,?_⟩,?_⟩
 ·intro b off hp
  have hp':MemPlace.cell b off∈before:=by rw [hps]; simpa using hp
  rw [hfz _ (hlt _ hp')]
  exact hz b off hp'
 ·intro ha
  have:=hn ha
  rw [hps] at this
  simpa using this
 intro p hp _
 rw [hps]
 simpa using hp
theorem grow_kept {w w':World} (h:Grow w w') (may:MemPlace→Prop):w.keptBut w' may:=by
 refine ⟨h.os,h.output,fun i hi=>?_⟩
 rw [h.block i hi]
 cases w.heap[i]? with
 | none=>trivial
 | some o=>cases o <;> simp
theorem grow_fz {w w':World} (h:Grow w w') (a:Addr) (ha:a.block < w.heap.size):w'.frozen? a=w.frozen? a:=by
 unfold World.frozen?
 rw [h.block _ ha]
theorem gTab:Tryd.prog.globalNamed "math/bits.deBruijn64tab" = some 1:=by kernel_rfl
theorem gTabType:(Tryd.prog.globals[1]?).map (·.type)=some 158:=by kernel_rfl
theorem cells158:Tryd.prog.cellsOf 158=64:=by kernel_rfl
theorem cells5:Tryd.prog.cellsOf 5=1:=by kernel_rfl
theorem laid_glT {W:World} (h:laidMetH Tryd.prog [("math/bits.deBruijn32tab", Rows.laid_math_bits_deBruijn32tab),("math/bits.deBruijn64tab", Rows.laid_math_bits_deBruijn64tab)] W):glT.G W:=by
 have h1:=laidMetH.filter (fun x=>x.1 == "math/bits.deBruijn64tab") h
 have e:([("math/bits.deBruijn32tab", Rows.laid_math_bits_deBruijn32tab),("math/bits.deBruijn64tab", Rows.laid_math_bits_deBruijn64tab)]:List (String×DataW Unit)).filter (fun x=>x.1 == "math/bits.deBruijn64tab")=[("math/bits.deBruijn64tab", Rows.laid_math_bits_deBruijn64tab)]:=by rfl
 rw [e,Go.MakeChecks.laidMetH_plain _ _ _ (by kernel_rfl)] at h1
 have ht:Lib.TabIs Tryd.prog W "math/bits.deBruijn64tab" .u8 (Lib.deBruijn64tab.map fun n:Nat=>(n:Int)):=Lib.tabIs_of_head (rest:=[]) gTab gTabType Tryd.underlying158 Tryd.underlying5 cells5 cells158 h1
 have hc:TabAt 1 Lib.deBruijn64tab W:=fun j hj=>by
  have:=ht.cell gTab j (by simpa using hj)
  rw [this]
  simp [List.getD,hj]
 refine ⟨?_,hc⟩
 have:=hc 0 (by decide)
 rcases Nat.lt_or_ge 1 W.heap.size with hlt | hge
 ·exact hlt
 exfalso
 have hn:W.heap[1]?=none:=Array.getElem?_eq_none hge
 simp [World.cell?,hn] at this
def tab32:List Int:=[0,1,28,2,29,14,24,3,30,22,20,15,25,17,4,8,31,27,13,23,21,19,16,7,26,12,18,6,11,5,10,9]
def tab64:List Int:=[0,1,56,2,57,49,28,3,61,58,42,50,38,29,17,4,62,47,59,36,45,43,51,22,53,39,33,30,24,18,12,5,63,55,48,27,60,41,37,16,46,35,44,21,52,32,23,11,54,26,40,15,34,20,31,10,25,14,19,9,13,8,7,6]
def setTab (zs:List Int):Obj→Obj
 | .cells _ t frozen=>.cells (zs.map fun n=>Value.int .u8 n).toArray t frozen
 | o=>o
def tabWorld (w:World):World:={ w with heap:=(w.heap.modify 0 (setTab tab32)).modify 1 (setTab tab64) }
open Go Go.Ab Go.Proofs
theorem kids:Kids Tryd.prog (· < Tryd.prog.types.size):=kids_rows (by kernel_rfl) (by kernel_rfl)
theorem full:∀ t e,t < Tryd.prog.types.size→Tryd.prog.underlying t=some (.slice e)→0 < Tryd.prog.cellsOf e:=slices_full_of Tryd.prog (by kernel_rfl)
theorem z3:Tryd.prog.cellsOf 3=1:=by kernel_rfl
theorem z5:Tryd.prog.cellsOf 5=1:=by kernel_rfl
theorem z9:Tryd.prog.cellsOf 9=1:=by kernel_rfl
theorem z22:Tryd.prog.cellsOf 22=1:=by kernel_rfl
theorem z23:Tryd.prog.cellsOf 23=1:=by kernel_rfl
theorem z24:Tryd.prog.cellsOf 24=1:=by kernel_rfl
theorem z26:Tryd.prog.cellsOf 26=3:=by kernel_rfl
theorem z63:Tryd.prog.cellsOf 63=4:=by kernel_rfl
theorem z65:Tryd.prog.cellsOf 65=3:=by kernel_rfl
theorem z73:Tryd.prog.cellsOf 73=2:=by kernel_rfl
abbrev B63:Nat:=9223372036854775807
section
variable {H:Type} {enc:TypeId×Value→H} {w:World}
theorem oInt:OpA S enc Tryd.prog w 3 fun cl=>∃ n:Int,cl=Cod.enc (S:=S) U.int n∧IntKind.i64.min≤n∧n≤IntKind.i64.max :=
 (OpA.int Tryd.underlying3).mono fun _ ⟨n,h,h1⟩=>⟨n,h,h1⟩
theorem oByte:OpA S enc Tryd.prog w 5 fun cl=>∃ n:Int,cl=Cod.enc (S:=S) U.u8 n∧IntKind.u8.min≤n∧n≤IntKind.u8.max :=
 (OpA.int Tryd.underlying5).mono fun _ ⟨n,h,h1⟩=>⟨n,h,h1⟩
theorem oByteV:OpA S enc Tryd.prog w 5 fun cl=>∃ n:Int,cl=[.int .u8 n]∧0≤n∧n≤255:=oByte.mono fun _ ⟨n,h,h1⟩=>⟨n,h,h1⟩
theorem oStrE:OpA S enc Tryd.prog w 9 fun cl=>∃ s:ByteArray,cl=Cod.enc (S:=S) U.str s∧s.size≤B63:=OpA.str Tryd.underlying9
theorem oStrs:OpA S enc Tryd.prog w 22 fun cl=>∃ ys:List ByteArray,cl=[strsV ys]∧ys.length≤B63∧∀ y∈ys,y.size≤B63 :=
 OpA.slice (S:=S) (u:=U.str) Tryd.underlying22 z9 oStrE
theorem oFm:OpA S enc Tryd.prog w 63 fun cl=>∃ y:Fm,cl=Cod.enc (S:=S) U.forme y∧y.1.size≤B63:=by
 refine (OpA.struct (Rs:=[_,_,_,_]) Tryd.underlying63 ⟨rfl,_,_,rfl,OpA.str Tryd.underlying9,by rw [z9],_,_,rfl,oInt,by rw [z9,z3],_,_,rfl,oInt,by rw [z9,z3],_,_,rfl,oInt,by rw [z9,z3,z63],rfl⟩).mono ?_
 rintro cl ⟨a,b,rfl,⟨s,rfl,hs⟩,c,d,rfl,⟨n,rfl,_⟩,e,f,rfl,⟨m,rfl,_⟩,g,h,rfl,⟨k,rfl,_⟩,rfl⟩
 exact ⟨(s,n,m,k),rfl,hs⟩
theorem oSg:OpA S enc Tryd.prog w 65 fun cl=>∃ y:Sg,cl=Cod.enc (S:=S) U.sight y∧(IntKind.i64.min≤y.1∧y.1≤IntKind.i64.max):=by
 refine (OpA.struct (Rs:=[_,_,_]) Tryd.underlying65 ⟨rfl,_,_,rfl,oInt,by rw [z3],_,_,rfl,oInt,by rw [z3],_,_,rfl,oInt,by rw [z3,z65],rfl⟩).mono ?_
 rintro cl ⟨a,b,rfl,⟨n,rfl,h1⟩,e,f,rfl,⟨m,rfl,_⟩,g,h,rfl,⟨k,rfl,_⟩,rfl⟩
 exact ⟨(n,m,k),rfl,h1⟩
theorem oFms:OpA S enc Tryd.prog w 23 fun cl=>∃ ys:List Fm,cl=[fmsV ys]∧ys.length≤B63∧∀ y∈ys,y.1.size≤B63 :=
 OpA.slice (S:=S) (u:=U.forme) Tryd.underlying23 z63 oFm
theorem oSgs:OpA S enc Tryd.prog w 24 fun cl=>∃ ys:List Sg,cl=[sgsV ys]∧ys.length≤B63∧∀ y∈ys,(IntKind.i64.min≤y.1∧y.1≤IntKind.i64.max) :=
 OpA.slice (S:=S) (u:=U.sight) Tryd.underlying24 z65 oSg
theorem oJob:OpA S enc Tryd.prog w 26 fun cl=>∃ ts fs ss,cl=[strsV ts,fmsV fs,sgsV ss]∧LensJ ts fs ss:=by
 refine (OpA.struct (Rs:=[_,_,_]) Tryd.underlying26 ⟨rfl,_,_,rfl,oStrs,by rw [z22],_,_,rfl,oFms,by rw [z22,z23],_,_,rfl,oSgs,by rw [z22,z23,z24,z26],rfl⟩).mono ?_
 rintro cl ⟨a,b,rfl,⟨ts,rfl,h1,h2⟩,c,d,rfl,⟨fs,rfl,h3,h4⟩,e,f,rfl,⟨ss,rfl,h5,_⟩,rfl⟩
 exact ⟨ts,fs,ss,rfl,⟨h1,h3,h5,h2,h4⟩⟩
theorem oDuo:OpA S enc Tryd.prog w 73 fun cl=>∃ a b:Int,cl=[.arr (S:=S) U.u8 2 [a,b]]∧(0≤a∧a≤255)∧(0≤b∧b≤255):=by
 refine (OpA.array (S:=S) (u:=U.u8) Tryd.underlying73 (by rw [z73,z5]) oByte).mono ?_
 rintro cl ⟨ys,rfl,hl,h⟩
 match ys,hl with
 | [a,b],_=>exact ⟨a,b,rfl,h a (by simp),h b (by simp)⟩
end
abbrev noJob:Value:=.agg #[.slice none 0 0,.slice none 0 0,.slice none 0 0]
end Go.Ab.SkF
