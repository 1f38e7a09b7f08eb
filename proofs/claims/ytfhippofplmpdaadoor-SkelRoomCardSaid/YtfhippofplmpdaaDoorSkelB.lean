/-
  THE SKELETON FAMILY, PART WO: the examples of the document: of the program; the law SkelKnown.
-/
import Derived.Test.YtfhippofplmpdaaDoorSkelA
namespace Go.Ab.SkF
open Go Go.Ab Go.Ab.Pln Go.Proofs
set_option maxHeartbeats 1000000
set_option maxRecDepth 100000
theorem bitN {a i:Nat} (ha:a < 2 ^ 63) (h:i < 64):(bitsI .and .i64 (shrI .i64 (a:Int) (i:Int)) 1==1)=a.testBit i:=bitB ha h
theorem nz {a:Nat}:(((a:Nat):Int) != 0)=(a != 0):=by
 rw [Bool.eq_iff_iff,bne_iff_ne,bne_iff_ne]; omega
theorem c80 (gl:Gl) (ts:List ByteArray) (fs:List Fm) (ss:List Sg) (h8:fs.length≤8) (hs:SsOk fs.length 6 ss) (hsl:ss.length≤60) (m:Nat) (hm:m < 2 ^ 63):PCalls PR gl 80 [.agg [strsV ts,fmsV fs,sgsV ss],vI m] fun r=>r=.ref (lookC ts fs ss m.testBit):=by
 have h0:∀ p:Nat→Bool,∀ i,∀ s∈pickU ss p i,i≤ss.length→s.1.toNat < 8:=fun p i s hi hil=>by
  unfold pickU at hi
  obtain ⟨k,hk,rfl⟩:=List.mem_map.1 hi
  have hk:=List.mem_range.1 (List.mem_filter.1 hk).1
  rw [getD_at (show k < ss.length by omega)]
  have:=hs.f _ (List.getElem_mem (show k < ss.length by omega))
  omega
 have hty:∀ i,i≤ss.length→∀ t,typeM (pickU ss m.testBit i) t < 2 ^ 8:=fun i hi t=>typeM_lt (fun s hsm=>h0 _ i s hsm hi) t
 have hgr:∀ T,∀ x∈groupsT fs.length (pickS ss m.testBit) T,x < 2 ^ 8:=fun T=>groupsT_lt (T0:=6) (fun s hsm=>h0 _ _ s hsm (Nat.le_refl _)) T
 have hgl:=fun T=>groupsT_len fs.length (pickS ss m.testBit) T
 refine fnW_sound (par_ok gl) Tryd.func80 ?_;conv=>whnf
 refine ⟨[0,2,3,1,4,5,6,7,8],[],[],[],⟨10141204801825835211973625643007,[],[]⟩,by decide +kernel,?_⟩;conv=>whnf
 refine byC (c94 gl) op94 ?_;conv=>whnf
 refine byC (c113 gl) op113 ?_;conv=>whnf
 refine byC (c95s gl fs h8) op95 ?_;conv=>whnf
 refine ⟨⟨469762146,[2],[]⟩,?_⟩
 refine LoopW_ind _ (fun i:Nat=>(({ tmps:=[J,vI m,J,J,J,.own 21 [],.own 6 [],J,J,J,J,J,J,J,J,J,J,J,J,J,J,J,J,J,J,J,sgsV ss,vI ss.length,vI i,J,J,J,J,J,J,J,J,J,J,J,J,J,J,J,J,J,J,J,J,J,J,J,J,J,J,J,J,J,J,J,J,J,J,J,J,J,J,J,J,J,J,J,J,J,J,J,J,J,J,J,J,J,J,J,J,J,J,J,J,J,J,J,J,J,J,J,J,J,J,J,J,J,J],seg:=[(6,.cells [arr6 (typesN ss m.testBit i)]),(21,.cells [strsV ts,fmsV fs,sgsV ss,arr8 (aloneM),arr8 (meetM (stN fs) fs.length)])],up:=[] }:St S))) (fun i:Nat=>(i≤ss.length)) (fun i:Nat=>(ss.length - i)) () ?_ 0 (Nat.zero_le _)
 intro i hi Z1 hZ1
 conv=>whnf
 apply bc9<;>intro h4
 ·have hlt:i < ss.length:=by have:=of_decide_eq_true h4; omega
  have hw:=wrap_nat (n:=i) (by omega)
  conv=>whnf
  refine ⟨_,getI_nat hlt,?_⟩;conv=>whnf
  refine ⟨by omega,?_⟩;conv=>whnf
  apply bc9<;>intro h6
  ·have h6:m.testBit i=true:=by rw [←bitN hm (show i < 64 by omega)]; exact h6
   obtain ⟨hf0,hf1⟩:=hs.f _ (List.getElem_mem hlt)
   obtain ⟨ht0,ht1⟩:=hs.t _ (List.getElem_mem hlt)
   obtain ⟨f,hf⟩:∃ f:Nat,ss[i].1=(f:Int):=⟨ss[i].1.toNat,by omega⟩
   obtain ⟨t,ht⟩:∃ t:Nat,ss[i].2.1=(t:Int):=⟨ss[i].2.1.toNat,by omega⟩
   have ht6:t < 6:=by omega
   have hf8:f < 8:=by omega
   have hgt:getI (natsV (typesN ss m.testBit i)) ss[i].2.1=some ((typeM (pickU ss m.testBit i) t:Nat):Int):=by rw [ht,getI_natsD (by rw [typesN_len]; omega),typesN_get ht6]
   conv=>whnf
   refine ⟨[0,1,2,3,4,5,6,7,8,9],[],[],[],⟨10141204801825835211973625643007,[],[]⟩,by decide +kernel,?_⟩;conv=>whnf
   refine ⟨by omega,by omega,?_⟩;conv=>whnf
   refine ⟨_,hgt,?_⟩;conv=>whnf
   refine ⟨by omega,?_⟩;conv=>whnf
   refine ⟨by omega,by omega,?_⟩;conv=>whnf
   refine ⟨_,hgt,_,rfl,?_⟩;conv=>whnf
   refine ⟨⟨469762146,[8,1008,2008,3008,4008],[]⟩,?_⟩;conv=>whnf
   rw [hf,ht,shl_one (by omega),or_nat (lt63 (hty i hi t)) (Nat.pow_lt_pow_right (by omega) (by omega)),nats_set,typesN_T hlt h6 ht hf,hw]
   exact hZ1 (i+1) hlt (by omega)
  have h6:m.testBit i=false:=by rw [←bitN hm (show i < 64 by omega)]; exact h6
  conv=>whnf
  refine ⟨⟨469762146,[8,1008,2008,3008,4008],[]⟩,?_⟩;conv=>whnf
  rw [hw,←typesN_F h6]
  exact hZ1 (i+1) hlt (by omega)
 have hge:i=ss.length:=by have:=of_decide_eq_false h4; omega
 subst hge
 conv=>whnf
 refine loop_q fun Q2 hQ2=>?_
 refine ⟨⟨844424930132000,[6],[]⟩,?_⟩
 refine LoopW_ind _ (fun t:Nat=>(({ tmps:=[J,J,J,J,J,.own 21 [],J,J,J,J,J,J,J,J,J,J,J,J,J,J,J,J,J,J,J,J,J,J,J,J,J,J,J,J,J,J,J,J,J,J,J,J,J,J,J,J,J,J,.agg [arr6 (typesN ss m.testBit ss.length)],vI t,J,J,J,J,J,J,J,J,J,J,J,J,J,J,J,J,J,J,J,J,J,J,J,J,J,J,J,J,J,J,J,J,J,J,J,J,J,J,J,J,J,J,J,J,J,J,J,J,J,J,J,J,J],seg:=[(21,.cells [strsV ts,fmsV fs,sgsV ss,arr8 (groupsT fs.length (pickS ss m.testBit) t),arr8 (meetM (stN fs) fs.length)])],up:=[] }:St S))) (fun t:Nat=>(t≤6)) (fun t:Nat=>(6 - t)) () ?_ 0 (Nat.zero_le _)
 intro t ht Z2 hZ2
 conv=>whnf
 apply bc9<;>intro h10
 ·have hlt6:t < 6:=by have:=of_decide_eq_true h10; omega
  have hwt:=wrap_nat (n:=t) (by omega)
  conv=>whnf
  refine ⟨_,getI_natsD (l:=typesN ss m.testBit ss.length) (by rw [typesN_len]; exact hlt6),?_⟩;conv=>whnf
  rw [typesN_get hlt6]
  conv=>whnf
  have hset:typeM (pickU ss m.testBit ss.length) t < 2 ^ 8:=hty _ (Nat.le_refl _) t
  have hal:=fun n=>allM_lt (hgr t) hset n
  refine ⟨⟨865535553385270304,[],[]⟩,?_⟩
  refine LoopW_ind _ (fun a:Nat=>(({ tmps:=[J,J,J,J,J,.own 21 [],J,J,J,J,vI (typeM (pickU ss m.testBit ss.length) t),vI (allM a (groupsT fs.length (pickS ss m.testBit) t) (typeM (pickU ss m.testBit ss.length) t)),J,J,J,J,J,J,J,J,J,J,J,J,J,J,J,J,J,J,J,J,J,J,J,J,J,J,J,J,J,J,J,J,J,J,J,J,.agg [arr6 (typesN ss m.testBit ss.length)],vI t,J,J,J,J,J,J,J,J,vI fs.length,vI a,J,J,J,J,J,J,J,J,J,J,J,J,J,J,J,J,J,J,J,J,J,J,J,J,J,J,J,J,J,J,J,J,J,J,J,J,J,J,J,J,J,J,J],seg:=[(21,.cells [strsV ts,fmsV fs,sgsV ss,arr8 (groupsT fs.length (pickS ss m.testBit) t),arr8 (meetM (stN fs) fs.length)])],up:=[] }:St S))) (fun a:Nat=>(a≤fs.length)) (fun a:Nat=>(fs.length - a)) () ?_ 0 (Nat.zero_le _)
  intro a ha Z3 hZ3
  conv=>whnf
  apply bc9<;>intro h14
  ·have hlta:a < fs.length:=by have:=of_decide_eq_true h14; omega
   have hwa:=wrap_nat (n:=a) (by omega)
   conv=>whnf
   refine ⟨by omega,?_⟩;conv=>whnf
   apply bc9<;>intro h16
   ·have h16:(typeM (pickU ss m.testBit ss.length) t).testBit a=true:=by rw [←bitN (lt63 hset) (show a < 64 by omega)]; exact h16
    have hga2:(groupsT fs.length (pickS ss m.testBit) t).getD a 0 < 2 ^ 8:=by rw [getD_at (by rw [hgl]; omega)]; exact hgr t _ (List.getElem_mem _)
    conv=>whnf
    refine ⟨by omega,by omega,?_⟩;conv=>whnf
    refine ⟨_,getI_natsD (by rw [hgl]; omega),?_⟩;conv=>whnf
    refine ⟨⟨865535553385270304,[],[]⟩,?_⟩;conv=>whnf
    rw [or_nat (lt63 (hal a)) (lt63 hga2),hwa]
    have:=hZ3 (a+1) hlta (by omega)
    rw [allM_succ,if_pos h16] at this
    exact this
   have h16:(typeM (pickU ss m.testBit ss.length) t).testBit a=false:=by rw [←bitN (lt63 hset) (show a < 64 by omega)]; exact h16
   conv=>whnf
   refine ⟨⟨865535553385270304,[],[]⟩,?_⟩;conv=>whnf
   rw [hwa]
   have:=hZ3 (a+1) hlta (by omega)
   rw [allM_succ,h16,if_neg (by simp)] at this
   exact this
  have hga:a=fs.length:=by have:=of_decide_eq_false h14; omega
  subst hga
  conv=>whnf
  refine ⟨⟨7253554918532199978372128,[],[]⟩,?_⟩
  refine LoopW_ind _ (fun s9:List Nat×Nat=>match s9 with | (ys,b)=>(({ tmps:=[J,J,J,J,J,.own 21 [],J,J,J,J,vI (typeM (pickU ss m.testBit ss.length) t),vI (allM fs.length (groupsT fs.length (pickS ss m.testBit) t) (typeM (pickU ss m.testBit ss.length) t)),J,J,J,J,J,J,J,J,J,J,J,J,J,J,J,J,J,J,J,J,J,J,J,J,J,J,J,J,J,J,J,J,J,J,J,J,.agg [arr6 (typesN ss m.testBit ss.length)],vI t,J,J,J,J,J,J,J,J,J,J,J,J,J,J,J,J,J,J,J,J,J,J,J,J,J,J,J,J,J,J,J,vI fs.length,vI b,J,J,J,J,J,J,J,J,J,J,J,J,J,J,J,J,J,J,J,J],seg:=[(21,.cells [strsV ts,fmsV fs,sgsV ss,arr8 (ys),arr8 (meetM (stN fs) fs.length)])],up:=[] }:St S))) (fun s9:List Nat×Nat=>match s9 with | (ys,b)=>(ys=joinU fs.length (groupsT fs.length (pickS ss m.testBit) t) (typeM (pickU ss m.testBit ss.length) t) b∧b≤fs.length)) (fun s9:List Nat×Nat=>match s9 with | (ys,b)=>(fs.length - b)) () ?_ (_,0) ⟨(joinU_zero _ _ _).symm,Nat.zero_le _⟩
  rintro ⟨ys,b⟩ hinv Z4 hZ4
  dsimp only at hinv hZ4
  obtain ⟨rfl,hb⟩:=hinv
  conv=>whnf
  apply bc9<;>intro h20
  ·have hltb:b < fs.length:=by have:=of_decide_eq_true h20; omega
   have hwb:=wrap_nat (n:=b) (by omega)
   conv=>whnf
   apply bc9<;>intro g22_2
   ·have g22_2:(typeM (pickU ss m.testBit ss.length) t != 0)=true:=by rw [←nz]; exact g22_2
    conv=>whnf
    refine ⟨by omega,?_⟩;conv=>whnf
    apply bc9<;>intro h22
    ·have h22:(allM fs.length (groupsT fs.length (pickS ss m.testBit) t) (typeM (pickU ss m.testBit ss.length) t)).testBit b=true:=by rw [←bitN (lt63 (hal fs.length)) (show b < 64 by omega)]; exact h22
     conv=>whnf
     refine ⟨by omega,by omega,?_⟩;conv=>whnf
     refine ⟨_,getI_natsD (by rw [joinU_len,hgl]; omega),_,rfl,?_⟩;conv=>whnf
     refine ⟨⟨7253554918532199978372128,[],[]⟩,?_⟩;conv=>whnf
     rw [nats_set,hwb]
     exact hZ4 (_,b+1) ⟨joinU_T hltb (by simpa using g22_2) h22,hltb⟩ (by dsimp only; omega)
    have h22:(allM fs.length (groupsT fs.length (pickS ss m.testBit) t) (typeM (pickU ss m.testBit ss.length) t)).testBit b=false:=by rw [←bitN (lt63 (hal fs.length)) (show b < 64 by omega)]; exact h22
    conv=>whnf
    refine ⟨⟨7253554918532199978372128,[],[]⟩,?_⟩;conv=>whnf
    rw [hwb]
    exact hZ4 (_,b+1) ⟨joinU_F (by rw [h22,Bool.and_false]),hltb⟩ (by dsimp only; omega)
   have g22_2:(typeM (pickU ss m.testBit ss.length) t != 0)=false:=by rw [←nz]; exact g22_2
   conv=>whnf
   refine ⟨⟨7253554918532199978372128,[],[]⟩,?_⟩;conv=>whnf
   rw [hwb]
   exact hZ4 (_,b+1) ⟨joinU_F (by rw [g22_2,Bool.false_and]),hltb⟩ (by dsimp only; omega)
  have hgb:b=fs.length:=by have:=of_decide_eq_false h20; omega
  subst hgb
  conv=>whnf
  refine ⟨⟨844424930132000,[],[]⟩,?_⟩;conv=>whnf
  rw [hwt,joinU_full,show typeM (pickU ss m.testBit ss.length) t=typeM (pickS ss m.testBit) t from rfl,←groupsT_succ]
  exact hZ2 (t+1) hlt6 (by omega)
 have hgt:t=6:=by have:=of_decide_eq_false h10; omega
 conv=>whnf
 refine (hQ2 _ _ _).mpr ?_;conv=>whnf
 rw [hgt]
theorem op80:Opens PR 80:=⟨_,Tryd.func80,rfl,rfl⟩
structure LensJ (ts:List ByteArray) (fs:Fms) (ss:Sgs):Prop where
 t:ts.length≤9223372036854775807
 f:fs.length≤9223372036854775807
 s:ss.length≤9223372036854775807
 tn:∀ x∈ts,x.size≤9223372036854775807
 fn:∀ x∈fs,x.1.size≤9223372036854775807
theorem LensJ.l {ts:List ByteArray} {fs:Fms} {ss:Sgs} (h:LensJ ts fs ss):ts.length≤9223372036854775807∧fs.length≤9223372036854775807∧ss.length≤9223372036854775807:=⟨h.t,h.f,h.s⟩
abbrev jobL (ts:List ByteArray) (fs:Fms) (ss:Sgs):List (AV S):=[strsV ts,fmsV fs,sgsV ss,arr8 (groupsM fs.length ss),arr8 (meetM (stN fs) fs.length)]
theorem mask_all {n:Nat} (h:n≤60):IntKind.i64.wrap (shlI .i64 1 (n:Int) - 1)=((2 ^ n - 1:Nat):Int):=by
 have h1:2 ^ n < 2 ^ 63:=Nat.pow_lt_pow_right (by omega) (by omega)
 have h2:0 < 2 ^ n:=Nat.two_pow_pos _
 rw [shl_one (by omega),show ((2 ^ n:Nat):Int) - 1=((2 ^ n - 1:Nat):Int) by omega,wrap_lt (by omega)]
theorem mask_bit {n i:Nat} (h:i < n):(2 ^ n - 1).testBit i=true:=by simp [Nat.testBit_two_pow_sub_one,h]
theorem mask_lt {n:Nat} (h:n≤60):2 ^ n - 1 < 2 ^ 63:=by
 have h1:2 ^ n < 2 ^ 63:=Nat.pow_lt_pow_right (by omega) (by omega)
 omega
theorem look_all (ts:List ByteArray) (fs:Fms) (ss:Sgs):lookC ts fs ss (2 ^ ss.length - 1).testBit=jobL ts fs ss:=by
 have h:pickS ss (2 ^ ss.length - 1).testBit=ss:=pick_all (fun i hi=>mask_bit hi)
 exact congrArg (fun l=>[strsV ts,fmsV fs,sgsV ss,arr8 (groupsM fs.length l),arr8 (meetM (stN fs) fs.length)]) h
theorem c80a (gl:Gl) (ts:List ByteArray) (fs:Fms) (ss:Sgs) (h8:fs.length≤8) (hs:SsOk fs.length 6 ss) (hsl:ss.length≤60) :
  PCalls PR gl 80 [jobV ts fs ss,vI (IntKind.i64.wrap (shlI .i64 1 (ss.length:Int) - 1))] fun r=>r=.ref (jobL ts fs ss):=by
 have h:=c80 gl ts fs ss h8 hs hsl (2 ^ ss.length - 1) (mask_lt hsl)
 rw [look_all] at h
 rw [mask_all hsl]
 exact h
def openV (ts:List ByteArray) (fs:Fms) (ss:Sgs):AV S:=if chE ts fs ss=0 then .tup [.ref (jobL ts fs ss),vI 0] else .tup [.nilp,vI (chE ts fs ss)]
theorem openV_ok {ts:List ByteArray} {fs:Fms} {ss:Sgs} (h:chE ts fs ss=0):openV ts fs ss=.tup [.ref (jobL ts fs ss),vI 0]:=by unfold openV; rw [if_pos h]
theorem openV_no {ts:List ByteArray} {fs:Fms} {ss:Sgs} (h:chE ts fs ss≠0):openV ts fs ss=.tup [.nilp,vI (chE ts fs ss)]:=by unfold openV; rw [if_neg h]
theorem groups_len (fs:Fms) (ss:Sgs):(groupsM fs.length ss).length=8:=groupsT_len _ _ _
theorem groups_lt {fs:Fms} {ss:Sgs} (h8:fs.length≤8) (hs:SsOk fs.length 6 ss) {i:Nat} (h:i < 8):(groupsM fs.length ss).getD i 0 < 2 ^ 8:=by
 rw [getD_at (by rw [groups_len]; exact h)]
 exact groupsT_lt (T0:=6) (fun s hsm=>by have:=hs.f s hsm; omega) 6 _ (List.getElem_mem _)
theorem meetM_len (R:Rel) (n:Nat):(meetM R n).length=8:=by simp [meetM]
theorem meetM_get {R:Rel} {n i:Nat} (hn:n≤8) (h:i < n):(meetM R n).getD i 0=bitsO ((List.range n).filter (R i)):=by
 simp [meetM,List.getD_eq_getElem?_getD,h,show i < 8 by omega]
theorem meetM_lt {R:Rel} {n i:Nat} (hn:n≤8) (h:i < n):(meetM R n).getD i 0 < 2 ^ 8:=by rw [meetM_get hn h]; exact bits_lt8 hn _
theorem meet_bit {R:Rel} {n i k:Nat} (hn:n≤8) (h:i < n):((meetM R n).getD i 0).testBit k=(decide (k < n)&&R i k):=by
 rw [meetM_get hn h,bitsO_test,Bool.eq_iff_iff,List.contains_iff_mem,List.mem_filter,List.mem_range]; simp
theorem ctz_spec {a:Nat} (h0:a≠0) (hl:a < 2 ^ 64):a.testBit (Lib.ctz 64 a)=true∧∀ j,j < Lib.ctz 64 a→a.testBit j=false:=by
 obtain ⟨m,hm,hk⟩:=Lib.ctzFrom_spec 64 a (by omega) hl
 have hc:Lib.ctz 64 a=Lib.ctzFrom 64 a:=by unfold Lib.ctz; rw [if_neg h0]
 rw [hc]
 generalize Lib.ctzFrom 64 a=k at hm hk
 rw [hm]
 refine ⟨?_,fun j hj=>?_⟩
 ·rw [low_test,if_neg (by omega),Nat.sub_self,Nat.testBit_zero]; simp
 rw [low_test,if_pos hj]
theorem max_if (a b:Int):(if b > a then b else a)=max a b:=by split <;> omega
theorem min_if (a b:Int):(if b < a then b else a)=min a b:=by split <;> omega
theorem lt64 {a:Nat} (h:a < 2 ^ 8):a < 2 ^ 64:=Nat.lt_of_lt_of_le h (by decide)
theorem ctz_lab {fs:Fms} {ss:Sgs} (h8:fs.length≤8) (hs:SsOk fs.length 6 ss) {i:Nat} (h:i < fs.length):Lib.ctz 64 ((groupsM fs.length ss).getD i 0)=lab fs.length ss i:=by
 have hi:((groupsM fs.length ss).getD i 0).testBit i=true:=(grp_iff h8 hs (by omega) i).2 (.refl i)
 have hlt:=groups_lt h8 hs (show i < 8 by omega)
 have hne:(groupsM fs.length ss).getD i 0≠0:=fun e=>by rw [e] at hi; simp at hi
 obtain ⟨h1,h2⟩:=ctz_spec hne (lt64 hlt)
 have hc:conn ss i (Lib.ctz 64 ((groupsM fs.length ss).getD i 0)):=(grp_iff h8 hs (by omega) _).1 h1
 obtain ⟨g1,g2⟩:=lab_spec h8 hs h
 refine Nat.le_antisymm ?_ (g2 _ hc)
 apply Classical.byContradiction
 intro hh
 have:=h2 (lab fs.length ss i) (by omega)
 have h3:((groupsM fs.length ss).getD i 0).testBit (lab fs.length ss i)=true:=(grp_iff h8 hs (by omega) _).2 g1
 rw [h3] at this; cases this
theorem conv_u64 {a:Nat} (h:a < 2 ^ 8):IntKind.u64.wrap (a:Int)=(a:Int):=by
 rw [IntKind.wrap_u64]
 have:(2:Nat) ^ 8=256:=rfl
 omega
theorem c72' {a:Nat} (h:a < 2 ^ 8):PCalls PR glT 72 [.int .u64 (IntKind.u64.wrap (a:Int))] fun r=>r=vI (Lib.ctz 64 a):=by
 rw [conv_u64 h]
 exact c72 a (lt64 h)
def clashV (fs:Fms) (ss:Sgs):AV S:=match clashJ fs ss with
 | some (a,b)=>.tup [vI a,vI b,vB true]
 | none=>.tup [vI 0,vI 0,vB false]
theorem clash_find {fs:Fms} {ss:Sgs} (h8:fs.length≤8) (_hs:SsOk fs.length 6 ss) {i:Nat} (hi:i < fs.length) (hp:∀ j,j < i→(groupsM fs.length ss).getD j 0 &&& (meetM (stN fs) fs.length).getD j 0=0)
  (hn:(groupsM fs.length ss).getD i 0 &&& (meetM (stN fs) fs.length).getD i 0≠0):clashJ fs ss=some (i,Lib.ctz 64 ((groupsM fs.length ss).getD i 0 &&& (meetM (stN fs) fs.length).getD i 0)):=by
 have hlt:(groupsM fs.length ss).getD i 0 &&& (meetM (stN fs) fs.length).getD i 0 < 2 ^ 8:=Nat.and_lt_two_pow _ (meetM_lt h8 hi)
 obtain ⟨h1,h2⟩:=ctz_spec hn (lt64 hlt)
 rw [Nat.testBit_and,Bool.and_eq_true,meet_bit h8 hi,Bool.and_eq_true,decide_eq_true_eq] at h1
 refine clash_at hi h1.2.1 h1.1 h1.2.2 (fun a b ha hb hg hm=>?_) fun b hb hg hm=>?_
 ·have h3:((groupsM fs.length ss).getD a 0 &&& (meetM (stN fs) fs.length).getD a 0).testBit b=true:=by
   rw [Nat.testBit_and,meet_bit h8 (by omega)]
   have hg:((groupsM fs.length ss).getD a 0).testBit b=true:=hg
   rw [hg,hm]; simpa using hb
  rw [hp a ha] at h3; simp at h3
 have h3:=h2 b hb
 rw [Nat.testBit_and,meet_bit h8 hi] at h3
 have hg:((groupsM fs.length ss).getD i 0).testBit b=true:=hg
 rw [hg,hm] at h3
 have hbn:b < fs.length:=by have:=h1.2.1; omega
 simp [hbn] at h3
theorem clash_no {fs:Fms} {ss:Sgs} (h8:fs.length≤8) (hp:∀ j,j < fs.length→(groupsM fs.length ss).getD j 0 &&& (meetM (stN fs) fs.length).getD j 0=0):clashJ fs ss=none:=by
 unfold clashJ
 rw [clash_none]
 intro i k hi hk hg hm
 have h3:((groupsM fs.length ss).getD i 0 &&& (meetM (stN fs) fs.length).getD i 0).testBit k=true:=by
  rw [Nat.testBit_and,meet_bit h8 hi]
  have hg:((groupsM fs.length ss).getD i 0).testBit k=true:=hg
  rw [hg,hm]; simpa using hk
 rw [hp i hi] at h3; simp at h3
theorem c71 (gl:Gl) (ts:List ByteArray) (fs:List Fm) (ss:List Sg) (hL:LensJ ts fs ss):PCalls PR gl 71 [.agg [strsV ts,fmsV fs,sgsV ss]] fun r=>r=openV ts fs ss:=by
 refine fnW_sound (par_ok gl) Tryd.func71 ?_;conv=>whnf
 refine byC (c16 gl ts fs ss hL.l) op16 ?_;conv=>whnf
 apply bc9<;>intro h2
 ·have h2:chE ts fs ss≠0:=by have h2:((chk ts fs ss).2.2 != 0)=true:=h2; simpa using h2
  conv=>whnf
  rw [openV_no h2]
 have h2:chE ts fs ss=0:=by have h2:((chk ts fs ss).2.2 != 0)=false:=h2; simpa using h2
 have hv:=(chk_valid.1 h2).job
 have hv12:=(chk_valid.1 h2).s12
 conv=>whnf
 refine ⟨[0,1,2,3,4,5,6,7,8],[],[],[],⟨8388607,[],[]⟩,by decide +kernel,?_⟩;conv=>whnf
 refine ⟨by omega,?_⟩;conv=>whnf
 refine byC (c80a gl ts fs ss hv.n8 hv.s6 (by omega)) op80 ?_;conv=>whnf
 rw [openV_ok h2]
theorem op71:Opens PR 71:=⟨_,Tryd.func71,rfl,rfl⟩
theorem c18 (ts:List ByteArray) (fs:List Fm) (ss:List Sg) (hL:LensJ ts fs ss):PCalls PR glT 18 [.agg [strsV ts,fmsV fs,sgsV ss]] fun r=>r=.tup [vL (groupsS ts fs ss).1,vI (groupsS ts fs ss).2]:=by
 refine fnW_sound (par_ok glT) Tryd.func18 ?_;conv=>whnf
 refine byC (c71 glT ts fs ss hL) op71 ?_
 rcases Classical.em (chE ts fs ss=0) with hk | hk
 ·rw [openV_ok hk]
  have hv:=(chk_valid.1 hk).job
  have h8:=hv.n8
  have hs6:=hv.s6
  have hR:groupsS ts fs ss=(natsV ((List.range fs.length).map (lab fs.length ss)),0):=by unfold groupsS; rw [if_neg (fun h=>h hk)]
  conv=>whnf
  refine ⟨⟨1572884,[1],[2]⟩,?_⟩
  refine LoopW_ind _ (fun i:Nat=>(({ tmps:=[J,J,.sl (S:=S) U.int (natsV ((List.range i).map (lab fs.length ss))) (some 2),J,.ref (jobL ts fs ss),J,J,J,J,J,J,J,J,J,J,J,J,J,J,vI fs.length,vI i,J,J,J,J,J,J,J,J,J,J,J,J,J,J,J],seg:=[(2,.row U.int false)],up:=[] }:St S))) (fun i:Nat=>(i≤fs.length)) (fun i:Nat=>(fs.length - i)) () ?_ 0 (Nat.zero_le _)
  intro i hi Z1 hZ1
  conv=>whnf
  apply bc9<;>intro h5
  ·have hlt:i < fs.length:=by have:=of_decide_eq_true h5; omega
   have hw:=wrap_nat (n:=i) (by omega)
   conv=>whnf
   refine ⟨_,getI_natsD (by rw [groups_len]; omega),?_⟩;conv=>whnf
   refine byC (c72' (groups_lt h8 hs6 (show i < 8 by omega))) op72 ?_;conv=>whnf
   refine ⟨_,rfl,?_⟩;conv=>whnf
   refine ⟨lim (by show (natsV ((List.range i).map (lab fs.length ss))).length+1≤_; rw [natsV_length]; simp; omega),?_⟩;conv=>whnf
   refine ⟨⟨1572884,[32,33],[]⟩,?_⟩;conv=>whnf
   rw [hw,ctz_lab h8 hs6 hlt]
   have:=hZ1 (i+1) hlt (by omega)
   rw [rm_succ,show natsV ((List.range i).map (lab fs.length ss)++[lab fs.length ss i])=natsV ((List.range i).map (lab fs.length ss))++[((lab fs.length ss i:Nat):Int)] by simp [natsV]] at this
   exact this
  have hge:i=fs.length:=by have:=of_decide_eq_false h5; omega
  conv=>whnf
  rw [hR,hge]
 rw [openV_no hk]
 conv=>whnf
 apply bc9<;>intro h2
 ·conv=>whnf
  unfold groupsS
  rw [if_pos hk]
 exfalso
 have h2:(chE ts fs ss != 0)=false:=h2
 exact hk (by simpa using h2)
theorem op18:Opens PR 18:=⟨_,Tryd.func18,rfl,rfl⟩
theorem c74g (ts:List ByteArray) (fs:List Fm) (ss:List Sg) (sx:List Sg) (h8:fs.length≤8) (hs:SsOk fs.length 6 ss):PCalls PR glT 74 [.ref [strsV ts,fmsV fs,sgsV sx,arr8 (groupsM fs.length ss),arr8 (meetM (stN fs) fs.length)]] fun r=>r=clashV fs ss:=by
 refine fnW_sound (par_ok glT) Tryd.func74 ?_;conv=>whnf
 refine ⟨⟨12289,[],[]⟩,?_⟩
 refine LoopW_ind _ (fun i:Nat=>(({ tmps:=[.ref [strsV ts,fmsV fs,sgsV sx,arr8 (groupsM fs.length ss),arr8 (meetM (stN fs) fs.length)],J,J,J,J,J,J,J,J,J,J,J,vI fs.length,vI i,J,J,J,J,J,J,J,J,J,J,J,J,J,J,J,J,J,J,J,J,J,J],seg:=[],up:=[] }:St S))) (fun i:Nat=>(i≤fs.length∧∀ j,j < i→(groupsM fs.length ss).getD j 0 &&& (meetM (stN fs) fs.length).getD j 0=0)) (fun i:Nat=>(fs.length - i)) () ?_ 0 ⟨Nat.zero_le _,fun j h=>absurd h (Nat.not_lt_zero j)⟩
 intro i hinv Z1 hZ1
 obtain ⟨hi,hd⟩:=hinv
 conv=>whnf
 apply bc9<;>intro h2
 ·have hlt:i < fs.length:=by have:=of_decide_eq_true h2; omega
  have hw:=wrap_nat (n:=i) (by omega)
  have hg8:=groups_lt h8 hs (show i < 8 by omega)
  have hm8:=meetM_lt (R:=stN fs) h8 hlt
  have ha8:(groupsM fs.length ss).getD i 0 &&& (meetM (stN fs) fs.length).getD i 0 < 2 ^ 8:=Nat.and_lt_two_pow _ hm8
  have hand:=and_nat (lt63 hg8) (lt63 hm8)
  conv=>whnf
  refine ⟨[0,1,2,3,4,5,6,7,8,9,10,11,12,13],[],[],[],⟨68719476735,[],[]⟩,by decide +kernel,?_⟩;conv=>whnf
  refine ⟨_,getI_natsD (by rw [groups_len]; omega),?_⟩;conv=>whnf
  refine ⟨_,getI_natsD (by rw [meetM_len]; omega),?_⟩;conv=>whnf
  apply bc9<;>intro h5
  ·have h5:(groupsM fs.length ss).getD i 0 &&& (meetM (stN fs) fs.length).getD i 0≠0:=by
    have h5:(bitsI .and .i64 (((groupsM fs.length ss).getD i 0:Nat):Int) (((meetM (stN fs) fs.length).getD i 0:Nat):Int) != 0)=true:=h5
    rw [hand] at h5
    intro e; rw [e] at h5; cases h5
   have hC:=clash_find h8 hs hlt hd h5
   conv=>whnf
   refine byC (by have:=c72' ha8; rw [←hand] at this; exact this) op72 ?_;conv=>whnf
   unfold clashV
   rw [hC]
  have h5:(groupsM fs.length ss).getD i 0 &&& (meetM (stN fs) fs.length).getD i 0=0:=by
   have h5:(bitsI .and .i64 (((groupsM fs.length ss).getD i 0:Nat):Int) (((meetM (stN fs) fs.length).getD i 0:Nat):Int) != 0)=false:=h5
   rw [hand] at h5
   simpa using h5
  conv=>whnf
  refine ⟨⟨12289,[],[]⟩,?_⟩;conv=>whnf
  rw [hw]
  exact hZ1 (i+1) ⟨hlt,up_succ hd h5⟩ (by omega)
 have hge:i=fs.length:=by have:=of_decide_eq_false h2; omega
 conv=>whnf
 unfold clashV
 rw [clash_no h8 (by rw [hge] at hd; exact hd)]
theorem op74:Opens PR 74:=⟨_,Tryd.func74,rfl,rfl⟩
theorem c74 (ts:List ByteArray) (fs:List Fm) (ss:List Sg) (h8:fs.length≤8) (hs:SsOk fs.length 6 ss):PCalls PR glT 74 [.ref (jobL ts fs ss)] fun r=>r=clashV fs ss:=c74g ts fs ss ss h8 hs
theorem c21 (ts:List ByteArray) (fs:List Fm) (ss:List Sg) (hL:LensJ ts fs ss):PCalls PR glT 21 [.agg [strsV ts,fmsV fs,sgsV ss]] fun r=>r=.tup [vI (clashR ts fs ss).1,vI (clashR ts fs ss).2.1,vI (clashR ts fs ss).2.2]:=by
 refine fnW_sound (par_ok glT) Tryd.func21 ?_;conv=>whnf
 refine byC (c71 glT ts fs ss hL) op71 ?_
 rcases Classical.em (chE ts fs ss=0) with hk | hk
 ·rw [openV_ok hk]
  have hv:=(chk_valid.1 hk).job
  have h8:=hv.n8
  have hs6:=hv.s6
  conv=>whnf
  refine byC (c74 ts fs ss h8 hs6) op74 ?_
  unfold clashV
  rcases hJ:clashJ fs ss with _ | ⟨a,b⟩
  ·conv=>whnf
   unfold clashR
   rw [if_neg (fun h=>h hk),hJ]
  conv=>whnf
  unfold clashR
  rw [if_neg (fun h=>h hk),hJ]
 rw [openV_no hk]
 conv=>whnf
 apply bc9<;>intro h2
 ·conv=>whnf
  unfold clashR
  rw [if_pos hk]
 exfalso
 have h2:(chE ts fs ss != 0)=false:=h2
 exact hk (by simpa using h2)
theorem op21:Opens PR 21:=⟨_,Tryd.func21,rfl,rfl⟩
theorem c76 (gl:Gl) (ts:List ByteArray) (fs:List Fm) (ss:List Sg) (hs:SsOk fs.length 6 ss) (_hlk:∀ s∈ss,0≤s.2.2∧s.2.2≤2) (hf:∀ f∈fs,0≤f.2.2.1∧f.2.2.1≤60) (hsl:ss.length≤60) (G M:List Int) (kind:Int) (m:Nat) (hm:m < 2 ^ 63):PCalls PR gl 76 [.ref [strsV ts,fmsV fs,sgsV ss,.arr (S:=S) U.int 8 G,.arr (S:=S) U.int 8 M],vI kind,vI m] fun r=>r=.agg [vI (crackS fs (pickS ss m.testBit) kind).1,vI (crackS fs (pickS ss m.testBit) kind).2]:=by
 refine fnW_sound (par_ok gl) Tryd.func76 ?_;conv=>whnf
 refine ⟨⟨229575,[],[]⟩,?_⟩
 refine LoopW_ind _ (fun i:Nat=>(({ tmps:=[.ref [strsV ts,fmsV fs,sgsV ss,.arr (S:=S) U.int 8 G,.arr (S:=S) U.int 8 M],vI kind,vI m,J,J,J,.own 6 [],.own 7 [],J,J,J,J,J,J,J,sgsV ss,vI ss.length,vI i,J,J,J,J,J,J,J,J,J,J,J,J,J,J,J,J,J,J,J,J,J,J,J,J,J,J,J,J,J,J,J,J,J,J,J,J,J,J,J,J,J,J,J,J,J,J,J,J,J,J,J,J],seg:=[(6,.cells [vI 0,vI 0]),(7,.cells [vI (crackS fs (pickU ss m.testBit i) kind).1,vI (crackS fs (pickU ss m.testBit i) kind).2])],up:=[] }:St S))) (fun i:Nat=>(i≤ss.length)) (fun i:Nat=>(ss.length - i)) () ?_ 0 (Nat.zero_le _)
 intro i hi Z1 hZ1
 conv=>whnf
 apply bc9<;>intro h3
 ·have hlt:i < ss.length:=by have:=of_decide_eq_true h3; omega
  have hw:=wrap_nat (n:=i) (by omega)
  have hsf:=hs.f _ (List.getElem_mem hlt)
  obtain ⟨f,hf1⟩:∃ f:Nat,ss[i].1=(f:Int):=⟨ss[i].1.toNat,by omega⟩
  have hfl:f < fs.length:=by omega
  have hfo:=hf _ (List.getElem_mem hfl)
  have hgf:getI fs ss[i].1=some fs[f]:=by rw [hf1]; exact getI_nat hfl
  have hgd:fs.getD ss[i].1.toNat f0=fs[f]:=by rw [hf1,Int.toNat_natCast,getD_at hfl]
  have hwo:IntKind.i64.wrap (fs[f].2.2.1+1)=fs[f].2.2.1+1:=wrap_int (by omega) (by omega)
  have hsN:m.testBit i=false→crackS fs (pickU ss m.testBit (i+1)) kind=crackS fs (pickU ss m.testBit i) kind:=fun h=>by rw [pickU_succ,h,if_neg (by simp),List.append_nil]
  have hsY:m.testBit i=true→crackS fs (pickU ss m.testBit (i+1)) kind=crackStep fs kind (crackS fs (pickU ss m.testBit i) kind) ss[i]:=fun h=>by rw [pickU_succ,h,if_pos rfl,getD_at hlt]; unfold crackS; rw [List.foldl_append]; rfl
  conv=>whnf
  refine ⟨_,getI_nat hlt,?_⟩;conv=>whnf
  apply bc9<;>intro g5_4
  ·have hk:ss[i].2.1≠kind:=by have g5_4:(ss[i].2.1 != kind)=true:=g5_4; simpa using g5_4
   have hst:crackS fs (pickU ss m.testBit (i+1)) kind=crackS fs (pickU ss m.testBit i) kind:=by
    cases hb:m.testBit i with
    | false=>exact hsN hb
    | true=>rw [hsY hb]; unfold crackStep; rw [if_pos hk]
   conv=>whnf
   refine ⟨⟨229575,[9,1009,2009,3009,4009],[]⟩,?_⟩;conv=>whnf
   rw [hw,←hst]
   exact hZ1 (i+1) hlt (by omega)
  have hk:ss[i].2.1=kind:=by have g5_4:(ss[i].2.1 != kind)=false:=g5_4; simpa using g5_4
  conv=>whnf
  refine ⟨by omega,?_⟩;conv=>whnf
  apply bc9<;>intro h5
  ·have h5:m.testBit i=false:=by have h5:(bitsI .and .i64 (shrI .i64 (m:Int) (i:Int)) 1==0)=true:=h5; rw [bitZ hm (by omega)] at h5; simpa using h5
   conv=>whnf
   refine ⟨⟨229575,[9,1009,2009,3009,4009],[]⟩,?_⟩;conv=>whnf
   rw [hw,←hsN h5]
   exact hZ1 (i+1) hlt (by omega)
  have h5:m.testBit i=true:=by have h5:(bitsI .and .i64 (shrI .i64 (m:Int) (i:Int)) 1==0)=false:=h5; rw [bitZ hm (by omega)] at h5; simpa using h5
  have hst:=hsY h5
  unfold crackStep at hst
  rw [if_neg (fun h=>h hk),hgd] at hst
  conv=>whnf
  apply bc9<;>intro h7
  ·have h7:ss[i].2.2=1:=by have h7:(ss[i].2.2==1)=true:=h7; simpa using h7
   rw [if_pos h7] at hst
   conv=>whnf
   refine ⟨[0,1,2,3,4,5,6,7,8,9,10,11,12,13,14,15],[],[],[],⟨1180591620717411303423,[],[]⟩,by decide +kernel,?_⟩;conv=>whnf
   refine ⟨_,hgf,?_⟩;conv=>whnf
   refine ⟨⟨229575,[9,1009,2009,3009,4009],[]⟩,?_⟩;conv=>whnf
   rw [hw,hwo,max_if]
   have:=hZ1 (i+1) hlt (by omega)
   rw [hst] at this
   exact this
  have h7:ss[i].2.2≠1:=by have h7:(ss[i].2.2==1)=false:=h7; simpa using h7
  rw [if_neg h7] at hst
  conv=>whnf
  apply bc9<;>intro h9
  ·have h9:ss[i].2.2=2:=by have h9:(ss[i].2.2==2)=true:=h9; simpa using h9
   rw [if_pos h9] at hst
   conv=>whnf
   refine ⟨[0,1,2,3,4,5,6,7,8,9,10,11,12,13,14],[],[],[],⟨1180591620717411303423,[],[]⟩,by decide +kernel,?_⟩;conv=>whnf
   refine ⟨_,hgf,?_⟩;conv=>whnf
   refine ⟨⟨229575,[9,1009,2009,3009,4009],[]⟩,?_⟩;conv=>whnf
   rw [hw,min_if]
   have:=hZ1 (i+1) hlt (by omega)
   rw [hst] at this
   exact this
  have h9:ss[i].2.2≠2:=by have h9:(ss[i].2.2==2)=false:=h9; simpa using h9
  rw [if_neg h9] at hst
  conv=>whnf
  refine ⟨⟨229575,[9,1009,2009,3009,4009],[]⟩,?_⟩;conv=>whnf
  rw [hw]
  have:=hZ1 (i+1) hlt (by omega)
  rw [hst] at this
  exact this
 have hge:i=ss.length:=by have:=of_decide_eq_false h3; omega
 subst hge
 conv=>whnf
theorem op76:Opens PR 76:=⟨_,Tryd.func76,rfl,rfl⟩
def enterV (ts:List ByteArray) (fs:Fms) (ss:Sgs):AV S:=if askE ts fs ss=0 then .tup [.ref (jobL ts fs ss),vI 0] else .tup [.nilp,vI (askE ts fs ss)]
theorem enterV_ok {ts:List ByteArray} {fs:Fms} {ss:Sgs} (h:askE ts fs ss=0):enterV ts fs ss=.tup [.ref (jobL ts fs ss),vI 0]:=by unfold enterV; rw [if_pos h]
theorem enterV_no {ts:List ByteArray} {fs:Fms} {ss:Sgs} (h:askE ts fs ss≠0):enterV ts fs ss=.tup [.nilp,vI (askE ts fs ss)]:=by unfold enterV; rw [if_neg h]
theorem ask_ch {ts:List ByteArray} {fs:Fms} {ss:Sgs} (h:askE ts fs ss=0):chE ts fs ss=0:=by
 unfold askE at h
 split at h
 ·exact absurd h (by assumption)
 rename_i h'; exact Classical.byContradiction h'
theorem ask_clash {ts:List ByteArray} {fs:Fms} {ss:Sgs} (h:askE ts fs ss=0):clashJ fs ss=none:=by
 have hc:=ask_ch h
 unfold askE at h
 rw [if_neg (fun h'=>h' hc)] at h
 cases hJ:clashJ fs ss with
 | none=>rfl
 | some p=>rw [hJ] at h; simp at h
theorem ask_valid {ts:List ByteArray} {fs:Fms} {ss:Sgs} (h:askE ts fs ss=0):Valid ts fs ss:=chk_valid.1 (ask_ch h)
theorem c23 (gl:Gl) (ts:List ByteArray) (fs:List Fm) (ss:List Sg) (hL:LensJ ts fs ss) (t:Int):PCalls PR gl 23 [.agg [strsV ts,fmsV fs,sgsV ss],vI t] fun r=>r=.tup [.agg [vI (crackR ts fs ss t).1,vI (crackR ts fs ss t).2.1],vI (crackR ts fs ss t).2.2]:=by
 refine fnW_sound (par_ok gl) Tryd.func23 ?_;conv=>whnf
 refine byC (c71 gl ts fs ss hL) op71 ?_
 rcases Classical.em (chE ts fs ss=0) with hk | hk
 ·rw [openV_ok hk]
  have hV:=chk_valid.1 hk
  have hv12:=hV.s12
  have hv:=(chk_valid.1 hk).job
  have h8:=hv.n8
  have hs6:=hv.s6
  have hm:=mask_lt (n:=ss.length) (by omega)
  have hpk:pickS ss (2 ^ ss.length - 1).testBit=ss:=pick_all fun i hi=>mask_bit hi
  have h6:(ts.length:Int)≤6:=by have:=hv.t6; omega
  have hwr:IntKind.i64.wrap ((ts.length:Int) - 1)=(ts.length:Int) - 1:=wrap_int (by omega) (by omega)
  have h76:=c76 gl ts fs ss hs6 (fun s hs=>by obtain ⟨i,hi,e⟩:=List.getElem_of_mem hs; have:=hV.sight hi; rw [←e]; omega) (fun f hf=>by obtain ⟨i,hi,e⟩:=List.getElem_of_mem hf; have:=hV.forme hi; rw [←e]; omega) (by omega) (natsV (groupsM fs.length ss)) (natsV (meetM (stN fs) fs.length)) t (2 ^ ss.length - 1) hm
  rw [hpk,←mask_all (by omega)] at h76
  conv=>whnf
  refine ⟨_,rfl,?_⟩;conv=>whnf
  refine byC (c60 gl [t] (by simp) 0 _) op60 ?_;conv=>whnf
  apply bc9<;>intro h4
  ·rw [hwr] at h4
   have h4:[t].any (outB 0 ((ts.length:Int) - 1))=true:=h4
   conv=>whnf
   unfold crackR
   rw [if_neg (fun h=>h hk),if_pos h4]
  rw [hwr] at h4
  have h4:¬ [t].any (outB 0 ((ts.length:Int) - 1))=true:=fun h=>by rw [h] at h4; cases h4
  conv=>whnf
  refine ⟨by omega,?_⟩;conv=>whnf
  refine byC h76 op76 ?_;conv=>whnf
  apply bc9<;>intro h7
  ·have h7:(crackS fs ss t).1 > (crackS fs ss t).2:=of_decide_eq_true h7
   conv=>whnf
   unfold crackR
   rw [if_neg (fun h=>h hk),if_neg h4,if_pos h7]
  have h7:¬ (crackS fs ss t).1 > (crackS fs ss t).2:=of_decide_eq_false h7
  conv=>whnf
  unfold crackR
  rw [if_neg (fun h=>h hk),if_neg h4,if_neg h7]
 rw [openV_no hk]
 conv=>whnf
 apply bc9<;>intro h2
 ·conv=>whnf
  unfold crackR
  rw [if_pos hk]
 exfalso
 have h2:(chE ts fs ss != 0)=false:=h2
 exact hk (by simpa using h2)
theorem op23:Opens PR 23:=⟨_,Tryd.func23,rfl,rfl⟩
theorem c83 (ts:List ByteArray) (fs:List Fm) (ss:List Sg) (hL:LensJ ts fs ss):PCalls PR glT 83 [.agg [strsV ts,fmsV fs,sgsV ss]] fun r=>r=enterV ts fs ss:=by
 refine fnW_sound (par_ok glT) Tryd.func83 ?_;conv=>whnf
 refine byC (c71 glT ts fs ss hL) op71 ?_
 rcases Classical.em (chE ts fs ss=0) with hk | hk
 ·rw [openV_ok hk]
  have hv:=(chk_valid.1 hk).job
  have h8:=hv.n8
  have hs6:=hv.s6
  conv=>whnf
  refine byC (c74 ts fs ss h8 hs6) op74 ?_
  unfold clashV
  rcases hJ:clashJ fs ss with _ | ⟨a,b⟩
  ·have he:askE ts fs ss=0:=by unfold askE; rw [if_neg (fun h=>h hk),hJ]; rfl
   conv=>whnf
   rw [enterV_ok he]
  have he:askE ts fs ss=9:=by unfold askE; rw [if_neg (fun h=>h hk),hJ]; rfl
  conv=>whnf
  rw [enterV_no (by rw [he]; decide),he]
 rw [openV_no hk]
 conv=>whnf
 apply bc9<;>intro h2
 ·conv=>whnf
  have he:askE ts fs ss=chE ts fs ss:=by unfold askE; rw [if_pos hk]
  rw [enterV_no (by rw [he]; exact hk),he]
 exfalso
 have h2:(chE ts fs ss != 0)=false:=h2
 exact hk (by simpa using h2)
theorem op83:Opens PR 83:=⟨_,Tryd.func83,rfl,rfl⟩
theorem c85 (gl:Gl) (xs:List Int) (hx:xs≠[]) (hl:xs.length≤100000):PCalls PR gl 85 [vL xs] fun r=>r=vL xs:=by
 refine fnW_sound (par_ok gl) Tryd.func85 ?_;conv=>whnf
 refine ⟨hx,?_⟩;conv=>whnf
 refine ⟨lim (show xs.length≤1000000000 by omega),false,?_⟩;conv=>whnf
theorem op85:Opens PR 85:=⟨_,Tryd.func85,rfl,rfl⟩
def relOf (g:List Nat):Rel:=fun i k=>(g.getD i 0).testBit k
abbrev pad8 (l:List Nat):List Nat:=l++List.replicate (8 - l.length) 0
abbrev fill8 (n lim:Nat) (gm mm:List Nat):AV S:=.clo (.func 115) [] [.ref [vI n],.up 5 [],.up 6 [],.ref [vI lim],.ref [arr8 gm],.ref [arr8 mm],.up 7 []]
abbrev upsI (n lim:Nat) (gm mm:List Nat) (xs:List Int):List (Nat×AO S):=[(5,.cells [.cb]),(6,.cells [.arr (S:=S) U.int 8 xs]),(7,.cells [fill8 n lim gm mm])]
abbrev ups115 (n lim:Nat) (gm mm cur:List Nat):List (Nat×AO S):=upsI n lim gm mm (natsV cur)
structure Cur (n t:Nat) (l cur:List Nat):Prop where
 len:cur.length=8
 tk:cur.take t=l
 z:∀ j,n≤j→j < 8→cur[j]?=some 0
theorem Cur.set {n t k:Nat} {l cur:List Nat} (h:Cur n t l cur) (ht:t < n) (hn:n≤8):Cur n (t+1) (l++[k]) (cur.set t k):=by
 refine ⟨by simp [h.len],?_,fun j hj hj5=>?_⟩
 ·rw [List.take_set,List.take_succ_eq_append_getElem (by rw [h.len]; omega),h.tk]
  have hp:l.length=t:=by rw [←h.tk,List.length_take,h.len]; omega
  rw [List.set_append_right _ _ (by omega)]
  simp [hp]
 rw [List.getElem?_set_ne (by omega)]
 exact h.z j hj hj5
theorem Cur.back {n t k:Nat} {l cur:List Nat} (h:Cur n (t+1) (l++[k]) cur) (hp:l.length=t):Cur n t l cur :=
 ⟨h.len,by have:=congrArg (List.take t) h.tk; rw [List.take_take,Nat.min_eq_left (Nat.le_succ t),List.take_append_of_le_length (by omega)] at this; rw [this,List.take_of_length_le (by omega)],h.z⟩
theorem Cur.done {n:Nat} {l cur:List Nat} (h:Cur n n l cur) (hn:n≤8):cur=pad8 l:=by
 have hp:l.length=n:=by rw [←h.tk,List.length_take,h.len]; omega
 apply List.ext_getElem?
 intro j
 rcases Nat.lt_or_ge j n with hj | hj
 ·rw [List.getElem?_append_left (by omega),←h.tk,List.getElem?_take,if_pos hj]
 rw [List.getElem?_append_right (by omega)]
 rcases Nat.lt_or_ge j 8 with hj5 | hj5
 ·rw [h.z j hj hj5,List.getElem?_replicate,if_pos (by omega)]
 rw [List.getElem?_eq_none (by rw [h.len]; exact hj5),List.getElem?_eq_none (by simp; omega)]
theorem Cur.get {n t j:Nat} {l cur:List Nat} (h:Cur n t l cur) (hj:j < t):cur.getD j 0=l.getD j 0:=by rw [←h.tk,getD_take hj]
theorem okN_T {G M:Rel} {l:List Nat} {x t:Nat} (ht:l.length=t) (h:∀ k,k < t→(G t k&&l.getD k 0 != x||M t k&&l.getD k 0==x)=false):okN G M l x=true:=by
 subst ht
 unfold okN
 rw [List.all_eq_true]
 intro k hk
 rw [h k (List.mem_range.1 hk)]; rfl
theorem okN_F {G M:Rel} {l:List Nat} {x t k:Nat} (ht:l.length=t) (hk:k < t) (h:(G t k&&l.getD k 0 != x||M t k&&l.getD k 0==x)=true):okN G M l x=false:=by
 subst ht
 unfold okN
 rw [←Bool.not_eq_true,List.all_eq_true]
 intro h'
 have:=h' k (List.mem_range.2 hk)
 rw [h] at this; cases this
theorem neN {a b:Nat}:(((a:Nat):Int) != ((b:Nat):Int))=(a != b):=by
 rw [Bool.eq_iff_iff]; simp; omega
theorem eqN {a b:Nat}:(((a:Nat):Int)==((b:Nat):Int))=(a==b):=by
 rw [Bool.eq_iff_iff]; simp; omega
theorem op115:Opens PR 115:=⟨_,Tryd.func115,rfl,rfl⟩
theorem u115 (gl:Gl) (Y:Type) (B:List (AV S)→Y→(AV S→Y→Prop)→Prop) (hm:BMono B) (n lim:Nat) (hn:n≤8) (_hl8:lim≤9) (gm mm:List Nat) (hgm:gm.length=8) (hmm:mm.length=8) (hg:∀ i,i < n→gm.getD i 0 < 2 ^ 8) (hmt:∀ i,i < n→mm.getD i 0 < 2 ^ 8) :
  ∀ (m t u:Nat) (l cur:List Nat),t+m=n→l.length=t→u≤t→Cur n t l cur→∀ (y:Y) (Q:AV S→List (Nat×AO S)→Y→Prop),
  eachR B ((ways (relOf gm) (relOf mm) lim m l u).map fun p:List Nat×Nat=>[.agg [arr8 (pad8 p.1)],vI p.2]) y (fun b y'=>∀ cur',Cur n t l cur'→Q (.bool b) (ups115 n lim gm mm cur') y')→∀ En:Env Y,CbOk PR gl En B →
  UCalls PR gl En 115 [vI t,vI u,.ref [vI n],.up 5 [],.up 6 [],.ref [vI lim],.ref [arr8 gm],.ref [arr8 mm],.up 7 []] (ups115 n lim gm mm cur) y Q:=by
 intro m
 induction m
 case zero =>
  intro t u l cur htm hp hu hc y Q h En hB
  refine fnU_sound (pb_ok gl Y B En hB) Tryd.func115 ?_;conv=>whnf
  refine bcase_iff.2 ⟨fun _=>?_,fun h'=>?_⟩
  ·conv=>whnf
   have ht:t=n:=by omega
   subst ht
   have h:B [.agg [arr8 (pad8 l)],vI u] y fun r y'=>match r with
    | .bool b=>match b with
     | true=>∀ cur',Cur t t l cur'→Q (.bool true) (ups115 t lim gm mm cur') y'
     | false=>∀ cur',Cur t t l cur'→Q (.bool false) (ups115 t lim gm mm cur') y'
    | _=>False:=h
   rw [←hc.done hn] at h
   refine hm _ _ _ _ (fun r y' hr=>?_) h
   cases r with
   | bool b =>
    conv=>whnf
    cases b with
    | true=>exact hr _ hc
    | false=>exact hr _ hc
   | _=>exact hr.elim
  have:t=n:=by omega
  subst this
  simp at h'
 rename_i m ih
 intro t u l cur htm hp hu hc y Q h En hB
 refine fnU_sound (pb_ok gl Y B En hB) Tryd.func115 ?_;conv=>whnf
 apply bc9<;>intro h1
 ·exfalso
  have:(t:Int)=n:=by simpa using h1
  omega
 have htn:t < n:=by omega
 have hmin:(if IntKind.i64.wrap ((u:Int)+1) < (lim:Int) then IntKind.i64.wrap ((u:Int)+1) else (lim:Int))=((min lim (u+1):Nat):Int):=by
  rw [wrap_nat (by omega)]; split <;> omega
 have hwt:=wrap_nat (n:=t) (by omega)
 rw [ways,List.range_eq_range'] at h
 conv=>whnf
 refine ⟨⟨50332115,[],[]⟩,?_⟩
 refine LoopW_indX _ (fun s9:Nat×List Nat×Y=>match s9 with | (x,cur,y)=>(({ tmps:=[vI t,vI u,J,J,.up 6 [],J,.ref [arr8 gm],.ref [arr8 mm],.up 7 [],J,J,J,J,J,J,J,J,J,J,J,J,J,J,J,vI (if IntKind.i64.wrap ((u:Int)+1) < (lim:Int) then IntKind.i64.wrap ((u:Int)+1) else (lim:Int)),vI x,J,J,J,J,J,J,J,J,J,J,J,J,J,J,J,J,J,J,J,J,J,J,J,J,J,J,J,J,J,J,J,J,J,J,J,J,J,J,J,J,J,J,J,J,J,J,J,J,J,J],seg:=[],up:=ups115 n lim gm mm cur }:St S))) (fun s9:Nat×List Nat×Y=>match s9 with | (x,cur,y)=>(y)) (fun s9:Nat×List Nat×Y=>match s9 with | (x,cur,y)=>(x≤min lim (u+1)∧Cur n t l cur∧eachR B (((List.range' x (min lim (u+1) - x)).flatMap fun x=>if okN (relOf gm) (relOf mm) l x then ways (relOf gm) (relOf mm) lim m (l++[x]) (max u (x+1)) else []).map (fun p:List Nat×Nat=>[.agg [arr8 (pad8 p.1)],vI p.2])) y (fun b y'=>∀ cur',Cur n t l cur'→Q (.bool b) (ups115 n lim gm mm cur') y'))) (fun s9:Nat×List Nat×Y=>match s9 with | (x,cur,y)=>(min lim (u+1) - x)) ?_ (0,cur,y) ⟨Nat.zero_le _,hc,h⟩
 rintro ⟨x,cur,y⟩ hinv Z1 hZ1
 dsimp only at hinv hZ1
 obtain ⟨hx0,hc,h⟩:=hinv
 conv=>whnf
 apply bc9<;>intro h4
 ·rw [hmin] at h4
  have hx:x < min lim (u+1):=by have:=of_decide_eq_true h4; omega
  have hw:=wrap_nat (n:=x) (by omega)
  rw [show min lim (u+1) - x=(min lim (u+1) - (x+1))+1 by omega,List.range'_succ,List.flatMap_cons,List.map_append] at h
  conv=>whnf
  refine ⟨⟨855642579,[],[]⟩,?_⟩
  refine LoopW_indX _ (fun k:Nat=>(({ tmps:=[vI t,vI u,J,J,.up 6 [],J,.ref [arr8 gm],.ref [arr8 mm],.up 7 [],J,J,J,vI x,J,J,J,J,J,J,J,J,J,J,J,vI (if IntKind.i64.wrap ((u:Int)+1) < (lim:Int) then IntKind.i64.wrap ((u:Int)+1) else (lim:Int)),vI x,J,J,vI t,vI k,J,J,J,J,J,J,J,J,J,J,J,J,J,J,J,J,J,J,J,J,J,J,J,J,J,J,J,J,J,J,J,J,J,J,J,J,J,J,J,J,J,J,J,J,J,J],seg:=[],up:=ups115 n lim gm mm cur }:St S))) (fun k:Nat=>(y)) (fun k:Nat=>(k≤t∧∀ j,j < k→(relOf gm t j&&l.getD j 0 != x||relOf mm t j&&l.getD j 0==x)=false)) (fun k:Nat=>(t - k)) ?_ 0 ⟨Nat.zero_le _,fun j hj=>absurd hj (Nat.not_lt_zero j)⟩
  intro k hinv Z2 hZ2
  obtain ⟨hk,hd⟩:=hinv
  conv=>whnf
  apply bc9<;>intro h7
  ·have hk7:k < t:=by have:=of_decide_eq_true h7; omega
   have hwk:=wrap_nat (n:=k) (by omega)
   have hck:=hc.get hk7
   conv=>whnf
   refine ⟨_,getI_natsD (by rw [hgm]; omega),?_⟩;conv=>whnf
   refine ⟨by omega,?_⟩;conv=>whnf
   apply bc9<;>intro g9_7
   ·have g1:relOf gm t k=true:=by
     have:=bitN (lt63 (hg t htn)) (show k < 64 by omega)
     rw [←g9_7]
     exact this.symm
    conv=>whnf
    refine ⟨by omega,by omega,?_⟩;conv=>whnf
    refine ⟨_,getI_natsD (by rw [hc.len]; omega),?_⟩;conv=>whnf
    apply bc9<;>intro g9_14
    ·have g2:(l.getD k 0 != x)=true:=by rw [←hck,←neN]; exact g9_14
     conv=>whnf
     refine ⟨⟨50332115,[],[]⟩,?_⟩;conv=>whnf
     have hbad:okN (relOf gm) (relOf mm) l x=false:=okN_F hp hk7 (by rw [g1,g2]; simp)
     rw [hbad] at h
     simp only [Bool.false_eq_true,if_false,List.map_nil,List.nil_append] at h
     rw [hw]
     exact hZ1 (x+1,cur,y) ⟨hx,hc,h⟩ (by omega)
    have g2:(l.getD k 0 != x)=false:=by rw [←hck,←neN]; exact g9_14
    conv=>whnf
    refine ⟨_,getI_natsD (by rw [hmm]; omega),?_⟩;conv=>whnf
    refine ⟨by omega,?_⟩;conv=>whnf
    apply bc9<;>intro g9_22
    ·have g3:relOf mm t k=true:=by
      have:=bitN (lt63 (hmt t htn)) (show k < 64 by omega)
      rw [←g9_22]
      exact this.symm
     conv=>whnf
     refine ⟨by omega,by omega,?_⟩;conv=>whnf
     refine ⟨_,getI_natsD (by rw [hc.len]; omega),?_⟩;conv=>whnf
     apply bc9<;>intro h9
     ·have g4:(l.getD k 0==x)=true:=by rw [←hck,←eqN]; exact h9
      conv=>whnf
      refine ⟨⟨50332115,[],[]⟩,?_⟩;conv=>whnf
      have hbad:okN (relOf gm) (relOf mm) l x=false:=okN_F hp hk7 (by rw [g3,g4]; simp)
      rw [hbad] at h
      simp only [Bool.false_eq_true,if_false,List.map_nil,List.nil_append] at h
      rw [hw]
      exact hZ1 (x+1,cur,y) ⟨hx,hc,h⟩ (by omega)
     have g4:(l.getD k 0==x)=false:=by rw [←hck,←eqN]; exact h9
     conv=>whnf
     refine ⟨⟨855642579,[],[]⟩,?_⟩;conv=>whnf
     rw [hwk]
     exact hZ2 (k+1) ⟨hk7,up_succ hd (by rw [g1,g2,g3,g4]; simp)⟩ (by omega)
    have g3:relOf mm t k=false:=by
     have:=bitN (lt63 (hmt t htn)) (show k < 64 by omega)
     rw [←g9_22]
     exact this.symm
    conv=>whnf
    refine ⟨⟨855642579,[],[]⟩,?_⟩;conv=>whnf
    rw [hwk]
    exact hZ2 (k+1) ⟨hk7,up_succ hd (by rw [g1,g2,g3]; simp)⟩ (by omega)
   have g1:relOf gm t k=false:=by
    have:=bitN (lt63 (hg t htn)) (show k < 64 by omega)
    rw [←g9_7]
    exact this.symm
   conv=>whnf
   refine ⟨_,getI_natsD (by rw [hmm]; omega),?_⟩;conv=>whnf
   refine ⟨by omega,?_⟩;conv=>whnf
   apply bc9<;>intro g9_22
   ·have g3:relOf mm t k=true:=by
     have:=bitN (lt63 (hmt t htn)) (show k < 64 by omega)
     rw [←g9_22]
     exact this.symm
    conv=>whnf
    refine ⟨by omega,by omega,?_⟩;conv=>whnf
    refine ⟨_,getI_natsD (by rw [hc.len]; omega),?_⟩;conv=>whnf
    apply bc9<;>intro h9
    ·have g4:(l.getD k 0==x)=true:=by rw [←hck,←eqN]; exact h9
     conv=>whnf
     refine ⟨⟨50332115,[],[]⟩,?_⟩;conv=>whnf
     have hbad:okN (relOf gm) (relOf mm) l x=false:=okN_F hp hk7 (by rw [g3,g4]; simp)
     rw [hbad] at h
     simp only [Bool.false_eq_true,if_false,List.map_nil,List.nil_append] at h
     rw [hw]
     exact hZ1 (x+1,cur,y) ⟨hx,hc,h⟩ (by omega)
    have g4:(l.getD k 0==x)=false:=by rw [←hck,←eqN]; exact h9
    conv=>whnf
    refine ⟨⟨855642579,[],[]⟩,?_⟩;conv=>whnf
    rw [hwk]
    exact hZ2 (k+1) ⟨hk7,up_succ hd (by rw [g1,g3,g4]; simp)⟩ (by omega)
   have g3:relOf mm t k=false:=by
    have:=bitN (lt63 (hmt t htn)) (show k < 64 by omega)
    rw [←g9_22]
    exact this.symm
   conv=>whnf
   refine ⟨⟨855642579,[],[]⟩,?_⟩;conv=>whnf
   rw [hwk]
   exact hZ2 (k+1) ⟨hk7,up_succ hd (by rw [g1,g3]; simp)⟩ (by omega)
  have hkt:k=t:=by have:=of_decide_eq_false h7; omega
  rw [hkt] at hd
  have hok:=okN_T hp hd
  rw [hok,if_pos rfl] at h
  have hmx:(if IntKind.i64.wrap ((x:Int)+1) > (u:Int) then IntKind.i64.wrap ((x:Int)+1) else (u:Int))=((max u (x+1):Nat):Int):=by
   rw [hw]; split <;> omega
  conv=>whnf
  refine ⟨by omega,by omega,?_⟩;conv=>whnf
  refine ⟨_,getI_natsD (by rw [hc.len]; omega),?_⟩;conv=>whnf
  refine ⟨_,rfl,?_⟩;conv=>whnf
  refine ⟨fun En' hB'=>uc2 hwt hmx (uc3 (congrArg (upsI n lim gm mm) (nats_set cur t x)) (ih (t+1) (max u (x+1)) (l++[x]) (cur.set t x) (by omega) (by simp [hp]) (by omega) (hc.set htn hn) y _ ?_ En' hB')),op115⟩
  refine eachR_mono hm _ _ _ _ (fun b y' hb cur' hc'=>?_) (eachR_append hm _ _ _ _ h)
  rcases b with _ | _
  ·conv=>whnf
   exact hb cur' (hc'.back hp)
  conv=>whnf
  refine ⟨⟨50332115,[],[]⟩,?_⟩;conv=>whnf
  rw [hw]
  exact hZ1 (x+1,cur',y') ⟨hx,hc'.back hp,hb⟩ (by omega)
 rw [hmin] at h4
 have hxe:min lim (u+1) - x=0:=by have:=of_decide_eq_false h4; omega
 rw [hxe] at h
 have h:∀ cur',Cur n t l cur'→Q (.bool true) (ups115 n lim gm mm cur') y:=h
 conv=>whnf
 exact h cur hc
theorem it114 (gl:Gl) (n:Nat) (hn:n≤8) (gm mm:List Nat) (hgm:gm.length=8) (hmm:mm.length=8) (hg:∀ i,i < n→gm.getD i 0 < 2 ^ 8) (hmt:∀ i,i < n→mm.getD i 0 < 2 ^ 8) (lim:Nat) (hl:lim≤9):ICalls PR gl 114 [.ref [vI n],.ref [vI lim],.ref [arr8 gm],.ref [arr8 mm]] ((waysA (relOf gm) (relOf mm) lim n).map fun p:List Nat×Nat=>[.agg [arr8 (pad8 p.1)],vI p.2]):=by
 refine iter_sound Tryd.func114 (pb gl) (pb_ok gl) fun Y B hm y Q h=>?_
 conv=>whnf
 refine ⟨fun En' hB'=>u115 gl Y B hm n lim hn hl gm mm hgm hmm hg hmt n 0 0 [] (List.replicate 8 0) (by omega) rfl (Nat.le_refl _) ⟨rfl,rfl,fun j _ hj=>by rw [List.getElem?_replicate,if_pos hj]⟩ y _ ?_ En' hB',op115⟩
 refine eachR_mono hm _ _ _ _ (fun b y' hb cur' _=>?_) (eachR_of_B hm _ _ _ h)
 cases b <;> (conv=>whnf) <;> exact hb
theorem op114:Opens PR 114:=⟨_,Tryd.func114,rfl,rfl⟩
theorem c90 (gl:Gl) (n lim:Nat) (gm mm:List Nat):PCalls PR gl 90 [vI n,vI lim,.agg [arr8 gm],.agg [arr8 mm]] fun r=>r=.clo (.func 114) [] [.ref [vI n],.ref [vI lim],.ref [arr8 gm],.ref [arr8 mm]]:=by
 refine fnW_sound (par_ok gl) Tryd.func90 ?_;conv=>whnf
theorem op90:Opens PR 90:=⟨_,Tryd.func90,rfl,rfl⟩
theorem fewS_at {G M:Rel} {n i:Nat} {p:List Nat×Nat} {l:List (List Nat×Nat)} (hi:i < n) (h:∀ j,j < i→waysA G M (j+1) n=[]) (hw:waysA G M (i+1) n=p :: l):fewS G M n=p:=by
 unfold fewS
 rw [show n=i+((n - i - 1)+1) by omega,List.range_eq_range',←List.range'_append_1,List.findSome?_append,Nat.zero_add,List.range'_succ,List.findSome?_cons]
 have h0:(List.range' 0 i).findSome? (fun lim=>(waysA G M (lim+1) (i+((n - i - 1)+1))).head?)=none:=by
  rw [List.findSome?_eq_none_iff]
  intro j hj
  rw [List.mem_range'_1] at hj
  rw [show i+((n - i - 1)+1)=n by omega,h j (by omega)]; rfl
 rw [h0,show i+((n - i - 1)+1)=n by omega,hw]; rfl
theorem fewS_no {G M:Rel} {n:Nat} (h:∀ j,j < n→waysA G M (j+1) n=[]):fewS G M n=([],0):=by
 unfold fewS
 rw [List.findSome?_eq_none_iff.2 (fun j hj=>by rw [h j (List.mem_range.1 hj)]; rfl)]; rfl
theorem c84 (gl:Gl) (n:Nat) (hn:n≤8) (gm mm:List Nat) (hgm:gm.length=8) (hmm:mm.length=8) (hg:∀ i,i < n→gm.getD i 0 < 2 ^ 8) (hmt:∀ i,i < n→mm.getD i 0 < 2 ^ 8):PCalls PR gl 84 [vI n,.agg [arr8 gm],.agg [arr8 mm]] fun r=>r=.tup [.agg [arr8 (pad8 (fewS (relOf gm) (relOf mm) n).1)],vI (fewS (relOf gm) (relOf mm) n).2]:=by
 refine fnW_sound (par_ok gl) Tryd.func84 ?_;conv=>whnf
 refine ⟨⟨6385,[],[]⟩,?_⟩
 refine LoopW_ind _ (fun i:Nat=>(({ tmps:=[vI n,J,J,J,.own 4 [],.own 5 [],.own 6 [],.own 7 [],J,J,J,vI n,vI i,J,J,J,J,J,J,J,J,J,J,J,J,J,J],seg:=[(4,.cells [arr8 gm]),(5,.cells [arr8 mm]),(6,.cells [arr8 (List.replicate 8 0)]),(7,.cells [vI 0])],up:=[] }:St S))) (fun i:Nat=>(i≤n∧∀ j,j < i→waysA (relOf gm) (relOf mm) (j+1) n=[])) (fun i:Nat=>(n - i)) () ?_ 0 ⟨Nat.zero_le _,fun j h=>absurd h (Nat.not_lt_zero j)⟩
 intro i hinv Z1 hZ1
 obtain ⟨hi,hd⟩:=hinv
 conv=>whnf
 apply bc9<;>intro h2
 ·have hlt:i < n:=by have:=of_decide_eq_true h2; omega
  have hw:=wrap_nat (n:=i) (by omega)
  conv=>whnf
  refine byC (by have:=c90 gl n (i+1) gm mm; rw [←hw] at this; exact this) op90 ?_;conv=>whnf
  refine ⟨⟨1054961,[],[]⟩,?_⟩;conv=>whnf
  refine ⟨(waysA (relOf gm) (relOf mm) (i+1) n).map fun p:List Nat×Nat=>[.agg [arr8 (pad8 p.1)],vI p.2],⟨(by have:=it114 gl n hn gm mm hgm hmm hg hmt (i+1) (by omega); rw [←hw] at this; exact this),op114⟩,?_⟩
  rcases hW5:waysA (relOf gm) (relOf mm) (i+1) n with _ | ⟨p,l⟩
  ·conv=>whnf
   refine ⟨⟨6385,[9,1009,2009,3009,4009],[]⟩,?_⟩;conv=>whnf
   rw [hw]
   exact hZ1 (i+1) ⟨hlt,up_succ hd hW5⟩ (by omega)
  have hf:=fewS_at hlt hd hW5
  conv=>whnf
  rw [hf]
 have hge:i=n:=by have:=of_decide_eq_false h2; omega
 conv=>whnf
 rw [fewS_no (fun j hj=>hd j (by omega))]
 rfl
theorem op84:Opens PR 84:=⟨_,Tryd.func84,rfl,rfl⟩
theorem rel_meet {R:Rel} {n i k:Nat} (hn:n≤8) (hi:i < n) (hk:k < i):relOf (meetM R n) i k=R i k:=by
 unfold relOf
 rw [meet_bit hn hi]
 simp [show k < n by omega]
theorem few_job {fs:Fms} {ss:Sgs} (h8:fs.length≤8):fewS (relOf (groupsM fs.length ss)) (relOf (meetM (stN fs) fs.length)) fs.length=skelJ fs ss :=
 fewS_congr fun _ _ hi hk=>⟨rfl,rel_meet h8 hi hk⟩
theorem ways_job {fs:Fms} {ss:Sgs} (h8:fs.length≤8) (lim:Nat):waysA (relOf (groupsM fs.length ss)) (relOf (meetM (stN fs) fs.length)) lim fs.length=waysA (grpB fs.length ss) (stN fs) lim fs.length :=
 waysA_congr (fun _ _ hi hk=>⟨rfl,rel_meet h8 hi hk⟩) lim
theorem c84j (gl:Gl) (fs:Fms) (ss:Sgs) (h8:fs.length≤8) (hs:SsOk fs.length 6 ss):PCalls PR gl 84 [vI fs.length,.agg [arr8 (groupsM fs.length ss)],.agg [arr8 (meetM (stN fs) fs.length)]] fun r=>r=.tup [.agg [arr8 (pad8 (skelJ fs ss).1)],vI (skelJ fs ss).2]:=by
 have h:=c84 gl fs.length h8 (groupsM fs.length ss) (meetM (stN fs) fs.length) (groups_len fs ss) (meetM_len _ _) (fun i hi=>groups_lt h8 hs (by omega)) (fun i hi=>meetM_lt h8 hi)
 rw [few_job h8] at h
 exact h
theorem rel_alone {i k:Nat} (hi:i < 8):relOf aloneM i k=aloneB i k:=by
 unfold relOf aloneB
 rw [←aloneU_full]
 have:(aloneU 8).getD i 0=2 ^ i:=by simp [aloneU,List.getD_eq_getElem?_getD,hi]
 rw [this,Nat.testBit_two_pow]
 rfl
theorem few_press {fs:Fms} (h8:fs.length≤8):fewS (relOf aloneM) (relOf (meetM (prN fs) fs.length)) fs.length=pressJ fs :=
 fewS_congr fun i k hi hk=>⟨rel_alone (by omega),rel_meet h8 hi hk⟩
theorem c84p (gl:Gl) (fs:Fms) (h8:fs.length≤8):PCalls PR gl 84 [vI fs.length,.agg [arr8 aloneM],.agg [arr8 (meetM (prN fs) fs.length)]] fun r=>r=.tup [.agg [arr8 (pad8 (pressJ fs).1)],vI (pressJ fs).2]:=by
 have h:=c84 gl fs.length h8 aloneM (meetM (prN fs) fs.length) rfl (meetM_len _ _) (fun i hi=>by
  rw [←aloneU_full]
  have:(aloneU 8).getD i 0=2 ^ i:=by simp [aloneU,List.getD_eq_getElem?_getD,show i < 8 by omega]
  rw [this]; exact Nat.pow_lt_pow_right (by omega) (by omega)) (fun i hi=>meetM_lt h8 hi)
 rw [few_press h8] at h
 exact h
theorem take_pad {x:List Nat} {n:Nat} (h:x.length=n):(natsV (pad8 x)).take n=natsV x:=by
 subst h
 simp [natsV,pad8]
theorem c28 (ts:List ByteArray) (fs:List Fm) (ss:List Sg) (hL:LensJ ts fs ss):PCalls PR glT 28 [.agg [strsV ts,fmsV fs,sgsV ss]] fun r=>r=.tup [vL (fewR ts fs ss).1,vI (fewR ts fs ss).2.1,vI (fewR ts fs ss).2.2]:=by
 refine fnW_sound (par_ok glT) Tryd.func28 ?_;conv=>whnf
 refine byC (c83 ts fs ss hL) op83 ?_
 rcases Classical.em (askE ts fs ss=0) with hk | hk
 ·rw [enterV_ok hk]
  have hv:=(ask_valid hk).job
  have h8:=hv.n8
  have hs6:=hv.s6
  have h0:=hv.n0
  obtain ⟨x0,u0,hsk⟩:=skel_of h0 h8 hs6 (ask_clash hk)
  have hsl:List.drop 0 (List.take ((fs.length:Int)).toNat (natsV (pad8 (skelJ fs ss).1)))=natsV x0:=by rw [hsk.eq,List.drop_zero,Int.toNat_natCast]; exact take_pad hsk.few.way.len
  have hxl:(natsV x0).length=fs.length:=by rw [natsV_length]; exact hsk.few.way.len
  have hxne:natsV x0≠[]:=fun e=>by rw [e] at hxl; simp at hxl; omega
  conv=>whnf
  refine ⟨[0,1,2,3,4,5,6,7,8,9,10,11,12,13,14,15,16,17],[15],[16],[],⟨68719476735,[],[]⟩,by decide +kernel,?_⟩;conv=>whnf
  refine byC (c84j glT fs ss h8 hs6) op84 ?_;conv=>whnf
  refine ⟨by omega,?_⟩;conv=>whnf
  refine ⟨by omega,by simp <;> omega,?_⟩;conv=>whnf
  refine byC (by have h:=c85 glT (natsV x0) hxne (by omega); rw [←hsl] at h; exact to h (congrArg vL hsl)) op85 ?_;conv=>whnf
  unfold fewR
  rw [if_neg (fun h=>h hk),hsk.eq]
 rw [enterV_no hk]
 conv=>whnf
 apply bc9<;>intro h2
 ·conv=>whnf
  unfold fewR
  rw [if_pos hk]
 exfalso
 have h2:(askE ts fs ss != 0)=false:=h2
 exact hk (by simpa using h2)
theorem op28:Opens PR 28:=⟨_,Tryd.func28,rfl,rfl⟩
theorem press_few {fs:Fms} (h0:0 < fs.length):∃ x u,Few aloneB (prN fs) fs.length x u:=few_of h0 (c:=id) ⟨fun i k hki _ hg=>by unfold aloneB at hg; simp at hg; omega,fun i k hki _ _=>by simp only [id]; omega⟩
theorem c36 (ts:List ByteArray) (fs:List Fm) (ss:List Sg) (hL:LensJ ts fs ss):PCalls PR glT 36 [.agg [strsV ts,fmsV fs,sgsV ss]] fun r=>r=.tup [vL (pressR ts fs ss).1,vI (pressR ts fs ss).2.1,vI (pressR ts fs ss).2.2]:=by
 refine fnW_sound (par_ok glT) Tryd.func36 ?_;conv=>whnf
 refine byC (c16 glT ts fs ss hL.l) op16 ?_;conv=>whnf
 apply bc9<;>intro h2
 ·have hk:chE ts fs ss≠0:=by have h2:((chk ts fs ss).2.2 != 0)=true:=h2; simpa using h2
  conv=>whnf
  unfold pressR
  rw [if_pos hk]
 have hk:chE ts fs ss=0:=by have h2:((chk ts fs ss).2.2 != 0)=false:=h2; simpa using h2
 have hv:=(chk_valid.1 hk).job
 have h8:=hv.n8
 have hs6:=hv.s6
 have h0:=hv.n0
 obtain ⟨x0,u0,hsk⟩:=press_few h0
 have hpe:pressJ fs=(x0,u0):=hsk.eq
 have hsl:List.drop 0 (List.take ((fs.length:Int)).toNat (natsV (pad8 (pressJ fs).1)))=natsV x0:=by rw [hpe,List.drop_zero,Int.toNat_natCast]; exact take_pad hsk.way.len
 have hxl:(natsV x0).length=fs.length:=by rw [natsV_length]; exact hsk.way.len
 have hxne:natsV x0≠[]:=fun e=>by rw [e] at hxl; simp at hxl; omega
 conv=>whnf
 refine ⟨[0,1,2,4,5,3,6,7,8,9,10,11,12,13,14],[12],[13],[],⟨8589934591,[],[]⟩,by decide +kernel,?_⟩;conv=>whnf
 refine byC (c94 glT) op94 ?_;conv=>whnf
 refine byC (c96 glT) op96 ?_;conv=>whnf
 refine byC (c95p glT fs h8) op95 ?_;conv=>whnf
 refine byC (c84p glT fs h8) op84 ?_;conv=>whnf
 refine ⟨by omega,?_⟩;conv=>whnf
 refine ⟨by omega,by simp <;> omega,?_⟩;conv=>whnf
 refine byC (by have h:=c85 glT (natsV x0) hxne (by omega); rw [←hsl] at h; exact to h (congrArg vL hsl)) op85 ?_;conv=>whnf
 unfold pressR
 rw [if_neg (fun h=>h hk),hpe]
theorem op36:Opens PR 36:=⟨_,Tryd.func36,rfl,rfl⟩
theorem onP_succ (lo hi:Nat→Int) (n:Nat) (d:Int):onP lo hi (n+1) d=onP lo hi n d++if decide (lo n≤d)&&decide (d≤hi n) then [n] else []:=by
 unfold onP
 rw [List.range_succ,List.filter_append]
 congr 1
 simp only [List.filter_cons,List.filter_nil]
theorem out_on (lo hi d:Int):([d].any (outB lo hi))=!(decide (lo≤d)&&decide (d≤hi)):=by
 rw [Bool.eq_iff_iff]
 simp [outB]
theorem onP_le (fs:Fms) (k:Nat) (d:Int):(onP (setOf fs) (offOf fs) k d).length≤k:=by
 unfold onP; have:=List.length_filter_le (fun j=>decide (setOf fs j≤d)&&decide (d≤offOf fs j)) (List.range k); simpa using this
theorem natsV_snoc (l:List Nat) (k:Nat):natsV (l++[k])=natsV l++[(k:Int)]:=by simp [natsV]
theorem c38 (gl:Gl) (ts:List ByteArray) (fs:List Fm) (ss:List Sg) (hL:LensJ ts fs ss):PCalls PR gl 38 [.agg [strsV ts,fmsV fs,sgsV ss]] fun r=>r=.tup [vI (standR ts fs ss).1,vL (standR ts fs ss).2.1,vI (standR ts fs ss).2.2]:=by
 refine fnW_sound (par_ok gl) Tryd.func38 ?_;conv=>whnf
 refine byC (c16 gl ts fs ss hL.l) op16 ?_;conv=>whnf
 apply bc9<;>intro h2
 ·have hk:chE ts fs ss≠0:=by have h2:((chk ts fs ss).2.2 != 0)=true:=h2; simpa using h2
  conv=>whnf
  unfold standR
  rw [if_pos hk]
 have hk:chE ts fs ss=0:=by have h2:((chk ts fs ss).2.2 != 0)=false:=h2; simpa using h2
 have hV:=chk_valid.1 hk
 have hv:=hV.job
 have h8:=hv.n8
 have h0:=hv.n0
 have hse:=stand_eq h0 (fun i hi=>by have:=hV.forme hi; have e:=getD_at (d:=f0) hi; unfold setOf offOf; rw [e]; omega)
 conv=>whnf
 refine loop_q fun Q1 hQ1=>?_
 refine ⟨⟨7340046,[3],[3]⟩,?_⟩
 refine LoopW_ind _ (fun i:Nat=>(({ tmps:=[J,.own 1 [],vI (standP fs i).1,vL (natsV (standP fs i).2),J,J,J,J,J,J,J,J,J,J,J,J,J,J,J,J,fmsV fs,vI fs.length,vI i,J,J,J,J,J,J,J,J,J,J,J,J,J,J,J,J,J,J,J,J,J,J,J,J,J,J,J,J,J,J,J,J,J,J,J,J,J,J,J,J,J,J,J,J,J,J,J,J,J],seg:=[(1,.cells [strsV ts,fmsV fs,sgsV ss])],up:=[] }:St S))) (fun i:Nat=>(i≤fs.length)) (fun i:Nat=>(fs.length - i)) () ?_ 0 (Nat.zero_le _)
 intro i hi Z1 hZ1
 conv=>whnf
 apply bc9<;>intro h5
 ·have hlt:i < fs.length:=by have:=of_decide_eq_true h5; omega
  have hw:=wrap_nat (n:=i) (by omega)
  have hgi:setOf fs i=fs[i].2.1:=by unfold setOf; rw [getD_at hlt]
  conv=>whnf
  refine ⟨_,getI_nat (by omega),?_⟩;conv=>whnf
  refine ⟨⟨946864334,[],[7]⟩,?_⟩
  refine LoopW_ind _ (fun k:Nat=>(({ tmps:=[J,.own 1 [],vI (standP fs i).1,vL (natsV (standP fs i).2),J,J,.own 6 [],.sl (S:=S) U.int (natsV (onP (setOf fs) (offOf fs) k (setOf fs i))) (some 7),J,J,J,J,J,J,J,J,J,J,J,J,fmsV fs,vI fs.length,vI i,J,J,J,J,fmsV fs,vI fs.length,vI k,J,J,J,J,J,J,J,J,J,J,J,J,J,J,J,J,J,J,J,J,J,J,J,J,J,J,J,J,J,J,J,J,J,J,J,J,J,J,J,J,J,J],seg:=[(1,.cells [strsV ts,fmsV fs,sgsV ss]),(6,.cells (fmC fs[i])),(7,.row U.int false)],up:=[] }:St S))) (fun k:Nat=>(k≤fs.length)) (fun k:Nat=>(fs.length - k)) () ?_ 0 (Nat.zero_le _)
  intro k hk9 Z2 hZ2
  conv=>whnf
  apply bc9<;>intro h9
  ·have hlt9:k < fs.length:=by have:=of_decide_eq_true h9; omega
   have hw9:=wrap_nat (n:=k) (by omega)
   have hgk:setOf fs k=fs[k].2.1:=by unfold setOf; rw [getD_at hlt9]
   have hok:offOf fs k=fs[k].2.2.2:=by unfold offOf; rw [getD_at hlt9]
   conv=>whnf
   refine ⟨_,getI_nat (by omega),?_⟩;conv=>whnf
   refine ⟨_,rfl,?_⟩;conv=>whnf
   refine byC (c60 gl [fs[i].2.1] (by simp) fs[k].2.1 fs[k].2.2.2) op60 ?_;conv=>whnf
   apply bc9<;>intro h11
   ·have hon:onP (setOf fs) (offOf fs) (k+1) (setOf fs i)=(onP (setOf fs) (offOf fs) k (setOf fs i))++[k]:=by
     rw [onP_succ,hgk,hok,hgi,if_pos]
     have h11:(!([fs[i].2.1].any (outB fs[k].2.1 fs[k].2.2.2)))=true:=h11
     rw [out_on] at h11; simpa using h11
    conv=>whnf
    refine ⟨_,rfl,?_⟩;conv=>whnf
    refine ⟨lim (by show (natsV (onP (setOf fs) (offOf fs) k (setOf fs i))).length+1≤_; rw [natsV_length]; have:=onP_le fs k (setOf fs i); omega),?_⟩;conv=>whnf
    refine ⟨⟨946864334,[9,40,45,46,1009,2009,3009,4009],[]⟩,?_⟩;conv=>whnf
    rw [hw9]
    have:=hZ2 (k+1) hlt9 (by omega)
    rw [hon,natsV_snoc] at this
    exact this
   have hon:onP (setOf fs) (offOf fs) (k+1) (setOf fs i)=(onP (setOf fs) (offOf fs) k (setOf fs i)):=by
    rw [onP_succ,hgk,hok,hgi,if_neg,List.append_nil]
    have h11:(!([fs[i].2.1].any (outB fs[k].2.1 fs[k].2.2.2)))=false:=h11
    rw [out_on] at h11; simpa using h11
   conv=>whnf
   refine ⟨⟨946864334,[9,40,45,46,1009,2009,3009,4009],[]⟩,?_⟩;conv=>whnf
   rw [hw9]
   have:=hZ2 (k+1) hlt9 (by omega)
   rw [hon] at this
   exact this
  have hge9:k=fs.length:=by have:=of_decide_eq_false h9; omega
  rw [hge9]
  conv=>whnf
  apply bc9<;>intro g14_5
  ·have hA:(onL fs (setOf fs i)).length > (standP fs i).2.length:=by
    have g:((natsV (onL fs (setOf fs i))).length:Int) > ((natsV (standP fs i).2).length:Int):=of_decide_eq_true g14_5
    rw [natsV_length,natsV_length] at g; exact Int.ofNat_lt.1 g
   conv=>whnf
   refine ⟨⟨7340046,[6,7,9,40,45,46,1006,1009,2006,2009,3006,3009,4006,4009,900007],[7]⟩,?_⟩;conv=>whnf
   have hst:standP fs (i+1)=(fs[i].2.1,onL fs (setOf fs i)):=by
    rw [standP_succ]; unfold standStep
    rw [if_pos (by simp only [hA,decide_true,Bool.true_or])]
    rw [hgi]
   rw [hw]
   have:=hZ1 (i+1) hlt (by omega)
   rw [hst] at this
   skip
   exact this
  have hA:¬ (onL fs (setOf fs i)).length > (standP fs i).2.length:=by
   have g:¬ ((natsV (onL fs (setOf fs i))).length:Int) > ((natsV (standP fs i).2).length:Int):=of_decide_eq_false g14_5
   rw [natsV_length,natsV_length] at g; exact fun h=>g (Int.ofNat_lt.2 h)
  conv=>whnf
  apply bc9<;>intro g14_11
  ·have hB:(onL fs (setOf fs i)).length=(standP fs i).2.length:=by
    have g:(((natsV (onL fs (setOf fs i))).length:Int)==((natsV (standP fs i).2).length:Int))=true:=g14_11
    rw [natsV_length,natsV_length] at g; simp at g; omega
   conv=>whnf
   apply bc9<;>intro h14
   ·have hC:setOf fs i < (standP fs i).1:=by have:=of_decide_eq_true h14; rw [hgi]; exact this
    conv=>whnf
    refine ⟨⟨7340046,[6,7,9,40,45,46,1006,1009,2006,2009,3006,3009,4006,4009,900007],[7]⟩,?_⟩;conv=>whnf
    have hst:standP fs (i+1)=(fs[i].2.1,onL fs (setOf fs i)):=by
     rw [standP_succ]; unfold standStep
     rw [if_pos (by simp [hB,hC])]
     rw [hgi]
    rw [hw]
    have:=hZ1 (i+1) hlt (by omega)
    rw [hst] at this
    skip
    exact this
   have hC:¬ setOf fs i < (standP fs i).1:=by have:=of_decide_eq_false h14; rw [hgi]; exact this
   conv=>whnf
   refine ⟨⟨7340046,[6,7,9,40,45,46,1006,1009,2006,2009,3006,3009,4006,4009,900007],[7]⟩,?_⟩;conv=>whnf
   have hst:standP fs (i+1)=(standP fs i):=by
    rw [standP_succ]; unfold standStep
    rw [if_neg (by simp [hB,hC])]
   rw [hw]
   have:=hZ1 (i+1) hlt (by omega)
   rw [hst] at this
   skip
   exact this
  have hB:¬ (onL fs (setOf fs i)).length=(standP fs i).2.length:=by
   have g:(((natsV (onL fs (setOf fs i))).length:Int)==((natsV (standP fs i).2).length:Int))=false:=g14_11
   rw [natsV_length,natsV_length] at g; simp at g; omega
  conv=>whnf
  refine ⟨⟨7340046,[6,7,9,40,45,46,1006,1009,2006,2009,3006,3009,4006,4009,900007],[7]⟩,?_⟩;conv=>whnf
  have hst:standP fs (i+1)=(standP fs i):=by
   rw [standP_succ]; unfold standStep
   rw [if_neg (by simp only [hA,beq_eq_false_iff_ne.2 hB,decide_false,Bool.false_and,Bool.or_self,Bool.false_eq_true,not_false_eq_true])]
  rw [hw]
  have:=hZ1 (i+1) hlt (by omega)
  rw [hst] at this
  skip
  exact this
 have hge:i=fs.length:=by have:=of_decide_eq_false h5; omega
 conv=>whnf
 refine (hQ1 _ _ _).mpr ?_;conv=>whnf
 unfold standR
 rw [if_neg (fun h=>h hk),hge,hse]
theorem op38:Opens PR 38:=⟨_,Tryd.func38,rfl,rfl⟩
abbrev upsD (ts:List ByteArray) (fs:Fms) (ss:Sgs):List (Nat×AO S):=[(1,.cells (jobC ts fs ss)),(2,.row U.int true)]
theorem rest_test {n set i:Nat} (h:i < n):((2 ^ n - 1) ^^^ ((2 ^ n - 1) &&& set)).testBit i=!set.testBit i:=by
 rw [Nat.testBit_xor,Nat.testBit_and,mask_bit h]; simp
theorem rest_lt {n set:Nat} (h:n≤60):((2 ^ n - 1) ^^^ ((2 ^ n - 1) &&& set)) < 2 ^ 63 :=
 Nat.xor_lt_two_pow (mask_lt h) (Nat.lt_of_le_of_lt Nat.and_le_left (mask_lt h))
theorem op79:Opens PR 79:=⟨_,Tryd.func79,rfl,rfl⟩
theorem u79 (ts:List ByteArray) (fs:Fms) (ss:Sgs) (hV:Valid ts fs ss) (set:Nat) (hset:set < 2 ^ 63) (Q:AV S→List (Nat×AO S)→Unit→Prop) (h:Q (vB (doubtD ts.length fs ss set)) (upsD ts fs ss) ()) (En:Env Unit) :
  UCalls PR glT En 79 [vI set,.up 1 []] (upsD ts fs ss) () Q:=by
 have hv:=hV.job
 have h8:=hv.n8
 have hs6:=hv.s6
 have hv12:=hV.s12
 have hv6:=hV.t6
 obtain ⟨rest,hrest⟩:∃ rest,rest=((2 ^ ss.length - 1) ^^^ ((2 ^ ss.length - 1) &&& set)):=⟨_,rfl⟩
 have hrl:rest < 2 ^ 63:=by rw [hrest]; exact rest_lt (by omega)
 have hR:bitsI .andNot .i64 (IntKind.i64.wrap (shlI .i64 1 (ss.length:Int) - 1)) (set:Int)=((rest:Nat):Int):=by
  rw [mask_all (by omega),andNot_nat (mask_lt (by omega)) hset,hrest]
 have hpk:pickS ss rest.testBit=pickS ss fun i=>!set.testBit i:=pick_congr fun i hi=>by rw [hrest,rest_test hi]
 have hpo:=hs6.pick rest.testBit
 have h80:=c80 glT ts fs ss h8 hs6 (by omega) rest hrl
 have h74:=c74g ts fs (pickS ss rest.testBit) ss h8 hpo
 have h76:=fun kind:Int=>c76 glT ts fs ss hs6 (fun s hs=>by obtain ⟨i,hi,e⟩:=List.getElem_of_mem hs; have:=hV.sight hi; rw [←e]; omega) (fun f hf=>by obtain ⟨i,hi,e⟩:=List.getElem_of_mem hf; have:=hV.forme hi; rw [←e]; omega) (by omega) (natsV (groupsM fs.length (pickS ss rest.testBit))) (natsV (meetM (stN fs) fs.length)) kind rest hrl
 simp only [←hR] at h80 h76
 have hD:doubtD ts.length fs ss set=((clashJ fs (pickS ss rest.testBit)).isNone&&(List.range ts.length).all fun t=>decide ((crackS fs (pickS ss rest.testBit) t).1≤(crackS fs (pickS ss rest.testBit) t).2)):=by
  rw [hpk]; rfl
 refine fnU_sound (par_ok glT En) Tryd.func79 ?_;conv=>whnf
 refine ⟨by omega,?_⟩;conv=>whnf
 refine byC h80 op80 ?_;conv=>whnf
 refine byC h74 op74 ?_
 unfold clashV
 rcases hJ:clashJ fs (pickS ss rest.testBit) with _ | ⟨a,b⟩
 ·conv=>whnf
  refine ⟨⟨25769804304,[],[]⟩,?_⟩
  refine LoopW_ind _ (fun i:Nat=>(({ tmps:=[J,J,J,J,vI (bitsI .andNot .i64 (IntKind.i64.wrap (shlI .i64 1 (ss.length:Int) - 1)) (set:Int)),J,J,J,J,.clo (.func 76) [.ref (lookC ts fs ss rest.testBit)] [],J,J,J,J,J,J,J,J,J,J,J,J,J,J,J,J,J,J,J,J,J,J,J,vI ts.length,vI i,J,J,J,J,J,J,J,J,J,J,J,J],seg:=[],up:=upsD ts fs ss }:St S))) (fun i:Nat=>(i≤ts.length∧∀ j,j < i→(crackS fs (pickS ss rest.testBit) (j:Nat)).1≤(crackS fs (pickS ss rest.testBit) (j:Nat)).2)) (fun i:Nat=>(ts.length - i)) () ?_ 0 ⟨Nat.zero_le _,fun j h=>absurd h (Nat.not_lt_zero j)⟩
  intro i hinv Z1 hZ1
  obtain ⟨hi,hd⟩:=hinv
  conv=>whnf
  apply bc9<;>intro h8
  ·have hlt:i < ts.length:=by have:=of_decide_eq_true h8; omega
   have hw:=wrap_nat (n:=i) (by omega)
   conv=>whnf
   refine byC (h76 i) op76 ?_;conv=>whnf
   apply bc9<;>intro h11
   ·have h11:(crackS fs (pickS ss rest.testBit) i).1 > (crackS fs (pickS ss rest.testBit) i).2:=of_decide_eq_true h11
    have hD0:doubtD ts.length fs ss set=false:=by
     rw [hD,Bool.and_eq_false_iff]; right
     rw [←Bool.not_eq_true,List.all_eq_true]
     intro hh
     have:=of_decide_eq_true (hh i (List.mem_range.2 hlt))
     omega
    rw [hD0] at h
    conv=>whnf
    exact h
   have h11:¬ (crackS fs (pickS ss rest.testBit) i).1 > (crackS fs (pickS ss rest.testBit) i).2:=of_decide_eq_false h11
   conv=>whnf
   refine ⟨⟨25769804304,[11,1011,2011,3011,4011],[]⟩,?_⟩;conv=>whnf
   rw [hw]
   exact hZ1 (i+1) ⟨hlt,up_succ hd (by omega)⟩ (by omega)
  have hge:i=ts.length:=by have:=of_decide_eq_false h8; omega
  conv=>whnf
  have hD1:doubtD ts.length fs ss set=true:=by
   rw [hD,hJ,Option.isNone_none,Bool.true_and,List.all_eq_true]
   exact fun j hj=>decide_eq_true (hd j (by have:=List.mem_range.1 hj; omega))
  rw [hD1] at h
  exact h
 have hD0:doubtD ts.length fs ss set=false:=by rw [hD,hJ]; rfl
 rw [hD0] at h
 conv=>whnf
 exact h
theorem op78:Opens PR 78:=⟨_,Tryd.func78,rfl,rfl⟩
theorem u78D (ts:List ByteArray) (fs:Fms) (ss:Sgs) (hV:Valid ts fs ss) (Q:AV S→List (Nat×AO S)→Unit→Prop) (h:Q (vL (few (doubtD ts.length fs ss) (2 ^ ss.length)).1) (upsD ts fs ss) ()) (En:Env Unit) :
  UCalls PR glT En 78 [vI ss.length,.clo (.func 79) [] [.up 1 []]] (upsD ts fs ss) () Q:=by
 have hs12:=hV.s12
 have h4096:2 ^ ss.length≤2 ^ 12:=Nat.pow_le_pow_right (n:=2) (by omega) (show ss.length≤12 by omega)
 have hshl:shlI .i64 1 (ss.length:Int)=((2 ^ ss.length:Nat):Int):=shl_one (by omega)
 refine fnU_sound (par_ok glT En) Tryd.func78 ?_;conv=>whnf
 refine ⟨by omega,?_⟩;conv=>whnf
 refine ⟨⟨1586,[4],[4]⟩,?_⟩
 refine LoopW_ind _ (fun i:Nat=>(({ tmps:=[J,.clo (.func 79) [] [.up 1 []],J,J,vL (few (doubtD ts.length fs ss) i).1,vB (few (doubtD ts.length fs ss) i).2,J,J,J,vI (shlI .i64 1 (ss.length:Int)),vI i,J,J,J,J,J,J,J,J,J,J,J,J,J,J,J,J,J,J,J,J,J,J,J,J,J,J,J,J,J,J,J],seg:=[],up:=upsD ts fs ss }:St S))) (fun i:Nat=>(i≤2 ^ ss.length)) (fun i:Nat=>(2 ^ ss.length - i)) () ?_ 0 (Nat.zero_le _)
 intro i hi Z1 hZ1
 have hfl:=few_len (doubtD ts.length fs ss) i (by omega)
 have hbl:=bitsL_len i
 have hst:few (doubtD ts.length fs ss) (i+1)=fewStep (doubtD ts.length fs ss) (few (doubtD ts.length fs ss) i) i:=few_succ (doubtD ts.length fs ss) i
 generalize hq:few (doubtD ts.length fs ss) i=s at *
 obtain ⟨best,is⟩:=s
 simp only at hfl
 conv=>whnf
 apply bc9<;>intro h3
 ·rw [hshl] at h3
  have hlt:i < 2 ^ ss.length:=by have:=of_decide_eq_true h3; omega
  have hw:=wrap_nat (n:=i) (by omega)
  have hgo:skipB (best,is) (natsV (bitsL i))=false→few (doubtD ts.length fs ss) (i+1)=if (doubtD ts.length fs ss) i then (natsV (bitsL i),true) else (best,is):=fun h=>by rw [hst,fewStep,h]; rfl
  have hno:skipB (best,is) (natsV (bitsL i))=true→few (doubtD ts.length fs ss) (i+1)=(best,is):=fun h=>by rw [hst,fewStep,if_pos h]
  conv=>whnf
  refine byC (c111 i (by omega)) op111 ?_
  rcases is with _ | _
  ·have hs:=hgo rfl
   conv=>whnf
   refine ⟨fun En' _=>u79 ts fs ss hV i (by omega) _ ?_ En',op79⟩;conv=>whnf
   apply bc9<;>intro h7
   ·rw [if_pos h7] at hs
    conv=>whnf
    refine ⟨⟨1586,[],[]⟩,?_⟩;conv=>whnf
    rw [hw]
    have:=hZ1 (i+1) hlt (by omega)
    rw [hs] at this
    exact this
   rw [if_neg (by rw [h7]; simp)] at hs
   conv=>whnf
   refine ⟨⟨1586,[],[]⟩,?_⟩;conv=>whnf
   rw [hw]
   have:=hZ1 (i+1) hlt (by omega)
   rw [hs] at this
   exact this
  conv=>whnf
  apply bc9<;>intro g6_7
  ·have g:decide (((natsV (bitsL i)).length:Int) > best.length)=true:=g6_7
   have hs:=hno (by unfold skipB; rw [g]; rfl)
   conv=>whnf
   refine ⟨⟨1586,[],[]⟩,?_⟩;conv=>whnf
   rw [hw]
   have:=hZ1 (i+1) hlt (by omega)
   rw [hs] at this
   exact this
  have g7:decide (((natsV (bitsL i)).length:Int) > best.length)=false:=g6_7
  conv=>whnf
  apply bc9<;>intro g6_13
  ·have g13:(((natsV (bitsL i)).length:Int)==best.length)=true:=g6_13
   conv=>whnf
   refine byC (c112 glT (natsV (bitsL i)) best (by simp; omega) hfl) op112 ?_;conv=>whnf
   apply bc9<;>intro h6
   ·have g6:decide (cmpL cmpI (natsV (bitsL i)) best > 0)=true:=h6
    have hs:=hno (by unfold skipB; rw [g7,g13,g6]; rfl)
    conv=>whnf
    refine ⟨⟨1586,[],[]⟩,?_⟩;conv=>whnf
    rw [hw]
    have:=hZ1 (i+1) hlt (by omega)
    rw [hs] at this
    exact this
   have g6:decide (cmpL cmpI (natsV (bitsL i)) best > 0)=false:=h6
   have hs:=hgo (by unfold skipB; rw [g7,g13,g6]; rfl)
   conv=>whnf
   refine ⟨fun En' _=>u79 ts fs ss hV i (by omega) _ ?_ En',op79⟩;conv=>whnf
   apply bc9<;>intro h7
   ·rw [if_pos h7] at hs
    conv=>whnf
    refine ⟨⟨1586,[],[]⟩,?_⟩;conv=>whnf
    rw [hw]
    have:=hZ1 (i+1) hlt (by omega)
    rw [hs] at this
    exact this
   rw [if_neg (by rw [h7]; simp)] at hs
   conv=>whnf
   refine ⟨⟨1586,[],[]⟩,?_⟩;conv=>whnf
   rw [hw]
   have:=hZ1 (i+1) hlt (by omega)
   rw [hs] at this
   exact this
  have g13:(((natsV (bitsL i)).length:Int)==best.length)=false:=g6_13
  have hs:=hgo (by unfold skipB; rw [g7,g13]; rfl)
  conv=>whnf
  refine ⟨fun En' _=>u79 ts fs ss hV i (by omega) _ ?_ En',op79⟩;conv=>whnf
  apply bc9<;>intro h7
  ·rw [if_pos h7] at hs
   conv=>whnf
   refine ⟨⟨1586,[],[]⟩,?_⟩;conv=>whnf
   rw [hw]
   have:=hZ1 (i+1) hlt (by omega)
   rw [hs] at this
   exact this
  rw [if_neg (by rw [h7]; simp)] at hs
  conv=>whnf
  refine ⟨⟨1586,[],[]⟩,?_⟩;conv=>whnf
  rw [hw]
  have:=hZ1 (i+1) hlt (by omega)
  rw [hs] at this
  exact this
 rw [hshl] at h3
 have hge:i=2 ^ ss.length:=by have:=of_decide_eq_false h3; omega
 conv=>whnf
 rw [←hge,hq] at h
 exact h
theorem c25 (ts:List ByteArray) (fs:List Fm) (ss:List Sg) (hL:LensJ ts fs ss):PCalls PR glT 25 [.agg [strsV ts,fmsV fs,sgsV ss]] fun r=>r=.tup [vL (doubtR ts fs ss).1,vI (doubtR ts fs ss).2]:=by
 refine fnW_sound (par_ok glT) Tryd.func25 ?_;conv=>whnf
 refine byC (c71 glT ts fs ss hL) op71 ?_
 rcases Classical.em (chE ts fs ss=0) with hk | hk
 ·rw [openV_ok hk]
  have hV:=chk_valid.1 hk
  have hdf:=(doubt_find hV.job (by have:=hV.s12; omega)).1
  have hR:doubtR ts fs ss=(natsV (doubtL ts.length fs ss),0):=by unfold doubtR; rw [if_neg (fun h=>h hk)]
  conv=>whnf
  refine ⟨fun En' _=>u78D ts fs ss hV _ ?_ En',op78⟩;conv=>whnf
  rw [hR,hdf]
 rw [openV_no hk]
 conv=>whnf
 apply bc9<;>intro h2
 ·conv=>whnf
  unfold doubtR
  rw [if_pos hk]
 exfalso
 have h2:(chE ts fs ss != 0)=false:=h2
 exact hk (by simpa using h2)
theorem op25:Opens PR 25:=⟨_,Tryd.func25,rfl,rfl⟩
def subK (ss:Sgs) (l:List Nat) (k m:Nat):Sgs:=subP ss (l.take k)++((ss.take m).filter fun x=>x.1==((l.getD k 0:Nat):Int)).map fun x=>(((k:Nat):Int),x.2)
theorem subK_zero (ss:Sgs) (l:List Nat) (k:Nat):subK ss l k 0=subP ss (l.take k):=by simp [subK]
theorem subK_T {ss:Sgs} {l:List Nat} {k m:Nat} (h:m < ss.length) (hx:ss[m].1=((l.getD k 0:Nat):Int)):subK ss l k (m+1)=subK ss l k m++[(((k:Nat):Int),ss[m].2)]:=by
 unfold subK
 have hb:(ss[m].1==((l.getD k 0:Nat):Int))=true:=by rw [hx]; exact beq_self_eq_true _
 rw [take_snoc h,List.filter_append,List.map_append,List.append_assoc,List.filter_cons_of_pos (by exact hb)]; rfl
theorem subK_F {ss:Sgs} {l:List Nat} {k m:Nat} (h:m < ss.length) (hx:ss[m].1≠((l.getD k 0:Nat):Int)):subK ss l k (m+1)=subK ss l k m:=by
 unfold subK
 have hb:¬ (ss[m].1==((l.getD k 0:Nat):Int))=true:=by rw [beq_iff_eq]; exact hx
 rw [take_snoc h,List.filter_append,List.map_append,List.filter_cons_of_neg (by exact hb)]
 simp only [List.filter_nil,List.map_nil,List.append_nil]
theorem subK_all {ss:Sgs} {l:List Nat} {k:Nat} (h:k < l.length):subK ss l k ss.length=subP ss (l.take (k+1)):=by
 unfold subK subP
 rw [List.take_length,List.length_take,List.length_take,Nat.min_eq_left (by omega),Nat.min_eq_left (by omega),List.range_succ,List.flatMap_append]
 congr 1
 ·rw [List.flatMap_def,List.flatMap_def]
  congr 1
  refine List.map_congr_left fun j hj=>?_
  have hj:=List.mem_range.1 hj
  rw [getD_take hj,getD_take (by omega)]
 simp only [List.flatMap_cons,List.flatMap_nil,List.append_nil]
 rw [getD_take (by omega)]
theorem subF_snoc (fs:Fms) {l:List Nat} {k:Nat} (h:k < l.length):subF fs (l.take (k+1))=subF fs (l.take k)++[fs.getD (l.getD k 0) f0]:=by
 unfold subF
 rw [take_snoc h,List.map_append,getD_at h]; rfl
theorem flat_len {α β:Type} {f:α→List β} {c:Nat}:∀ {l:List α},(∀ a∈l,(f a).length≤c)→(l.flatMap f).length≤l.length * c
 | [],_=>by simp
 | a :: l,h=>by
  rw [List.flatMap_cons,List.length_append,List.length_cons,Nat.succ_mul]
  have h1:=h a (List.mem_cons_self ..)
  have h2:=flat_len (f:=f) (c:=c) (l:=l) fun b hb=>h b (List.mem_cons_of_mem _ hb)
  omega
theorem subP_len {ss:Sgs} {l:List Nat}:(subP ss l).length≤l.length * ss.length:=by
 have h:=flat_len (f:=fun k=>(ss.filter fun x=>x.1==((l.getD k 0:Nat):Int)).map fun x=>(((k:Nat):Int),x.2)) (c:=ss.length) (l:=List.range l.length) (fun k _=>by rw [List.length_map]; exact List.length_filter_le _ _)
 rw [List.length_range] at h
 exact h
theorem subK_len {ss:Sgs} {l:List Nat} {k m:Nat} (hl:l.length≤64) (hs:ss.length≤100) (_hk:k≤l.length):(subK ss l k m).length≤7000:=by
 unfold subK
 rw [List.length_append,List.length_map]
 have h1:=subP_len (ss:=ss) (l:=l.take k)
 have h2:=List.length_filter_le (fun x:Sg=>x.1==((l.getD k 0:Nat):Int)) (ss.take m)
 have h3:(l.take k).length * ss.length≤64 * 100:=Nat.mul_le_mul (by simp; omega) hs
 have h4:(ss.take m).length≤ss.length:=by simp; omega
 omega
theorem c89 (ts:List ByteArray) (fs:List Fm) (ss:List Sg) (hf8:fs.length≤8) (hs:ss.length≤100) (s:Nat) (hs2:s < 2 ^ fs.length):PCalls PR glT 89 [.agg [strsV ts,fmsV fs,sgsV ss],vI s] fun r=>r=.agg [strsV ts,fmsV (subF fs (bitsL s)),sgsV (subP ss (bitsL s))]:=by
 have h256:2 ^ fs.length≤2 ^ 8:=Nat.pow_le_pow_right (n:=2) (by omega) hf8
 have hbl:(bitsL s).length≤fs.length:=asc_le (bits_asc (by omega) hs2)
 refine fnW_sound (par_ok glT) Tryd.func89 ?_;conv=>whnf
 refine byC (c111 s (by omega)) op111 ?_;conv=>whnf
 refine loop_q fun Q1 hQ1=>?_
 refine ⟨⟨114740,[1005,2005,3005],[1005,2005,3005,902005,903005]⟩,?_⟩
 refine LoopW_ind _ (fun k:Nat=>(({ tmps:=[J,J,.own 2 [],J,.own 4 [],.own 5 [],J,J,J,J,J,J,J,J,vL (natsV (bitsL s)),vI (natsV (bitsL s)).length,vI k,J,J,J,J,J,J,J,J,J,J,J,J,J,J,J,J,J,J,J,J,J,J,J,J,J,J,J,J,J,J,J,J,J,J,J,J,J],seg:=[(2,.cells [strsV ts,fmsV fs,sgsV ss]),(4,.cells [.sl (S:=S) U.str [] (some 1004),.sl (S:=S) U.forme [] (some 2004),.sl (S:=S) U.sight [] (some 3004)]),(5,.cells [strsV ts,.sl (S:=S) U.forme (subF fs ((bitsL s).take k)) (some 902005),.sl (S:=S) U.sight (subP ss ((bitsL s).take k)) (some 903005)]),(1004,.row U.str true),(2004,.row U.forme true),(3004,.row U.sight true),(902005,.row U.forme false),(903005,.row U.sight false)],up:=[] }:St S))) (fun k:Nat=>(k≤(bitsL s).length)) (fun k:Nat=>((bitsL s).length - k)) () ?_ 0 (Nat.zero_le _)
 intro k hi Z1 hZ1
 conv=>whnf
 apply bc9<;>intro h3
 ·rw [natsV_length] at h3
  have hlt:k < (bitsL s).length:=by have:=of_decide_eq_true h3; omega
  have hw:=wrap_nat (n:=k) (by omega)
  have hfl:(subF fs ((bitsL s).take k)).length=k:=by rw [subF_len,List.length_take]; omega
  have hlk:(bitsL s).getD k 0 < fs.length:=by rw [getD_at hlt]; exact ((bits_mem (by omega) hs2).1 (List.getElem_mem hlt)).1
  conv=>whnf
  refine ⟨_,getI_natsD hlt,?_⟩;conv=>whnf
  rw [←subK_zero ss (bitsL s) k]
  refine ⟨⟨14794932,[],[]⟩,?_⟩
  refine LoopW_ind _ (fun m:Nat=>(({ tmps:=[J,J,.own 2 [],J,.own 4 [],.own 5 [],J,vI ((bitsL s).getD k 0),J,J,J,J,J,J,vL (natsV (bitsL s)),vI (natsV (bitsL s)).length,vI k,J,J,J,J,sgsV ss,vI ss.length,vI m,J,J,J,J,J,J,J,J,J,J,J,J,J,J,J,J,J,J,J,J,J,J,J,J,J,J,J,J,J,J],seg:=[(2,.cells [strsV ts,fmsV fs,sgsV ss]),(4,.cells [.sl (S:=S) U.str [] (some 1004),.sl (S:=S) U.forme [] (some 2004),.sl (S:=S) U.sight [] (some 3004)]),(5,.cells [strsV ts,.sl (S:=S) U.forme (subF fs ((bitsL s).take k)) (some 902005),.sl (S:=S) U.sight (subK ss (bitsL s) k m) (some 903005)]),(1004,.row U.str true),(2004,.row U.forme true),(3004,.row U.sight true),(902005,.row U.forme false),(903005,.row U.sight false)],up:=[] }:St S))) (fun m:Nat=>(m≤ss.length)) (fun m:Nat=>(ss.length - m)) () ?_ 0 (Nat.zero_le _)
  intro m hm Z2 hZ2
  conv=>whnf
  apply bc9<;>intro h6
  ·have hlt6:m < ss.length:=by have:=of_decide_eq_true h6; omega
   have hw6:=wrap_nat (n:=m) (by omega)
   have hkl:=subK_len (m:=m) (show (bitsL s).length≤64 by omega) hs hi
   conv=>whnf
   refine ⟨_,getI_nat (by omega),?_⟩;conv=>whnf
   apply bc9<;>intro h8
   ·have hx:ss[m].1=(((bitsL s).getD k 0:Nat):Int):=by have h8:(ss[m].1==(((bitsL s).getD k 0:Nat):Int))=true:=h8; simpa using h8
    conv=>whnf
    refine ⟨_,rfl,?_⟩;conv=>whnf
    refine ⟨lim (by simp <;> omega),?_⟩;conv=>whnf
    refine ⟨⟨14794932,[9,38,39,1009,2009,3009,4009],[]⟩,?_⟩;conv=>whnf
    rw [hw6,hfl]
    have:=hZ2 (m+1) hlt6 (by omega)
    rw [subK_T hlt6 hx] at this
    exact this
   have hx:ss[m].1≠(((bitsL s).getD k 0:Nat):Int):=by have h8:(ss[m].1==(((bitsL s).getD k 0:Nat):Int))=false:=h8; simpa using h8
   conv=>whnf
   refine ⟨⟨14794932,[9,38,39,1009,2009,3009,4009],[]⟩,?_⟩;conv=>whnf
   rw [hw6]
   have:=hZ2 (m+1) hlt6 (by omega)
   rw [subK_F hlt6 hx] at this
   exact this
  have hge6:m=ss.length:=by have:=of_decide_eq_false h6; omega
  rw [hge6,subK_all hlt]
  conv=>whnf
  refine ⟨[0,1,2,3,4,5,6,7,8,9,10],[7],[],[],⟨18014398509481983,[],[]⟩,by decide +kernel,?_⟩;conv=>whnf
  refine ⟨_,getI_nat hlk,?_⟩;conv=>whnf
  refine ⟨_,rfl,?_⟩;conv=>whnf
  refine ⟨lim (by simp <;> omega),?_⟩;conv=>whnf
  refine ⟨⟨114740,[9,38,39,49,50,1009,2009,3009,4009],[]⟩,?_⟩;conv=>whnf
  rw [hw]
  have:=hZ1 (k+1) hlt (by omega)
  rw [subF_snoc fs hlt,getD_at hlk] at this
  exact this
 rw [natsV_length] at h3
 have hge:k=(bitsL s).length:=by have:=of_decide_eq_false h3; omega
 conv=>whnf
 refine (hQ1 _ _ _).mpr ?_;conv=>whnf
 rw [hge,List.take_length]
theorem op89:Opens PR 89:=⟨_,Tryd.func89,rfl,rfl⟩
abbrev KV (kvs:List (Nat×Nat)):List (AV S×AV S):=kvs.map fun p=>(vI p.1,vI p.2)
abbrev upsP (ts:List ByteArray) (fs:Fms) (ss:Sgs) (x:List Nat) (all:Nat) (kvs:List (Nat×Nat)):List (Nat×AO S) :=
 [(1,.cells (jobC ts fs ss)),(2,.row U.int true),(6,.cells [arr8 (pad8 x)]),(7,.cells [vI all]),(8,.cells [.mpu 32]),(32,.mp (KV kvs))]
theorem look_none {s:Nat}:∀ {kvs:List (Nat×Nat)},(∀ p∈kvs,p.1 < s)→lookM keqI (vI s) (KV kvs)=some none
 | [],_=>rfl
 | p :: kvs,h=>by
  have h1:=h p (List.mem_cons_self ..)
  have h2:=look_none (kvs:=kvs) fun q hq=>h q (List.mem_cons_of_mem _ hq)
  have e:keqI (vI s) (vI p.1)=some false:=by
   show some (((s:Nat):Int)==((p.1:Nat):Int))=_
   rw [eqN]; congr 1; simp; omega
  show (match keqI (vI s) (vI p.1) with | none=>none | some true=>some (some (vI p.2)) | some false=>lookM keqI (vI s) (KV kvs))=_
  rw [e]; exact h2
theorem look_some {s m:Nat}:∀ {kvs:List (Nat×Nat)},(∀ p∈kvs,p.1 < s)→lookM keqI (vI s) (KV kvs++[(vI s,vI m)])=some (some (vI m))
 | [],_=>by
  have e:keqI (vI s) (vI s)=some true:=by
   show some (((s:Nat):Int)==((s:Nat):Int))=_
   simp
  show (match keqI (vI s) (vI s) with | none=>none | some true=>some (some (vI m)) | some false=>lookM keqI (vI s) [])=_
  rw [e]
 | p :: kvs,h=>by
  have h1:=h p (List.mem_cons_self ..)
  have h2:=look_some (m:=m) (kvs:=kvs) fun q hq=>h q (List.mem_cons_of_mem _ hq)
  have e:keqI (vI s) (vI p.1)=some false:=by
   show some (((s:Nat):Int)==((p.1:Nat):Int))=_
   rw [eqN]; congr 1; simp; omega
  show (match keqI (vI s) (vI p.1) with | none=>none | some true=>some (some (vI p.2)) | some false=>lookM keqI (vI s) (KV kvs++[(vI s,vI m)]))=_
  rw [e]; exact h2
theorem KV_snoc (kvs:List (Nat×Nat)) (s m:Nat):KV (kvs++[(s,m)])=KV kvs++[(vI s,vI m)]:=by simp [KV]
theorem op88:Opens PR 88:=⟨_,Tryd.func88,rfl,rfl⟩
theorem u88 (ts:List ByteArray) (fs:Fms) (ss:Sgs) (hV:Valid ts fs ss) (x:List Nat) (all:Nat) (kvs:List (Nat×Nat)) (set:Nat) (hset:set < 2 ^ fs.length) (hk:∀ p∈kvs,p.1 < set)
  (Q:AV S→List (Nat×AO S)→Unit→Prop) (h:Q (vB (proofD fs ss all set)) (upsP ts fs ss x all (kvs++[(set,manyJ (subF fs (bitsL set)) (subP ss (bitsL set)))])) ()) (En:Env Unit) :
  UCalls PR glT En 88 [vI set,.up 1 [],.up 8 [],.up 7 []] (upsP ts fs ss x all kvs) () Q:=by
 have hv:=hV.job
 have hf8:=hv.n8
 have hs6:=hv.s6
 have hv12:=hV.s12
 have hasc:=bits_asc (c:=fs.length) (by omega) hset
 have hbl:=asc_le hasc
 have hfl:=subF_len fs (bitsL set)
 have hs1:=(sub_ok hs6 (bitsL set)).2
 rw [←hfl] at hs1
 have hf1:(subF fs (bitsL set)).length≤8:=by rw [hfl]; omega
 have hsl:=subP_le hasc.1 ss
 have he:(((manyJ (subF fs (bitsL set)) (subP ss (bitsL set)):Nat):Int)==(all:Int))=proofD fs ss all set:=eqN
 unfold upsP at h
 rw [KV_snoc,←he] at h
 refine fnU_sound (par_ok glT En) Tryd.func88 ?_;conv=>whnf
 refine byC (c89 ts fs ss hf8 (by omega) set hset) op89 ?_;conv=>whnf
 refine ⟨[0,1,2,3,4,5,6,7],[],[],[],⟨1099511627775,[],[]⟩,by decide +kernel,?_⟩;conv=>whnf
 refine ⟨by omega,?_⟩;conv=>whnf
 refine byC (c80a glT ts (subF fs (bitsL set)) (subP ss (bitsL set)) hf1 hs1 (by omega)) op80 ?_;conv=>whnf
 refine ⟨[0,1,2,3,4,5,6,7,8,9,10,11,12,13,14,15,16,17],[],[],[],⟨1099511627775,[],[]⟩,by decide +kernel,?_⟩;conv=>whnf
 refine byC (c84j glT (subF fs (bitsL set)) (subP ss (bitsL set)) hf1 hs1) op84 ?_;conv=>whnf
 refine ⟨none,look_none hk,?_⟩;conv=>whnf
 refine ⟨some (vI (manyJ (subF fs (bitsL set)) (subP ss (bitsL set)))),look_some hk,?_⟩;conv=>whnf
 exact h
theorem snoc_lt {kvs:List (Nat×Nat)} {i m:Nat} (hk:∀ p∈kvs,p.1 < i):∀ p∈kvs++[(i,m)],p.1 < i+1:=fun p hp=>by
 rcases List.mem_append.1 hp with hp | hp
 ·have:=hk p hp; omega
 rw [List.mem_singleton] at hp; rw [hp]; exact Nat.lt_succ_self i
theorem u78P (ts:List ByteArray) (fs:Fms) (ss:Sgs) (hV:Valid ts fs ss) (x:List Nat) (all:Nat) (Q:AV S→List (Nat×AO S)→Unit→Prop) (h:∀ kvs,Q (vL (few (proofD fs ss all) (2 ^ fs.length)).1) (upsP ts fs ss x all kvs) ()) (En:Env Unit) :
  UCalls PR glT En 78 [vI fs.length,.clo (.func 88) [] [.up 1 [],.up 8 [],.up 7 []]] (upsP ts fs ss x all []) () Q:=by
 have hn8:=hV.n7
 have h4096:2 ^ fs.length≤2 ^ 7:=Nat.pow_le_pow_right (n:=2) (by omega) (show fs.length≤7 by omega)
 have hshl:shlI .i64 1 (fs.length:Int)=((2 ^ fs.length:Nat):Int):=shl_one (by omega)
 refine fnU_sound (par_ok glT En) Tryd.func78 ?_;conv=>whnf
 refine ⟨by omega,?_⟩;conv=>whnf
 refine ⟨⟨1586,[4],[4]⟩,?_⟩
 refine LoopW_ind _ (fun s9:Nat×List (Nat×Nat)=>match s9 with | (i,kvs)=>(({ tmps:=[J,.clo (.func 88) [] [.up 1 [],.up 8 [],.up 7 []],J,J,vL (few (proofD fs ss all) i).1,vB (few (proofD fs ss all) i).2,J,J,J,vI (shlI .i64 1 (fs.length:Int)),vI i,J,J,J,J,J,J,J,J,J,J,J,J,J,J,J,J,J,J,J,J,J,J,J,J,J,J,J,J,J,J,J],seg:=[],up:=upsP ts fs ss x all kvs }:St S))) (fun s9:Nat×List (Nat×Nat)=>match s9 with | (i,kvs)=>(i≤2 ^ fs.length∧∀ p∈kvs,p.1 < i)) (fun s9:Nat×List (Nat×Nat)=>match s9 with | (i,kvs)=>(2 ^ fs.length - i)) () ?_ (0,[]) ⟨Nat.zero_le _,fun p hp=>by cases hp⟩
 rintro ⟨i,kvs⟩ hinv Z1 hZ1
 dsimp only at hinv hZ1
 obtain ⟨hi,hk⟩:=hinv
 have hfl:=few_len (proofD fs ss all) i (by omega)
 have hbl:=bitsL_len i
 have hst:few (proofD fs ss all) (i+1)=fewStep (proofD fs ss all) (few (proofD fs ss all) i) i:=few_succ (proofD fs ss all) i
 obtain ⟨⟨best,is⟩,hq⟩:∃ s,few (proofD fs ss all) i=s:=⟨_,rfl⟩
 rw [hq] at hfl hst
 simp only at hfl
 conv=>whnf
 apply bc9<;>intro h3
 ·rw [hq]
  rw [hshl] at h3
  have hlt:i < 2 ^ fs.length:=by have:=of_decide_eq_true h3; omega
  have hw:=wrap_nat (n:=i) (by omega)
  have hgo:skipB (best,is) (natsV (bitsL i))=false→few (proofD fs ss all) (i+1)=if (proofD fs ss all) i then (natsV (bitsL i),true) else (best,is):=fun h=>by rw [hst,fewStep,h]; rfl
  have hno:skipB (best,is) (natsV (bitsL i))=true→few (proofD fs ss all) (i+1)=(best,is):=fun h=>by rw [hst,fewStep,if_pos h]
  conv=>whnf
  refine byC (c111 i (by omega)) op111 ?_
  rcases is with _ | _
  ·have hs:=hgo rfl
   conv=>whnf
   refine ⟨fun En' _=>u88 ts fs ss hV x all kvs i hlt hk _ ?_ En',op88⟩;conv=>whnf
   apply bc9<;>intro h7
   ·rw [if_pos h7] at hs
    conv=>whnf
    refine ⟨⟨1586,[],[]⟩,?_⟩;conv=>whnf
    rw [hw]
    have:=hZ1 (i+1,kvs++[(i,manyJ (subF fs (bitsL i)) (subP ss (bitsL i)))]) ⟨hlt,snoc_lt hk⟩ (by omega)
    rw [hs] at this
    exact this
   rw [if_neg (by rw [h7]; simp)] at hs
   conv=>whnf
   refine ⟨⟨1586,[],[]⟩,?_⟩;conv=>whnf
   rw [hw]
   have:=hZ1 (i+1,kvs++[(i,manyJ (subF fs (bitsL i)) (subP ss (bitsL i)))]) ⟨hlt,snoc_lt hk⟩ (by omega)
   rw [hs] at this
   exact this
  conv=>whnf
  apply bc9<;>intro g6_7
  ·have g:decide (((natsV (bitsL i)).length:Int) > best.length)=true:=g6_7
   have hs:=hno (by unfold skipB; rw [g]; rfl)
   conv=>whnf
   refine ⟨⟨1586,[],[]⟩,?_⟩;conv=>whnf
   rw [hw]
   have:=hZ1 (i+1,kvs) ⟨hlt,fun p hp=>by have:=hk p hp; omega⟩ (by omega)
   rw [hs] at this
   exact this
  have g7:decide (((natsV (bitsL i)).length:Int) > best.length)=false:=g6_7
  conv=>whnf
  apply bc9<;>intro g6_13
  ·have g13:(((natsV (bitsL i)).length:Int)==best.length)=true:=g6_13
   conv=>whnf
   refine byC (c112 glT (natsV (bitsL i)) best (by simp; omega) hfl) op112 ?_;conv=>whnf
   apply bc9<;>intro h6
   ·have g6:decide (cmpL cmpI (natsV (bitsL i)) best > 0)=true:=h6
    have hs:=hno (by unfold skipB; rw [g7,g13,g6]; rfl)
    conv=>whnf
    refine ⟨⟨1586,[],[]⟩,?_⟩;conv=>whnf
    rw [hw]
    have:=hZ1 (i+1,kvs) ⟨hlt,fun p hp=>by have:=hk p hp; omega⟩ (by omega)
    rw [hs] at this
    exact this
   have g6:decide (cmpL cmpI (natsV (bitsL i)) best > 0)=false:=h6
   have hs:=hgo (by unfold skipB; rw [g7,g13,g6]; rfl)
   conv=>whnf
   refine ⟨fun En' _=>u88 ts fs ss hV x all kvs i hlt hk _ ?_ En',op88⟩;conv=>whnf
   apply bc9<;>intro h7
   ·rw [if_pos h7] at hs
    conv=>whnf
    refine ⟨⟨1586,[],[]⟩,?_⟩;conv=>whnf
    rw [hw]
    have:=hZ1 (i+1,kvs++[(i,manyJ (subF fs (bitsL i)) (subP ss (bitsL i)))]) ⟨hlt,snoc_lt hk⟩ (by omega)
    rw [hs] at this
    exact this
   rw [if_neg (by rw [h7]; simp)] at hs
   conv=>whnf
   refine ⟨⟨1586,[],[]⟩,?_⟩;conv=>whnf
   rw [hw]
   have:=hZ1 (i+1,kvs++[(i,manyJ (subF fs (bitsL i)) (subP ss (bitsL i)))]) ⟨hlt,snoc_lt hk⟩ (by omega)
   rw [hs] at this
   exact this
  have g13:(((natsV (bitsL i)).length:Int)==best.length)=false:=g6_13
  have hs:=hgo (by unfold skipB; rw [g7,g13]; rfl)
  conv=>whnf
  refine ⟨fun En' _=>u88 ts fs ss hV x all kvs i hlt hk _ ?_ En',op88⟩;conv=>whnf
  apply bc9<;>intro h7
  ·rw [if_pos h7] at hs
   conv=>whnf
   refine ⟨⟨1586,[],[]⟩,?_⟩;conv=>whnf
   rw [hw]
   have:=hZ1 (i+1,kvs++[(i,manyJ (subF fs (bitsL i)) (subP ss (bitsL i)))]) ⟨hlt,snoc_lt hk⟩ (by omega)
   rw [hs] at this
   exact this
  rw [if_neg (by rw [h7]; simp)] at hs
  conv=>whnf
  refine ⟨⟨1586,[],[]⟩,?_⟩;conv=>whnf
  rw [hw]
  have:=hZ1 (i+1,kvs++[(i,manyJ (subF fs (bitsL i)) (subP ss (bitsL i)))]) ⟨hlt,snoc_lt hk⟩ (by omega)
  rw [hs] at this
  exact this
 rw [hshl] at h3
 have hge:i=2 ^ fs.length:=by have:=of_decide_eq_false h3; omega
 conv=>whnf
 have h:=h kvs
 rw [←hge] at h
 exact h
theorem c30 (ts:List ByteArray) (fs:List Fm) (ss:List Sg) (hL:LensJ ts fs ss):PCalls PR glT 30 [.agg [strsV ts,fmsV fs,sgsV ss]] fun r=>r=.tup [vL (proofR ts fs ss).1,vI (proofR ts fs ss).2]:=by
 refine fnW_sound (par_ok glT) Tryd.func30 ?_;conv=>whnf
 refine byC (c83 ts fs ss hL) op83 ?_
 rcases Classical.em (askE ts fs ss=0) with hk | hk
 ·rw [enterV_ok hk]
  have hv:=(ask_valid hk).job
  have h8:=hv.n8
  have hs6:=hv.s6
  have h0:=hv.n0
  obtain ⟨x0,u0,hsk⟩:=skel_of h0 h8 hs6 (ask_clash hk)
  have hsl:List.drop 0 (List.take ((fs.length:Int)).toNat (natsV (pad8 (skelJ fs ss).1)))=natsV x0:=by rw [hsk.eq,List.drop_zero,Int.toNat_natCast]; exact take_pad hsk.few.way.len
  have hxl:(natsV x0).length=fs.length:=by rw [natsV_length]; exact hsk.few.way.len
  have hxne:natsV x0≠[]:=fun e=>by rw [e] at hxl; simp at hxl; omega
  have hpf:=(proof_find h8 hs6 (ask_clash hk)).1
  have hR:proofR ts fs ss=(natsV (proofL fs ss (manyJ fs ss)),0):=by unfold proofR; rw [if_neg (fun h=>h hk)]
  have hV:=ask_valid hk
  conv=>whnf
  refine ⟨[0,1,2,3,4,5,6,7,8,9,10,11,12,13,14,15,16,17,18],[15,16],[17],[],⟨274877906943,[],[]⟩,by decide +kernel,?_⟩;conv=>whnf
  refine byC (c84j glT fs ss h8 hs6) op84 ?_;conv=>whnf
  refine ⟨fun En' _=>u78P ts fs ss hV (skelJ fs ss).1 (manyJ fs ss) _ (fun kvs=>?_) En',op78⟩;conv=>whnf
  rw [hR,hpf]
 rw [enterV_no hk]
 conv=>whnf
 apply bc9<;>intro h2
 ·conv=>whnf
  unfold proofR
  rw [if_pos hk]
 exfalso
 have h2:(askE ts fs ss != 0)=false:=h2
 exact hk (by simpa using h2)
theorem op30:Opens PR 30:=⟨_,Tryd.func30,rfl,rfl⟩
theorem pad_len {x:List Nat} (h:x.length≤8):(pad8 x).length=8:=by simp [pad8]; omega
theorem pad_get {x:List Nat} {i:Nat} (h:i < x.length):(pad8 x).getD i 0=x.getD i 0:=by simp [pad8,List.getD_eq_getElem?_getD,List.getElem?_append_left h]
theorem natsV_inj {x y:List Nat} (h:natsV x=natsV y):x=y:=by
 have:=congrArg (List.map Int.toNat) h
 simpa [natsV,Function.comp_def] using this
theorem pad_inj {x y:List Nat} (h:x.length=y.length):(natsV (pad8 x)==natsV (pad8 y))=(x==y):=by
 rw [Bool.eq_iff_iff,beq_iff_eq,beq_iff_eq]
 constructor
 ·intro e
  have:=congrArg (List.take x.length) e
  rw [take_pad rfl,h,take_pad rfl] at this
  exact natsV_inj this
 intro e; rw [e]
def badS (x0:List Nat) (a b:Nat) (p:List Nat×Nat):Bool:=p.1 != x0&&((p.1.getD a 0==p.1.getD b 0) != (x0.getD a 0==x0.getD b 0))
theorem c32 (ts:List ByteArray) (fs:List Fm) (ss:List Sg) (hL:LensJ ts fs ss) (a b:Int):PCalls PR glT 32 [.agg [strsV ts,fmsV fs,sgsV ss],vI a,vI b] fun r=>r=.tup [vI (shareR ts fs ss a b).1,vI (shareR ts fs ss a b).2]:=by
 refine fnW_sound (par_ok glT) Tryd.func32 ?_;conv=>whnf
 refine byC (c71 glT ts fs ss hL) op71 ?_
 rcases Classical.em (chE ts fs ss=0) with hk | hk
 ·rw [openV_ok hk]
  have hvE:=(chk_valid.1 hk).job
  have h8:=hvE.n8
  have hs6:=hvE.s6
  have h0:=hvE.n0
  have hwr:IntKind.i64.wrap ((fs.length:Int) - 1)=(fs.length:Int) - 1:=wrap_int (by omega) (by omega)
  conv=>whnf
  refine ⟨_,rfl,?_⟩;conv=>whnf
  refine ⟨_,rfl,?_⟩;conv=>whnf
  refine byC (c60 glT [a,b] (by simp) 0 _) op60 ?_;conv=>whnf
  apply bc9<;>intro h4
  ·rw [hwr] at h4
   have h4:[a,b].any (outB 0 ((fs.length:Int) - 1))=true:=h4
   conv=>whnf
   unfold shareR
   rw [if_neg (fun h=>h hk),if_pos h4]
  rw [hwr] at h4
  have h4:[a,b].any (outB 0 ((fs.length:Int) - 1))=false:=h4
  have hin:(0≤a∧a < fs.length)∧0≤b∧b < fs.length:=by
   simp [outB] at h4; omega
  obtain ⟨an,rfl⟩:∃ n:Nat,a=n:=⟨a.toNat,by omega⟩
  obtain ⟨bn,rfl⟩:∃ n:Nat,b=n:=⟨b.toNat,by omega⟩
  obtain ⟨⟨_,ha1⟩,_,hb1⟩:=hin
  conv=>whnf
  refine byC (c83 ts fs ss hL) op83 ?_
  rcases Classical.em (askE ts fs ss=0) with ha | ha
  ·rw [enterV_ok ha]
   obtain ⟨x0,u0,hsk⟩:=skel_of h0 h8 hs6 (ask_clash ha)
   have hxl:=hsk.few.way.len
   have h84:PCalls PR glT 84 [vI fs.length,.agg [arr8 (groupsM fs.length ss)],.agg [arr8 (meetM (stN fs) fs.length)]] fun r=>r=.tup [.agg [arr8 (pad8 x0)],vI u0]:=by have h:=c84j glT fs ss h8 hs6; rw [hsk.eq] at h; exact h
   have hul:=hsk.few.le
   have hpl:=pad_len (x:=x0) (by omega)
   have hR:shareR ts fs ss (an:Int) (bn:Int)=(if (waysA (relOf (groupsM fs.length ss)) (relOf (meetM (stN fs) fs.length)) u0 fs.length).any (badS x0 an bn) then 0 else if x0.getD an 0==x0.getD bn 0 then 1 else 2,0):=by
    unfold shareR
    rw [if_neg (fun h=>h hk),if_neg (by rw [h4]; simp),if_neg (fun h=>h ha),Int.toNat_natCast,Int.toNat_natCast]
    have hmem:x0∈allJ fs ss:=by
     unfold allJ manyJ
     rw [hsk.eq]
     exact List.mem_map.2 ⟨(x0,u0),List.mem_of_mem_head? hsk.few.head,rfl⟩
    rw [←share_eq hmem]
    unfold shareP allJ manyJ
    rw [hsk.eq,List.any_map,←ways_job h8]
    rfl
   conv=>whnf
   refine ⟨[0,1,2,3,4,5,6,7,8,9,10,11,12,13,14,15,16,17],[15],[16],[],⟨4951760157141521099596496895,[],[]⟩,by decide +kernel,?_⟩;conv=>whnf
   refine byC h84 op84 ?_;conv=>whnf
   refine ⟨[0,1,2,3,4,5,6,7,8],[7],[],[],⟨4951760157141521099596496895,[],[]⟩,by decide +kernel,?_⟩;conv=>whnf
   refine ⟨by omega,by omega,?_⟩;conv=>whnf
   refine ⟨_,getI_natsD (by rw [hpl]; omega),?_⟩;conv=>whnf
   refine ⟨by omega,by omega,?_⟩;conv=>whnf
   refine ⟨_,getI_natsD (by rw [hpl]; omega),?_⟩;conv=>whnf
   refine ⟨[0,1,2,3,4,5,6,7,8,9,10,11,12],[],[],[],⟨4951760157141521099596496895,[],[]⟩,by decide +kernel,?_⟩;conv=>whnf
   refine byC (c90 glT fs.length u0 (groupsM fs.length ss) (meetM (stN fs) fs.length)) op90 ?_;conv=>whnf
   refine ⟨⟨18889465931478580860144,[3,30],[]⟩,?_⟩;conv=>whnf
   refine ⟨((waysA (relOf (groupsM fs.length ss)) (relOf (meetM (stN fs) fs.length)) u0 fs.length)).map fun p:List Nat×Nat=>[.agg [arr8 (pad8 p.1)],vI p.2],⟨it114 glT fs.length h8 _ _ (groups_len fs ss) (meetM_len _ _) (fun i hi=>groups_lt h8 hs6 (by omega)) (fun i hi=>meetM_lt h8 hi) u0 (by omega),op114⟩,?_⟩
   refine eachW_ind (fun p:List Nat×Nat=>[.agg [arr8 (pad8 p.1)],vI p.2]) [J,J,J,J,.own 4 [],.own 5 [],.own 6 [],.own 7 [],J,J,.own 10 [],J,.own 12 [],J,J,J,J,J,J,J,J,J,J,J,J,J,J,J,J,J,J,J,J,J,J,J,J,J,J,J,J,J,J,J,J,J,J,J,J,J,J,J,J,J,J,J,J,J,J,J,J,J,J,J,J,J,J,J,J,J,J,J,J,J,.clo (.func 114) [] [.ref [vI fs.length],.ref [vI u0],.ref [arr8 (groupsM fs.length ss)],.ref [arr8 (meetM (stN fs) fs.length)]],J,J,J,J,J,J,J,J,J,J,J,J,J,J,J,J,J] [(4,.cells [vI an]),(5,.cells [vI bn]),(6,.cells [vI 0]),(7,.cells [vI 0]),(10,.cells [arr8 (pad8 x0)]),(12,.cells [vB ((((pad8 x0).getD an 0:Nat):Int)==(((pad8 x0).getD bn 0:Nat):Int))])] [] (fun l _=>((∀ p∈l,p∈(waysA (relOf (groupsM fs.length ss)) (relOf (meetM (stN fs) fs.length)) u0 fs.length))∧(waysA (relOf (groupsM fs.length ss)) (relOf (meetM (stN fs) fs.length)) u0 fs.length).any (badS x0 an bn)=l.any (badS x0 an bn))) ?_ ?_ _ () ⟨fun _ h=>h,rfl⟩
   ·rintro ⟨⟩ hF12
    have haF:(waysA (relOf (groupsM fs.length ss)) (relOf (meetM (stN fs) fs.length)) u0 fs.length).any (badS x0 an bn)=false:=hF12.2
    rw [haF,if_neg (by simp)] at hR
    conv=>whnf
    apply bc9<;>intro h15
    ·have g:(x0.getD an 0==x0.getD bn 0)=true:=by
      have g:((((pad8 x0).getD an 0:Nat):Int)==(((pad8 x0).getD bn 0:Nat):Int))=true:=h15
      rw [eqN,pad_get (by omega),pad_get (by omega)] at g; exact g
     rw [g,if_pos rfl] at hR
     conv=>whnf
     rw [hR]
    have g:(x0.getD an 0==x0.getD bn 0)=false:=by
     have g:((((pad8 x0).getD an 0:Nat):Int)==(((pad8 x0).getD bn 0:Nat):Int))=false:=h15
     rw [eqN,pad_get (by omega),pad_get (by omega)] at g; exact g
    rw [g,if_neg (by simp)] at hR
    conv=>whnf
    rw [hR]
   rintro p l ⟨⟩ hF12 Z1 hZ1
   obtain ⟨hmF,haF⟩:=hF12
   have hpn:=((mem_ways (x:=p.1) (u:=p.2)).1 (hmF p (List.mem_cons_self ..))).1.len
   rw [List.any_cons] at haF
   conv=>whnf
   refine ⟨[0,1,2,3,4,5,6,7,8,9,10,11,12,13],[],[],[],⟨4951760157141521099596496895,[],[]⟩,by decide +kernel,?_⟩;conv=>whnf
   refine ⟨_,rfl,?_⟩;conv=>whnf
   apply bc9<;>intro g13_3
   ·have g1:(p.1 != x0)=true:=by
     have g:(!(natsV (pad8 p.1)==natsV (pad8 x0)))=true:=g13_3
     rw [pad_inj (by omega)] at g; exact g
    conv=>whnf
    refine ⟨by omega,by omega,?_⟩;conv=>whnf
    refine ⟨_,getI_natsD (by rw [pad_len (by omega)]; omega),?_⟩;conv=>whnf
    refine ⟨by omega,by omega,?_⟩;conv=>whnf
    refine ⟨_,getI_natsD (by rw [pad_len (by omega)]; omega),?_⟩;conv=>whnf
    apply bc9<;>intro h13
    ·have g2:((p.1.getD an 0==p.1.getD bn 0) != (x0.getD an 0==x0.getD bn 0))=true:=by
      have g:(((((pad8 p.1).getD an 0:Nat):Int)==(((pad8 p.1).getD bn 0:Nat):Int)) != ((((pad8 x0).getD an 0:Nat):Int)==(((pad8 x0).getD bn 0:Nat):Int)))=true:=h13
      rw [eqN,eqN,pad_get (by omega),pad_get (by omega),pad_get (by omega),pad_get (by omega)] at g; exact g
     have hbad:badS x0 an bn p=true:=by unfold badS; rw [g1,g2]; rfl
     rw [hbad,Bool.true_or] at haF
     rw [haF,if_pos rfl] at hR
     conv=>whnf
     rw [hR]
    have g2:((p.1.getD an 0==p.1.getD bn 0) != (x0.getD an 0==x0.getD bn 0))=false:=by
     have g:(((((pad8 p.1).getD an 0:Nat):Int)==(((pad8 p.1).getD bn 0:Nat):Int)) != ((((pad8 x0).getD an 0:Nat):Int)==(((pad8 x0).getD bn 0:Nat):Int)))=false:=h13
     rw [eqN,eqN,pad_get (by omega),pad_get (by omega),pad_get (by omega),pad_get (by omega)] at g; exact g
    have hbad:badS x0 an bn p=false:=by unfold badS; rw [g1,g2]; rfl
    conv=>whnf
    refine ⟨⟨18889465931478580860144,[13,1013,2013,3013,4013],[]⟩,?_⟩;conv=>whnf
    rw [hbad,Bool.false_or] at haF
    exact hZ1 () ⟨fun q hq=>hmF q (List.mem_cons_of_mem _ hq),haF⟩
   have g1:(p.1 != x0)=false:=by
    have g:(!(natsV (pad8 p.1)==natsV (pad8 x0)))=false:=g13_3
    rw [pad_inj (by omega)] at g; exact g
   have hbad:badS x0 an bn p=false:=by unfold badS; rw [g1]; rfl
   conv=>whnf
   refine ⟨⟨18889465931478580860144,[13,1013,2013,3013,4013],[]⟩,?_⟩;conv=>whnf
   rw [hbad,Bool.false_or] at haF
   exact hZ1 () ⟨fun q hq=>hmF q (List.mem_cons_of_mem _ hq),haF⟩
  rw [enterV_no ha]
  conv=>whnf
  apply bc9<;>intro h7
  ·conv=>whnf
   unfold shareR
   rw [if_neg (fun h=>h hk),if_neg (by rw [h4]; simp),if_pos ha]
  exfalso
  have h7:(askE ts fs ss != 0)=false:=h7
  exact ha (by simpa using h7)
 rw [openV_no hk]
 conv=>whnf
 apply bc9<;>intro h2
 ·conv=>whnf
  unfold shareR
  rw [if_pos hk]
 exfalso
 have h2:(chE ts fs ss != 0)=false:=h2
 exact hk (by simpa using h2)
theorem op32:Opens PR 32:=⟨_,Tryd.func32,rfl,rfl⟩
abbrev lookL (nt:Nat) (fs:Fms) (ss:Sgs) (p:Nat→Bool):List (AV S):=[.lens nt,fmsV fs,sgsV ss,arr8 (groupsM fs.length (pickS ss p)),arr8 (meetM (stN fs) fs.length)]
theorem c80L (gl:Gl) (nt:Nat) (fs:List Fm) (ss:List Sg) (h8:fs.length≤8) (hs:SsOk fs.length 6 ss) (hsl:ss.length≤60) (m:Nat) (hm:m < 2 ^ 63):PCalls PR gl 80 [.agg [.lens nt,fmsV fs,sgsV ss],vI m] fun r=>r=.ref (lookL nt fs ss m.testBit):=by
 have h0:∀ p:Nat→Bool,∀ i,∀ s∈pickU ss p i,i≤ss.length→s.1.toNat < 8:=fun p i s hi hil=>by
  unfold pickU at hi
  obtain ⟨k,hk,rfl⟩:=List.mem_map.1 hi
  have hk:=List.mem_range.1 (List.mem_filter.1 hk).1
  rw [getD_at (show k < ss.length by omega)]
  have:=hs.f _ (List.getElem_mem (show k < ss.length by omega))
  omega
 have hty:∀ i,i≤ss.length→∀ t,typeM (pickU ss m.testBit i) t < 2 ^ 8:=fun i hi t=>typeM_lt (fun s hsm=>h0 _ i s hsm hi) t
 have hgr:∀ T,∀ x∈groupsT fs.length (pickS ss m.testBit) T,x < 2 ^ 8:=fun T=>groupsT_lt (T0:=6) (fun s hsm=>h0 _ _ s hsm (Nat.le_refl _)) T
 have hgl:=fun T=>groupsT_len fs.length (pickS ss m.testBit) T
 refine fnW_sound (par_ok gl) Tryd.func80 ?_;conv=>whnf
 refine ⟨[0,2,3,1,4,5,6,7,8],[],[],[],⟨10141204801825835211973625643007,[],[]⟩,by decide +kernel,?_⟩;conv=>whnf
 refine byC (c94 gl) op94 ?_;conv=>whnf
 refine byC (c113 gl) op113 ?_;conv=>whnf
 refine byC (c95s gl fs h8) op95 ?_;conv=>whnf
 refine ⟨⟨469762146,[2],[]⟩,?_⟩
 refine LoopW_ind _ (fun i:Nat=>(({ tmps:=[J,vI m,J,J,J,.own 21 [],.own 6 [],J,J,J,J,J,J,J,J,J,J,J,J,J,J,J,J,J,J,J,sgsV ss,vI ss.length,vI i,J,J,J,J,J,J,J,J,J,J,J,J,J,J,J,J,J,J,J,J,J,J,J,J,J,J,J,J,J,J,J,J,J,J,J,J,J,J,J,J,J,J,J,J,J,J,J,J,J,J,J,J,J,J,J,J,J,J,J,J,J,J,J,J,J,J,J,J,J,J,J,J,J,J],seg:=[(6,.cells [arr6 (typesN ss m.testBit i)]),(21,.cells [.lens nt,fmsV fs,sgsV ss,arr8 (aloneM),arr8 (meetM (stN fs) fs.length)])],up:=[] }:St S))) (fun i:Nat=>(i≤ss.length)) (fun i:Nat=>(ss.length - i)) () ?_ 0 (Nat.zero_le _)
 intro i hi Z1 hZ1
 conv=>whnf
 apply bc9<;>intro h4
 ·have hlt:i < ss.length:=by have:=of_decide_eq_true h4; omega
  have hw:=wrap_nat (n:=i) (by omega)
  conv=>whnf
  refine ⟨_,getI_nat hlt,?_⟩;conv=>whnf
  refine ⟨by omega,?_⟩;conv=>whnf
  apply bc9<;>intro h6
  ·have h6:m.testBit i=true:=by rw [←bitN hm (show i < 64 by omega)]; exact h6
   obtain ⟨hf0,hf1⟩:=hs.f _ (List.getElem_mem hlt)
   obtain ⟨ht0,ht1⟩:=hs.t _ (List.getElem_mem hlt)
   obtain ⟨f,hf⟩:∃ f:Nat,ss[i].1=(f:Int):=⟨ss[i].1.toNat,by omega⟩
   obtain ⟨t,ht⟩:∃ t:Nat,ss[i].2.1=(t:Int):=⟨ss[i].2.1.toNat,by omega⟩
   have ht6:t < 6:=by omega
   have hf8:f < 8:=by omega
   have hgt:getI (natsV (typesN ss m.testBit i)) ss[i].2.1=some ((typeM (pickU ss m.testBit i) t:Nat):Int):=by rw [ht,getI_natsD (by rw [typesN_len]; omega),typesN_get ht6]
   conv=>whnf
   refine ⟨[0,1,2,3,4,5,6,7,8,9],[],[],[],⟨10141204801825835211973625643007,[],[]⟩,by decide +kernel,?_⟩;conv=>whnf
   refine ⟨by omega,by omega,?_⟩;conv=>whnf
   refine ⟨_,hgt,?_⟩;conv=>whnf
   refine ⟨by omega,?_⟩;conv=>whnf
   refine ⟨by omega,by omega,?_⟩;conv=>whnf
   refine ⟨_,hgt,_,rfl,?_⟩;conv=>whnf
   refine ⟨⟨469762146,[8,1008,2008,3008,4008],[]⟩,?_⟩;conv=>whnf
   rw [hf,ht,shl_one (by omega),or_nat (lt63 (hty i hi t)) (Nat.pow_lt_pow_right (by omega) (by omega)),nats_set,typesN_T hlt h6 ht hf,hw]
   exact hZ1 (i+1) hlt (by omega)
  have h6:m.testBit i=false:=by rw [←bitN hm (show i < 64 by omega)]; exact h6
  conv=>whnf
  refine ⟨⟨469762146,[8,1008,2008,3008,4008],[]⟩,?_⟩;conv=>whnf
  rw [hw,←typesN_F h6]
  exact hZ1 (i+1) hlt (by omega)
 have hge:i=ss.length:=by have:=of_decide_eq_false h4; omega
 subst hge
 conv=>whnf
 refine loop_q fun Q2 hQ2=>?_
 refine ⟨⟨844424930132000,[6],[]⟩,?_⟩
 refine LoopW_ind _ (fun t:Nat=>(({ tmps:=[J,J,J,J,J,.own 21 [],J,J,J,J,J,J,J,J,J,J,J,J,J,J,J,J,J,J,J,J,J,J,J,J,J,J,J,J,J,J,J,J,J,J,J,J,J,J,J,J,J,J,.agg [arr6 (typesN ss m.testBit ss.length)],vI t,J,J,J,J,J,J,J,J,J,J,J,J,J,J,J,J,J,J,J,J,J,J,J,J,J,J,J,J,J,J,J,J,J,J,J,J,J,J,J,J,J,J,J,J,J,J,J,J,J,J,J,J,J],seg:=[(21,.cells [.lens nt,fmsV fs,sgsV ss,arr8 (groupsT fs.length (pickS ss m.testBit) t),arr8 (meetM (stN fs) fs.length)])],up:=[] }:St S))) (fun t:Nat=>(t≤6)) (fun t:Nat=>(6 - t)) () ?_ 0 (Nat.zero_le _)
 intro t ht Z2 hZ2
 conv=>whnf
 apply bc9<;>intro h10
 ·have hlt6:t < 6:=by have:=of_decide_eq_true h10; omega
  have hwt:=wrap_nat (n:=t) (by omega)
  conv=>whnf
  refine ⟨_,getI_natsD (l:=typesN ss m.testBit ss.length) (by rw [typesN_len]; exact hlt6),?_⟩;conv=>whnf
  rw [typesN_get hlt6]
  conv=>whnf
  have hset:typeM (pickU ss m.testBit ss.length) t < 2 ^ 8:=hty _ (Nat.le_refl _) t
  have hal:=fun n=>allM_lt (hgr t) hset n
  refine ⟨⟨865535553385270304,[],[]⟩,?_⟩
  refine LoopW_ind _ (fun a:Nat=>(({ tmps:=[J,J,J,J,J,.own 21 [],J,J,J,J,vI (typeM (pickU ss m.testBit ss.length) t),vI (allM a (groupsT fs.length (pickS ss m.testBit) t) (typeM (pickU ss m.testBit ss.length) t)),J,J,J,J,J,J,J,J,J,J,J,J,J,J,J,J,J,J,J,J,J,J,J,J,J,J,J,J,J,J,J,J,J,J,J,J,.agg [arr6 (typesN ss m.testBit ss.length)],vI t,J,J,J,J,J,J,J,J,vI fs.length,vI a,J,J,J,J,J,J,J,J,J,J,J,J,J,J,J,J,J,J,J,J,J,J,J,J,J,J,J,J,J,J,J,J,J,J,J,J,J,J,J,J,J,J,J],seg:=[(21,.cells [.lens nt,fmsV fs,sgsV ss,arr8 (groupsT fs.length (pickS ss m.testBit) t),arr8 (meetM (stN fs) fs.length)])],up:=[] }:St S))) (fun a:Nat=>(a≤fs.length)) (fun a:Nat=>(fs.length - a)) () ?_ 0 (Nat.zero_le _)
  intro a ha Z3 hZ3
  conv=>whnf
  apply bc9<;>intro h14
  ·have hlta:a < fs.length:=by have:=of_decide_eq_true h14; omega
   have hwa:=wrap_nat (n:=a) (by omega)
   conv=>whnf
   refine ⟨by omega,?_⟩;conv=>whnf
   apply bc9<;>intro h16
   ·have h16:(typeM (pickU ss m.testBit ss.length) t).testBit a=true:=by rw [←bitN (lt63 hset) (show a < 64 by omega)]; exact h16
    have hga2:(groupsT fs.length (pickS ss m.testBit) t).getD a 0 < 2 ^ 8:=by rw [getD_at (by rw [hgl]; omega)]; exact hgr t _ (List.getElem_mem _)
    conv=>whnf
    refine ⟨by omega,by omega,?_⟩;conv=>whnf
    refine ⟨_,getI_natsD (by rw [hgl]; omega),?_⟩;conv=>whnf
    refine ⟨⟨865535553385270304,[],[]⟩,?_⟩;conv=>whnf
    rw [or_nat (lt63 (hal a)) (lt63 hga2),hwa]
    have:=hZ3 (a+1) hlta (by omega)
    rw [allM_succ,if_pos h16] at this
    exact this
   have h16:(typeM (pickU ss m.testBit ss.length) t).testBit a=false:=by rw [←bitN (lt63 hset) (show a < 64 by omega)]; exact h16
   conv=>whnf
   refine ⟨⟨865535553385270304,[],[]⟩,?_⟩;conv=>whnf
   rw [hwa]
   have:=hZ3 (a+1) hlta (by omega)
   rw [allM_succ,h16,if_neg (by simp)] at this
   exact this
  have hga:a=fs.length:=by have:=of_decide_eq_false h14; omega
  subst hga
  conv=>whnf
  refine ⟨⟨7253554918532199978372128,[],[]⟩,?_⟩
  refine LoopW_ind _ (fun s9:List Nat×Nat=>match s9 with | (ys,b)=>(({ tmps:=[J,J,J,J,J,.own 21 [],J,J,J,J,vI (typeM (pickU ss m.testBit ss.length) t),vI (allM fs.length (groupsT fs.length (pickS ss m.testBit) t) (typeM (pickU ss m.testBit ss.length) t)),J,J,J,J,J,J,J,J,J,J,J,J,J,J,J,J,J,J,J,J,J,J,J,J,J,J,J,J,J,J,J,J,J,J,J,J,.agg [arr6 (typesN ss m.testBit ss.length)],vI t,J,J,J,J,J,J,J,J,J,J,J,J,J,J,J,J,J,J,J,J,J,J,J,J,J,J,J,J,J,J,J,vI fs.length,vI b,J,J,J,J,J,J,J,J,J,J,J,J,J,J,J,J,J,J,J,J],seg:=[(21,.cells [.lens nt,fmsV fs,sgsV ss,arr8 (ys),arr8 (meetM (stN fs) fs.length)])],up:=[] }:St S))) (fun s9:List Nat×Nat=>match s9 with | (ys,b)=>(ys=joinU fs.length (groupsT fs.length (pickS ss m.testBit) t) (typeM (pickU ss m.testBit ss.length) t) b∧b≤fs.length)) (fun s9:List Nat×Nat=>match s9 with | (ys,b)=>(fs.length - b)) () ?_ (_,0) ⟨(joinU_zero _ _ _).symm,Nat.zero_le _⟩
  rintro ⟨ys,b⟩ hinv Z4 hZ4
  dsimp only at hinv hZ4
  obtain ⟨rfl,hb⟩:=hinv
  conv=>whnf
  apply bc9<;>intro h20
  ·have hltb:b < fs.length:=by have:=of_decide_eq_true h20; omega
   have hwb:=wrap_nat (n:=b) (by omega)
   conv=>whnf
   apply bc9<;>intro g22_2
   ·have g22_2:(typeM (pickU ss m.testBit ss.length) t != 0)=true:=by rw [←nz]; exact g22_2
    conv=>whnf
    refine ⟨by omega,?_⟩;conv=>whnf
    apply bc9<;>intro h22
    ·have h22:(allM fs.length (groupsT fs.length (pickS ss m.testBit) t) (typeM (pickU ss m.testBit ss.length) t)).testBit b=true:=by rw [←bitN (lt63 (hal fs.length)) (show b < 64 by omega)]; exact h22
     conv=>whnf
     refine ⟨by omega,by omega,?_⟩;conv=>whnf
     refine ⟨_,getI_natsD (by rw [joinU_len,hgl]; omega),_,rfl,?_⟩;conv=>whnf
     refine ⟨⟨7253554918532199978372128,[],[]⟩,?_⟩;conv=>whnf
     rw [nats_set,hwb]
     exact hZ4 (_,b+1) ⟨joinU_T hltb (by simpa using g22_2) h22,hltb⟩ (by dsimp only; omega)
    have h22:(allM fs.length (groupsT fs.length (pickS ss m.testBit) t) (typeM (pickU ss m.testBit ss.length) t)).testBit b=false:=by rw [←bitN (lt63 (hal fs.length)) (show b < 64 by omega)]; exact h22
    conv=>whnf
    refine ⟨⟨7253554918532199978372128,[],[]⟩,?_⟩;conv=>whnf
    rw [hwb]
    exact hZ4 (_,b+1) ⟨joinU_F (by rw [h22,Bool.and_false]),hltb⟩ (by dsimp only; omega)
   have g22_2:(typeM (pickU ss m.testBit ss.length) t != 0)=false:=by rw [←nz]; exact g22_2
   conv=>whnf
   refine ⟨⟨7253554918532199978372128,[],[]⟩,?_⟩;conv=>whnf
   rw [hwb]
   exact hZ4 (_,b+1) ⟨joinU_F (by rw [g22_2,Bool.false_and]),hltb⟩ (by dsimp only; omega)
  have hgb:b=fs.length:=by have:=of_decide_eq_false h20; omega
  subst hgb
  conv=>whnf
  refine ⟨⟨844424930132000,[],[]⟩,?_⟩;conv=>whnf
  rw [hwt,joinU_full,show typeM (pickU ss m.testBit ss.length) t=typeM (pickS ss m.testBit) t from rfl,←groupsT_succ]
  exact hZ2 (t+1) hlt6 (by omega)
 have hgt:t=6:=by have:=of_decide_eq_false h10; omega
 conv=>whnf
 refine (hQ2 _ _ _).mpr ?_;conv=>whnf
 rw [hgt]
theorem c80b (gl:Gl) (nt:Nat) (fs:Fms) (ss:Sgs) (h8:fs.length≤8) (hs:SsOk fs.length 6 ss) (hsl:ss.length≤60) :
  PCalls PR gl 80 [.agg [.lens nt,fmsV fs,sgsV ss],vI (IntKind.i64.wrap (shlI .i64 1 (ss.length:Int) - 1))] fun r=>r=.ref [.lens nt,fmsV fs,sgsV ss,arr8 (groupsM fs.length ss),arr8 (meetM (stN fs) fs.length)]:=by
 have h:=c80L gl nt fs ss h8 hs hsl (2 ^ ss.length - 1) (mask_lt hsl)
 have h1:pickS ss (2 ^ ss.length - 1).testBit=ss:=pick_all (fun i hi=>mask_bit hi)
 unfold lookL at h
 rw [h1] at h
 rw [mask_all hsl]
 exact h
theorem c74L (nt:Nat) (fs:List Fm) (ss:List Sg) (sx:List Sg) (h8:fs.length≤8) (hs:SsOk fs.length 6 ss):PCalls PR glT 74 [.ref [.lens nt,fmsV fs,sgsV sx,arr8 (groupsM fs.length ss),arr8 (meetM (stN fs) fs.length)]] fun r=>r=clashV fs ss:=by
 refine fnW_sound (par_ok glT) Tryd.func74 ?_;conv=>whnf
 refine ⟨⟨12289,[],[]⟩,?_⟩
 refine LoopW_ind _ (fun i:Nat=>(({ tmps:=[.ref [.lens nt,fmsV fs,sgsV sx,arr8 (groupsM fs.length ss),arr8 (meetM (stN fs) fs.length)],J,J,J,J,J,J,J,J,J,J,J,vI fs.length,vI i,J,J,J,J,J,J,J,J,J,J,J,J,J,J,J,J,J,J,J,J,J,J],seg:=[],up:=[] }:St S))) (fun i:Nat=>(i≤fs.length∧∀ j,j < i→(groupsM fs.length ss).getD j 0 &&& (meetM (stN fs) fs.length).getD j 0=0)) (fun i:Nat=>(fs.length - i)) () ?_ 0 ⟨Nat.zero_le _,fun j h=>absurd h (Nat.not_lt_zero j)⟩
 intro i hinv Z1 hZ1
 obtain ⟨hi,hd⟩:=hinv
 conv=>whnf
 apply bc9<;>intro h2
 ·have hlt:i < fs.length:=by have:=of_decide_eq_true h2; omega
  have hw:=wrap_nat (n:=i) (by omega)
  have hg8:=groups_lt h8 hs (show i < 8 by omega)
  have hm8:=meetM_lt (R:=stN fs) h8 hlt
  have ha8:(groupsM fs.length ss).getD i 0 &&& (meetM (stN fs) fs.length).getD i 0 < 2 ^ 8:=Nat.and_lt_two_pow _ hm8
  have hand:=and_nat (lt63 hg8) (lt63 hm8)
  conv=>whnf
  refine ⟨[0,1,2,3,4,5,6,7,8,9,10,11,12,13],[],[],[],⟨68719476735,[],[]⟩,by decide +kernel,?_⟩;conv=>whnf
  refine ⟨_,getI_natsD (by rw [groups_len]; omega),?_⟩;conv=>whnf
  refine ⟨_,getI_natsD (by rw [meetM_len]; omega),?_⟩;conv=>whnf
  apply bc9<;>intro h5
  ·have h5:(groupsM fs.length ss).getD i 0 &&& (meetM (stN fs) fs.length).getD i 0≠0:=by
    have h5:(bitsI .and .i64 (((groupsM fs.length ss).getD i 0:Nat):Int) (((meetM (stN fs) fs.length).getD i 0:Nat):Int) != 0)=true:=h5
    rw [hand] at h5
    intro e; rw [e] at h5; cases h5
   have hC:=clash_find h8 hs hlt hd h5
   conv=>whnf
   refine byC (by have:=c72' ha8; rw [←hand] at this; exact this) op72 ?_;conv=>whnf
   unfold clashV
   rw [hC]
  have h5:(groupsM fs.length ss).getD i 0 &&& (meetM (stN fs) fs.length).getD i 0=0:=by
   have h5:(bitsI .and .i64 (((groupsM fs.length ss).getD i 0:Nat):Int) (((meetM (stN fs) fs.length).getD i 0:Nat):Int) != 0)=false:=h5
   rw [hand] at h5
   simpa using h5
  conv=>whnf
  refine ⟨⟨12289,[],[]⟩,?_⟩;conv=>whnf
  rw [hw]
  exact hZ1 (i+1) ⟨hlt,up_succ hd h5⟩ (by omega)
 have hge:i=fs.length:=by have:=of_decide_eq_false h2; omega
 conv=>whnf
 unfold clashV
 rw [clash_no h8 (by rw [hge] at hd; exact hd)]
noncomputable abbrev parR (gl:Gl):Par S Unit:={ par gl with rs:=true }
theorem parR_ok (gl:Gl) (En:Env Unit):ParOk PR gl (parR gl) En:={ par_ok gl En with }
theorem c34 (ts:List ByteArray) (fs:List Fm) (ss:List Sg) (hL:LensJ ts fs ss) (tys:List Int) (hty:tys.length≤9223372036854775807) (days:Int):PCalls PR glT 34 [.agg [strsV ts,fmsV fs,sgsV ss],vL tys,vI days] fun r=>r=.tup [vI (roomR ts fs ss tys days).1,vI (roomR ts fs ss tys days).2]:=by
 refine fnW_sound (parR_ok glT) Tryd.func34 ?_;conv=>whnf
 refine byC (c71 glT ts fs ss hL) op71 ?_
 rcases Classical.em (chE ts fs ss=0) with hk | hk
 ·rw [openV_ok hk]
  have hV:=chk_valid.1 hk
  have hv12:=hV.s12
  have hvE:=hV.job
  have hf8:=hvE.n8
  have hn7:=hV.n7
  have hs6:=hvE.s6
  have h0:=hvE.n0
  have ht6:=hV.t6
  have hwr:IntKind.i64.wrap ((ts.length:Int) - 1)=(ts.length:Int) - 1:=wrap_int (by omega) (by omega)
  conv=>whnf
  refine byC (c60 glT tys hty 0 _) op60 ?_;conv=>whnf
  apply bc9<;>intro h4
  ·rw [hwr] at h4
   have h4:tys.any (outB 0 ((ts.length:Int) - 1))=true:=h4
   conv=>whnf
   rw [roomR_err (e:=4) (by unfold roomE; rw [if_neg (fun h=>h hk),if_pos h4]) (by decide)]
  rw [hwr] at h4
  have h4:tys.any (outB 0 ((ts.length:Int) - 1))=false:=h4
  have hin:∀ t∈tys,0≤t∧t < 6:=fun t ht=>by
   have:=List.any_eq_false.1 h4 t ht
   simp [outB] at this; omega
  conv=>whnf
  refine ⟨⟨3848290698446,[],[]⟩,?_⟩;conv=>whnf
  refine ⟨false,?_⟩
  refine LoopW_ind _ (fun i:Nat=>(({ tmps:=[J,vL tys,vI days,.own 3 [],J,J,.own 6 [],.own 7 [],J,J,vI (metB (tys.take i)),J,J,J,J,J,J,J,J,J,J,J,J,J,J,J,J,J,J,J,J,J,J,J,J,J,J,J,J,vL tys,vI tys.length,vI i,J,J,J,J,J,J,J,J,J,J,J,J,J,J,J,J,J,J,J,J,J,J,J,J,J,J,J,J,J,J,J,J,J,J,J,J,J,J,J,J,J,J,J,J,J,J,J,J,J,J,J,J,J,J,J,J,J,J,J,J,J,J,J,J,J,J,J,J,J,J,J,J,J,J,J,J,J,J,J,J,J,J,J,J,J,J,J,J,J,J,J,J,J,J,J,J,J,J,J,J,J,J,J,J,J,J,J,J,J,J,J,J,J,J,J,J,J,J,J,J,J,J,J,J,J,J,J,J,J,J,J,J,J,J],seg:=[(3,.cells [strsV ts,fmsV fs,sgsV ss]),(6,.cells [vI 0]),(7,.cells [vI 0])],up:=[] }:St S))) (fun i:Nat=>(i≤tys.length∧∀ j,j < i→dupB tys j=false)) (fun i:Nat=>(tys.length - i)) () ?_ 0 ⟨Nat.zero_le _,fun j h=>absurd h (Nat.not_lt_zero j)⟩
  intro i hinv Z1 hZ1
  obtain ⟨hi,hd⟩:=hinv
  conv=>whnf
  apply bc9<;>intro h8
  ·have hlt:i < tys.length:=by have:=of_decide_eq_true h8; omega
   have hw:=wrap_nat (n:=i) (by omega)
   have hti:=hin _ (List.getElem_mem hlt)
   have hte:tys[i]=((tys[i].toNat:Nat):Int):=by omega
   have hm8:metB (tys.take i) < 2 ^ 8:=metB_lt fun t ht=>hin t (List.mem_of_mem_take ht)
   conv=>whnf
   refine ⟨_,getI_nat hlt,?_⟩;conv=>whnf
   refine ⟨hti.1,?_⟩;conv=>whnf
   apply bc9<;>intro h10
   ·have h10:dupB tys i=true:=by
     have g:(bitsI .and .i64 (shrI .i64 ((metB (tys.take i):Nat):Int) tys[i]) 1==1)=true:=h10
     rw [hte,bitB (lt63 hm8) (by omega),met_dup hin hlt] at g; exact g
    conv=>whnf
    rw [roomR_err (e:=5) (by unfold roomE; rw [if_neg (fun h=>h hk),if_neg (by rw [h4]; simp),if_pos (dup_some hlt h10)]) (by decide)]
   have h10:dupB tys i=false:=by
    have g:(bitsI .and .i64 (shrI .i64 ((metB (tys.take i):Nat):Int) tys[i]) 1==1)=false:=h10
    rw [hte,bitB (lt63 hm8) (by omega),met_dup hin hlt] at g; exact g
   conv=>whnf
   refine ⟨hti.1,?_⟩;conv=>whnf
   refine ⟨⟨3848290698446,[],[]⟩,?_⟩;conv=>whnf
   refine ⟨false,?_⟩;conv=>whnf
   have hmt:bitsI .or .i64 ((metB (tys.take i):Nat):Int) (shlI .i64 1 tys[i])=((metB (tys.take (i+1)):Nat):Int):=by
    rw [hte,shl_one (by omega),or_nat (lt63 hm8) (Nat.pow_lt_pow_right (by omega) (by omega)),take_snoc hlt,metB_snoc]
   rw [hmt,hw]
   exact hZ1 (i+1) ⟨hlt,up_succ hd h10⟩ (by omega)
  have hge:i=tys.length:=by have:=of_decide_eq_false h8; omega
  subst hge
  have hl6:=dup_len hin hd
  conv=>whnf
  refine ⟨_,rfl,?_⟩;conv=>whnf
  refine byC (c60 glT [days] (by simp) 1 60) op60 ?_;conv=>whnf
  apply bc9<;>intro h14
  ·have h14:[days].any (outB 1 60)=true:=h14
   conv=>whnf
   rw [roomR_err (e:=7) (by unfold roomE; rw [if_neg (fun h=>h hk),if_neg (by rw [h4]; simp),if_neg (by rw [dup_none hd]; simp),if_pos h14]) (by decide)]
  have h14:[days].any (outB 1 60)=false:=h14
  have hdy:=(out1 _ _ _).1 h14
  conv=>whnf
  refine byC (c83 ts fs ss hL) op83 ?_
  have hE1:roomE ts fs ss tys days=askE ts fs ss:=by unfold roomE; rw [if_neg (fun h=>h hk),if_neg (by rw [h4]; simp),if_neg (by rw [dup_none hd]; simp),if_neg (by rw [h14]; simp)]
  rcases Classical.em (askE ts fs ss=0) with ha | ha
  ·rw [enterV_ok ha]
   have hE:roomE ts fs ss tys days=0:=hE1.trans ha
   obtain ⟨x0,u0,hsk⟩:=skel_of h0 hf8 hs6 (ask_clash ha)
   have hm9:manyJ fs ss≤9:=by
    have:=hsk.few.le
    unfold manyJ; rw [hsk.eq]; dsimp only; omega
   have hw1:IntKind.i64.wrap ((fs.length:Int)+1)=((fs.length+1:Nat):Int):=wrap_nat (by omega)
   have hw2:IntKind.i64.wrap ((ss.length:Int)+(tys.length:Int))=((ss.length+tys.length:Nat):Int):=by rw [wrap_int (by omega) (by omega)]; omega
   conv=>whnf
   refine ⟨[0,1,2,3,4,5,6,7,8,9,10,11,12,13,14,15,16,17],[15],[16],[],⟨95780971304118053647396689196894323976171195136475135,[],[]⟩,by decide +kernel,?_⟩;conv=>whnf
   refine byC (c84j glT fs ss hf8 hs6) op84 ?_;conv=>whnf
   refine ⟨[0,1,2,3,4,5,7,8,9,10,11,12,13,14,15,6,16,17,18,19],[6,16,18],[],[],⟨95780971304118053647396689196894323976171195136475135,[],[]⟩,by decide +kernel,?_⟩;conv=>whnf
   refine ⟨by rw [hw1]; omega,_,rfl,?_⟩;conv=>whnf
   refine ⟨by rw [hw2]; omega,_,rfl,?_⟩;conv=>whnf
   have hcpF:ovl fs (List.replicate (IntKind.i64.wrap ((fs.length:Int)+1)).toNat f0)=fs++[f0]:=by rw [hw1]; exact cp_list fs _ 1
   have hcpG:ovl ss (List.replicate (ss.length:Int).toNat s0)=ss++(tys.take 0).map fun t=>((fs.length:Int),t,(0:Int)):=cp_list ss _ 0
   refine ⟨⟨4543259751217974174964184288116940,[13,56,1015,2015,3015],[97,1015,2015,3015]⟩,?_⟩;conv=>whnf
   refine ⟨false,?_⟩
   refine LoopW_ind _ (fun s9:Nat×Fms×Sgs=>match s9 with | (k,F,G)=>(({ tmps:=[J,J,vI days,.own 3 [],J,J,.own 6 [],.own 7 [],J,J,J,J,J,J,vI (manyJ fs ss),.own 15 [],J,J,J,J,J,J,J,J,J,J,J,J,J,J,J,J,J,J,J,J,J,J,J,J,J,J,J,J,J,J,J,J,J,J,J,J,J,J,J,J,J,J,J,J,J,J,J,J,J,J,J,J,J,J,J,J,J,J,J,J,J,J,J,J,J,J,J,J,J,J,J,J,J,J,J,J,J,J,J,J,J,J,J,J,J,J,J,J,J,J,J,J,J,vL tys,vI tys.length,vI k,J,J,J,J,J,J,J,J,J,J,J,J,J,J,J,J,J,J,J,J,J,J,J,J,J,J,J,J,J,J,J,J,J,J,J,J,J,J,J,J,J,J,J,J,J,J,J,J,J,J,J,J,J,J,J,J,J,J,J,J,J,J,J,J],seg:=[(3,.cells [strsV ts,fmsV fs,sgsV ss]),(6,.cells [vI 0]),(7,.cells [vI 0]),(15,.cells [strsV ts,.sl (S:=S) U.forme F (some 87),.sl (S:=S) U.sight G (some 97)]),(87,.row U.forme true),(97,.row U.sight false)],up:=[] }:St S))) (fun s9:Nat×Fms×Sgs=>match s9 with | (k,F,G)=>(k≤tys.length∧F=fs++[f0]∧G=ss++(tys.take k).map fun t=>((fs.length:Int),t,0))) (fun s9:Nat×Fms×Sgs=>match s9 with | (k,F,G)=>(tys.length - k)) () ?_ (0,ovl fs (List.replicate (IntKind.i64.wrap ((fs.length:Int)+1)).toNat f0),ovl ss (List.replicate (ss.length:Int).toNat s0)) ⟨Nat.zero_le _,hcpF,hcpG⟩
   rintro ⟨k,F,G⟩ hinv Z2 hZ2
   dsimp only at hinv hZ2
   obtain ⟨hk2,hF,hG⟩:=hinv
   conv=>whnf
   apply bc9<;>intro h24
   ·have hltk:k < tys.length:=by have:=of_decide_eq_true h24; omega
    have hwk:=wrap_nat (n:=k) (by omega)
    conv=>whnf
    refine ⟨_,getI_nat hltk,?_⟩;conv=>whnf
    refine ⟨_,rfl,?_⟩;conv=>whnf
    refine ⟨lim (by rw [hG]; simp; omega),?_⟩;conv=>whnf
    refine ⟨⟨4543259751217974174964184288116940,[122,123],[]⟩,?_⟩;conv=>whnf
    refine ⟨false,?_⟩;conv=>whnf
    rw [hwk]
    exact hZ2 (k+1,F,_) ⟨hltk,hF,by rw [hG,take_snoc hltk,List.map_append,←List.append_assoc]; rfl⟩ (by dsimp only; omega)
   have hgek:k=tys.length:=by have:=of_decide_eq_false h24; omega
   have hG:G=(furS fs.length ss tys):=by rw [hG,hgek,List.take_length]; rfl
   subst hF hG
   have hRB:IntKind.i64.wrap (IntKind.i64.wrap (60 - days)+2)=((62 - days.toNat:Nat):Int):=by rw [wrap_int (n:=60 - days) (by omega) (by omega),wrap_int (by omega) (by omega)]; omega
   have hS6:=furS_ok (n:=fs.length) hs6 hin
   have hSl:=furS_len fs.length ss tys
   conv=>whnf
   refine ⟨⟨1020847100762815390390123822295304683724,[],[]⟩,?_⟩;conv=>whnf
   refine ⟨true,?_⟩
   refine LoopW_ind _ (fun s9:Nat×Fm=>match s9 with | (d,z)=>(({ tmps:=[J,J,vI days,.own 3 [],J,J,.own 6 [],.own 7 [],J,J,J,J,J,J,vI (manyJ fs ss),.own 15 [],J,J,J,J,J,J,J,J,J,J,J,J,J,J,J,J,J,J,J,J,J,J,J,J,J,J,J,J,J,J,J,J,J,J,J,J,J,J,J,J,J,J,J,J,J,J,J,J,J,J,J,J,J,J,J,J,J,J,J,J,J,J,J,J,J,J,J,J,J,J,J,J,J,J,J,J,J,J,J,J,J,J,J,J,J,J,J,J,J,J,J,J,J,J,J,J,J,J,J,J,J,J,J,J,J,J,J,J,J,J,J,J,vI (IntKind.i64.wrap (IntKind.i64.wrap (60 - days)+2)),vI d,J,J,J,J,J,J,J,J,J,J,J,J,J,J,J,J,J,J,J,J,J,J,J,J,J,J,J,J,J,J,J,J,J,J,J,J,J,J,J,J,J,J,J,J,J,J],seg:=[(3,.cells [.lens ts.length,.lens fs.length,.lens ss.length]),(6,.cells [vI 0]),(7,.cells [vI 0]),(15,.cells [.lens ts.length,.sl (S:=S) U.forme (fs++[z]) (some 87),.sl (S:=S) U.sight (furS fs.length ss tys) (some 97)]),(87,.row U.forme true),(97,.row U.sight true)],up:=[] }:St S))) (fun s9:Nat×Fm=>match s9 with | (d,z)=>(d≤62 - days.toNat∧∀ e,e < d→roomD fs ss tys days e=false)) (fun s9:Nat×Fm=>match s9 with | (d,z)=>(62 - days.toNat - d)) () ?_ (0,f0) ⟨Nat.zero_le _,fun e h=>absurd h (Nat.not_lt_zero e)⟩
   rintro ⟨d,z⟩ hinv Z3 hZ3
   dsimp only at hinv hZ3
   obtain ⟨hd0,hrd⟩:=hinv
   conv=>whnf
   apply bc9<;>intro h29
   ·have hltd:d < 62 - days.toNat:=by have:=of_decide_eq_true h29; rw [hRB] at this; omega
    have hwd:=wrap_nat (n:=d) (by omega)
    have hFl:=furF_len fs (d:Int) days
    have hF8:(furF fs d days).length≤8:=by omega
    rw [←hFl] at hS6
    have hset:((fs++[z]).set fs.length (b0,(d:Int),(d:Int),IntKind.i64.wrap (IntKind.i64.wrap ((d:Int)+days) - 1)))=(furF fs d days):=by
     rw [set_last,wrap_int (n:=(d:Int)+days) (by omega) (by omega),wrap_int (by omega) (by omega)]; rfl
    have h80:PCalls PR glT 80 [.agg [.lens ts.length,fmsV ((fs++[z]).set fs.length (b0,(d:Int),(d:Int),IntKind.i64.wrap (IntKind.i64.wrap ((d:Int)+days) - 1))),sgsV (furS fs.length ss tys)],vI (IntKind.i64.wrap (shlI .i64 1 ((furS fs.length ss tys).length:Int) - 1))] fun r=>r=.ref [.lens ts.length,fmsV (furF fs d days),sgsV (furS fs.length ss tys),arr8 (groupsM (furF fs d days).length (furS fs.length ss tys)),arr8 (meetM (stN (furF fs d days)) (furF fs d days).length)]:=by
     rw [hset]; exact c80b glT ts.length (furF fs d days) (furS fs.length ss tys) hF8 hS6 (by omega)
    have h90:PCalls PR glT 90 [vI ((fs++[z]).set fs.length (b0,(d:Int),(d:Int),IntKind.i64.wrap (IntKind.i64.wrap ((d:Int)+days) - 1))).length,vI (manyJ fs ss),.agg [arr8 (groupsM (furF fs d days).length (furS fs.length ss tys))],.agg [arr8 (meetM (stN (furF fs d days)) (furF fs d days).length)]] fun r=>r=.clo (.func 114) [] [.ref [vI (furF fs d days).length],.ref [vI (manyJ fs ss)],.ref [arr8 (groupsM (furF fs d days).length (furS fs.length ss tys))],.ref [arr8 (meetM (stN (furF fs d days)) (furF fs d days).length)]]:=by
     rw [hset]; exact c90 glT _ _ _ _
    have hwj:=ways_job (fs:=(furF fs d days)) (ss:=(furS fs.length ss tys)) hF8 (manyJ fs ss)
    conv=>whnf
    refine ⟨true,⟨_,getI_nat (show fs.length < (fs++[z]).length by simp),?_⟩⟩;conv=>whnf
    refine ⟨_,rfl,?_⟩;conv=>whnf
    refine ⟨[0,1,2,3,4,5,6,7],[],[],[],⟨95780971304118053647396689196894323976171195136475135,[],[]⟩,by decide +kernel,?_⟩;conv=>whnf
    refine ⟨by omega,?_⟩;conv=>whnf
    refine byC h80 op80 ?_;conv=>whnf
    refine byC (c74L ts.length (furF fs d days) (furS fs.length ss tys) (furS fs.length ss tys) hF8 hS6) op74 ?_
    unfold clashV
    rcases hJ:clashJ (furF fs d days) (furS fs.length ss tys) with _ | ⟨a,b⟩
    ·conv=>whnf
     refine ⟨[0,1,2,3,4,5,6,7,8,9,10,11,12],[],[],[],⟨95780971304118053647396689196894323976171195136475135,[],[]⟩,by decide +kernel,?_⟩;conv=>whnf
     refine byC h90 op90 ?_;conv=>whnf
     refine ⟨⟨2993155353254710023581909352793337748077645152960716,[],[87,97]⟩,?_⟩;conv=>whnf
     refine ⟨((waysA (relOf (groupsM (furF fs d days).length (furS fs.length ss tys))) (relOf (meetM (stN (furF fs d days)) (furF fs d days).length)) (manyJ fs ss) (furF fs d days).length)).map fun p:List Nat×Nat=>[.agg [arr8 (pad8 p.1)],vI p.2],⟨it114 glT (furF fs d days).length hF8 _ _ (groups_len (furF fs d days) (furS fs.length ss tys)) (meetM_len _ _) (fun i hi=>groups_lt hF8 hS6 (by omega)) (fun i hi=>meetM_lt hF8 hi) (manyJ fs ss) hm9,op114⟩,?_⟩
     rcases hW36:(waysA (relOf (groupsM (furF fs d days).length (furS fs.length ss tys))) (relOf (meetM (stN (furF fs d days)) (furF fs d days).length)) (manyJ fs ss) (furF fs d days).length) with _ | ⟨p,l⟩
     ·rw [hW36,hFl] at hwj
      have hD:roomD fs ss tys days d=false:=by unfold roomD; rw [hJ,←hwj]; rfl
      conv=>whnf
      refine ⟨⟨1020847100762815390390123822295304683724,[18,1018,2018,3018,4018],[]⟩,?_⟩;conv=>whnf
      refine ⟨true,?_⟩;conv=>whnf
      rw [hwd]
      have hz3:=hZ3 (d+1,(b0,(d:Int),(d:Int),IntKind.i64.wrap (IntKind.i64.wrap ((d:Int)+days) - 1))) ⟨hltd,up_succ hrd hD⟩ (by dsimp only; omega)
      dsimp only at hz3
      rw [←set_last fs z] at hz3
      exact hz3
     rw [hW36,hFl] at hwj
     have hD:roomD fs ss tys days d=true:=by unfold roomD; rw [hJ,←hwj]; rfl
     conv=>whnf
     rw [roomR_day hE hltd hD hrd]
    have hD:roomD fs ss tys days d=false:=by unfold roomD; rw [hJ]; rfl
    conv=>whnf
    refine ⟨⟨1020847100762815390390123822295304683724,[18,1018,2018,3018,4018],[]⟩,?_⟩;conv=>whnf
    refine ⟨true,?_⟩;conv=>whnf
    rw [hwd]
    have hz3:=hZ3 (d+1,(b0,(d:Int),(d:Int),IntKind.i64.wrap (IntKind.i64.wrap ((d:Int)+days) - 1))) ⟨hltd,up_succ hrd hD⟩ (by dsimp only; omega)
    dsimp only at hz3
    rw [←set_last fs z] at hz3
    exact hz3
   have hged:d=62 - days.toNat:=by have:=of_decide_eq_false h29; rw [hRB] at this; omega
   conv=>whnf
   rw [roomR_none hE (by rw [←hged]; exact hrd)]
  rw [enterV_no ha]
  conv=>whnf
  apply bc9<;>intro h17
  ·conv=>whnf
   rw [roomR_err hE1 ha]
  exfalso
  have h17:(askE ts fs ss != 0)=false:=h17
  exact ha (by simpa using h17)
 rw [openV_no hk]
 conv=>whnf
 apply bc9<;>intro h2
 ·conv=>whnf
  rw [roomR_err (e:=chE ts fs ss) (by unfold roomE; rw [if_pos hk]) hk]
 exfalso
 have h2:(chE ts fs ss != 0)=false:=h2
 exact hk (by simpa using h2)
theorem op34:Opens PR 34:=⟨_,Tryd.func34,rfl,rfl⟩
open Go Go.Ab Go.Ab.Pln
def TSJ:List ByteArray:=[⟨#[101]⟩,⟨#[102]⟩]
def FSJ:Fms:=[(⟨#[112]⟩,0,1,3),(⟨#[113]⟩,2,4,5),(⟨#[114]⟩,4,6,8),(⟨#[115]⟩,6,9,10),(⟨#[116]⟩,9,11,12)]
def SSJ (further:Bool):Sgs:=match further with
 | true=>[(0,0,1),(2,0,2),(1,1,0),(4,1,1),(1,0,0)]
 | false=>[(0,0,1),(2,0,2),(1,1,0),(4,1,1)]
theorem exG:groupsS TSJ FSJ (SSJ false)=([0,1,0,3,1],0):=by decide +kernel
theorem exC1:clashR TSJ FSJ (SSJ true)=(0,1,0):=by decide +kernel
theorem exK0:crackR TSJ FSJ (SSJ false) 0=(2,8,0):=by decide +kernel
theorem exD1:doubtR TSJ FSJ (SSJ true)=([4],0):=by decide +kernel
theorem exF0:fewR TSJ FSJ (SSJ false)=([0,1,0,2,1],3,0):=by decide +kernel
theorem exP:proofR TSJ FSJ (SSJ false)=([1,2,3,4],0):=by decide +kernel
theorem exS3:shareR TSJ FSJ (SSJ false) 0 3=(2,0):=by decide +kernel
theorem exR1:roomR TSJ FSJ (SSJ false) [0] 2=(9,0):=by decide +kernel
theorem exR2:roomR TSJ FSJ (SSJ false) [0,1] 1=(0,9):=by decide +kernel
theorem exQ:pressR TSJ FSJ (SSJ false)=([0,0,0,0,0],1,0):=by decide +kernel
theorem exT:standR TSJ FSJ (SSJ false)=(2,[0,1],0):=by decide +kernel
theorem lensE (b:Bool):LensJ TSJ FSJ (SSJ b):=by cases b <;> exact ⟨by decide,by decide,by decide,by decide,by decide⟩
theorem c98 (gl:Gl) (nm:ByteArray) (a b c:Int):PCalls PR gl 98 [.str nm,vI a,vI b,vI c] fun r=>r=.agg [.str nm,vI a,vI b,vI c]:=by
 refine fnW_sound (par_ok gl) Tryd.func98 ?_;conv=>whnf
theorem op98:Opens PR 98:=⟨_,Tryd.func98,rfl,rfl⟩
theorem c40f (gl:Gl):PCalls PR gl 40 [vB false] fun r=>r=jobV TSJ FSJ (SSJ false):=by
 refine fnW_sound (par_ok gl) Tryd.func40 ?_;conv=>whnf
 refine ⟨_,rfl,?_⟩;conv=>whnf
 refine ⟨_,rfl,?_⟩;conv=>whnf
 refine byC (c98 gl _ _ _ _) op98 ?_;conv=>whnf
 refine byC (c98 gl _ _ _ _) op98 ?_;conv=>whnf
 refine byC (c98 gl _ _ _ _) op98 ?_;conv=>whnf
 refine byC (c98 gl _ _ _ _) op98 ?_;conv=>whnf
 refine byC (c98 gl _ _ _ _) op98 ?_;conv=>whnf
 refine ⟨_,rfl,?_⟩;conv=>whnf
 refine ⟨_,rfl,?_⟩;conv=>whnf
 refine ⟨_,rfl,?_⟩;conv=>whnf
 refine ⟨_,rfl,?_⟩;conv=>whnf
 refine ⟨_,rfl,?_⟩;conv=>whnf
 refine ⟨_,rfl,?_⟩;conv=>whnf
 refine ⟨_,rfl,?_⟩;conv=>whnf
 refine ⟨_,rfl,?_⟩;conv=>whnf
 refine ⟨_,rfl,?_⟩;conv=>whnf
 rfl
theorem op40:Opens PR 40:=⟨_,Tryd.func40,rfl,rfl⟩
theorem c40t (gl:Gl):PCalls PR gl 40 [vB true] fun r=>r=jobV TSJ FSJ (SSJ true):=by
 refine fnW_sound (par_ok gl) Tryd.func40 ?_;conv=>whnf
 refine ⟨_,rfl,?_⟩;conv=>whnf
 refine ⟨_,rfl,?_⟩;conv=>whnf
 refine byC (c98 gl _ _ _ _) op98 ?_;conv=>whnf
 refine byC (c98 gl _ _ _ _) op98 ?_;conv=>whnf
 refine byC (c98 gl _ _ _ _) op98 ?_;conv=>whnf
 refine byC (c98 gl _ _ _ _) op98 ?_;conv=>whnf
 refine byC (c98 gl _ _ _ _) op98 ?_;conv=>whnf
 refine ⟨_,rfl,?_⟩;conv=>whnf
 refine ⟨_,rfl,?_⟩;conv=>whnf
 refine ⟨_,rfl,?_⟩;conv=>whnf
 refine ⟨_,rfl,?_⟩;conv=>whnf
 refine ⟨_,rfl,?_⟩;conv=>whnf
 refine ⟨_,rfl,?_⟩;conv=>whnf
 refine ⟨_,rfl,?_⟩;conv=>whnf
 refine ⟨_,rfl,?_⟩;conv=>whnf
 refine ⟨_,rfl,?_⟩;conv=>whnf
 refine ⟨_,rfl,?_⟩;conv=>whnf
 refine ⟨lim (by decide),?_⟩;conv=>whnf
 rfl
theorem c27:PCalls PR glT 27 [] fun r=>r=vB true:=by
 have h18:PCalls PR glT 18 [jobV TSJ FSJ (SSJ false)] fun r=>r=.tup [vL [0,1,0,3,1],vI 0]:=by
  have h:=c18 TSJ FSJ (SSJ false) (lensE false)
  rw [exG] at h; exact h
 have h21:PCalls PR glT 21 [jobV TSJ FSJ (SSJ true)] fun r=>r=.tup [vI 0,vI 1,vI 0]:=by
  have h:=c21 TSJ FSJ (SSJ true) (lensE true)
  rw [exC1] at h; exact h
 have h23:PCalls PR glT 23 [jobV TSJ FSJ (SSJ false),vI 0] fun r=>r=.tup [.agg [vI 2,vI 8],vI 0]:=by
  have h:=c23 glT TSJ FSJ (SSJ false) (lensE false) 0
  rw [exK0] at h; exact h
 have h25:PCalls PR glT 25 [jobV TSJ FSJ (SSJ true)] fun r=>r=.tup [vL [4],vI 0]:=by
  have h:=c25 TSJ FSJ (SSJ true) (lensE true)
  rw [exD1] at h; exact h
 have h28:PCalls PR glT 28 [jobV TSJ FSJ (SSJ false)] fun r=>r=.tup [vL [0,1,0,2,1],vI 3,vI 0]:=by
  have h:=c28 TSJ FSJ (SSJ false) (lensE false)
  rw [exF0] at h; exact h
 have h30:PCalls PR glT 30 [jobV TSJ FSJ (SSJ false)] fun r=>r=.tup [vL [1,2,3,4],vI 0]:=by
  have h:=c30 TSJ FSJ (SSJ false) (lensE false)
  rw [exP] at h; exact h
 have h32:PCalls PR glT 32 [jobV TSJ FSJ (SSJ false),vI 0,vI 3] fun r=>r=.tup [vI 2,vI 0]:=by
  have h:=c32 TSJ FSJ (SSJ false) (lensE false) 0 3
  rw [exS3] at h; exact h
 have h34:PCalls PR glT 34 [jobV TSJ FSJ (SSJ false),vL [0],vI 2] fun r=>r=.tup [vI 9,vI 0]:=by
  have h:=c34 TSJ FSJ (SSJ false) (lensE false) [0] (by decide) 2
  rw [exR1] at h; exact h
 have h34b:PCalls PR glT 34 [jobV TSJ FSJ (SSJ false),vL [0,1],vI 1] fun r=>r=.tup [vI 0,vI 9]:=by
  have h:=c34 TSJ FSJ (SSJ false) (lensE false) [0,1] (by decide) 1
  rw [exR2] at h; exact h
 have h36:PCalls PR glT 36 [jobV TSJ FSJ (SSJ false)] fun r=>r=.tup [vL [0,0,0,0,0],vI 1,vI 0]:=by
  have h:=c36 TSJ FSJ (SSJ false) (lensE false)
  rw [exQ] at h; exact h
 have h38:PCalls PR glT 38 [jobV TSJ FSJ (SSJ false)] fun r=>r=.tup [vI 2,vL [0,1],vI 0]:=by
  have h:=c38 glT TSJ FSJ (SSJ false) (lensE false)
  rw [exT] at h; exact h
 refine fnW_sound (par_ok glT) Tryd.func27 ?_;conv=>whnf
 refine byC (c40f glT) op40 ?_;conv=>whnf
 refine byC (c40t glT) op40 ?_;conv=>whnf
 refine byC h18 op18 ?_;conv=>whnf
 refine byC h21 op21 ?_;conv=>whnf
 refine byC h23 op23 ?_;conv=>whnf
 refine byC h25 op25 ?_;conv=>whnf
 refine byC h28 op28 ?_;conv=>whnf
 refine byC h30 op30 ?_;conv=>whnf
 refine byC h32 op32 ?_;conv=>whnf
 refine ⟨_,rfl,?_⟩;conv=>whnf
 refine byC h34 op34 ?_;conv=>whnf
 refine ⟨_,rfl,?_⟩;conv=>whnf
 refine ⟨_,rfl,?_⟩;conv=>whnf
 refine byC h34b op34 ?_;conv=>whnf
 refine byC h36 op36 ?_;conv=>whnf
 refine byC h38 op38 ?_;conv=>whnf
 refine ⟨_,rfl,?_⟩;conv=>whnf
 refine ⟨_,rfl,?_⟩;conv=>whnf
 refine ⟨_,rfl,?_⟩;conv=>whnf
 refine ⟨_,rfl,?_⟩;conv=>whnf
 refine ⟨_,rfl,?_⟩;conv=>whnf
 refine byC (c20 glT _ _ (by decide)) op20 ?_;conv=>whnf
 refine ⟨_,rfl,?_⟩;conv=>whnf
 refine ⟨_,rfl,?_⟩;conv=>whnf
 refine byC (c20 glT _ _ (by decide)) op20 ?_;conv=>whnf
 refine ⟨_,rfl,?_⟩;conv=>whnf
 refine ⟨_,rfl,?_⟩;conv=>whnf
 refine ⟨_,rfl,?_⟩;conv=>whnf
 refine ⟨_,rfl,?_⟩;conv=>whnf
 refine ⟨_,rfl,?_⟩;conv=>whnf
 refine byC (c20 glT _ _ (by decide)) op20 ?_;conv=>whnf
 refine ⟨_,rfl,?_⟩;conv=>whnf
 refine ⟨_,rfl,?_⟩;conv=>whnf
 refine ⟨_,rfl,?_⟩;conv=>whnf
 refine ⟨_,rfl,?_⟩;conv=>whnf
 refine byC (c20 glT _ _ (by decide)) op20 ?_;conv=>whnf
 refine ⟨_,rfl,?_⟩;conv=>whnf
 refine ⟨_,rfl,?_⟩;conv=>whnf
 refine byC (c20 glT _ _ (by decide)) op20 ?_;conv=>whnf
 rfl
theorem op27:Opens PR 27:=⟨_,Tryd.func27,rfl,rfl⟩
end Go.Ab.SkF
