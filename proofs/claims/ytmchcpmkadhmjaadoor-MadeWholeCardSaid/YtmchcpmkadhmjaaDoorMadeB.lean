/-
  THE MADE FAMILY, PART YB: Awake.
-/
import Derived.Test.YtmchcpmkadhmjaaDoorMadeA
import Derived.Test.YtmchcpmkadhmjaaDoorEngD
namespace Go.Ab.MkF
open Go Go.Ab Go.Ab.Pln Go.Proofs
set_option maxHeartbeats 1000000
set_option maxRecDepth 100000
noncomputable abbrev parL (gl:Gl):Par S Unit:={ par gl with ow:=true,pk:=fun f=>Nat.beq f 110,lend:=fun f=>Nat.beq f 109 }
theorem parL_ok (gl:Gl) (En:Env Unit):ParOk PR gl (parL gl) En:={ par_ok gl En with }
theorem byL {f:FuncId} {args:List (AV S)} {sg:List (Nat×AO S)} {gl:Gl} {Q:AV S→List (Nat×AO S)→Prop} {v:AV S} {sg1:List (Nat×AO S)} (h:LCalls PR gl f args sg fun r s=>r=v∧s=sg1) (ho:Opens PR f) (hq:Q v sg1):LCalls PR gl f args sg Q∧Opens PR f :=
 ⟨fun w V l vs hs=>(h w V l vs hs).mono fun _ _ ⟨v',he,r,sg',V',l',⟨hr,hsg⟩,h2⟩=>⟨v',he,r,sg',V',l',by subst hr; subst hsg; exact hq,h2⟩,ho⟩
def sjoin (T:List Nat) (j b:Nat):List Nat:=if j < T.length then T.set j (T.getD j 0 ||| b) else T++[b]
def stepF (hs:List Sn) (F:List Nat→List Int→Int×List Int→Int×List Int) (T:List Nat) (L:List Int) (b:Nat) (s:Int×List Int) (j:Nat):Int×List Int :=
 if (clR hs ((sjoin T j b).getD j 0)).isNone then F (sjoin T j b) (L++[(j:Int)]) s else s
def foldF (hs:List Sn) (F:List Nat→List Int→Int×List Int→Int×List Int) (T:List Nat) (L:List Int) (b:Nat) (s:Int×List Int) (m:Nat):Int×List Int:=(List.range m).foldl (stepF hs F T L b) s
def srcF (hs:List Sn):Nat→List Nat→List Int→Int×List Int→Int×List Int
 | 0,T,L,s=>if (T.length:Int)≥s.1 then s else ((T.length:Int),L)
 | k+1,T,L,s=>if (T.length:Int)≥s.1 then s else foldF hs (srcF hs k) T L (2 ^ (hs.length - (k+1))) s (T.length+1)
theorem foldF_succ {hs:List Sn} {F:List Nat→List Int→Int×List Int→Int×List Int} {T:List Nat} {L:List Int} {b:Nat} {s:Int×List Int} {m:Nat}:foldF hs F T L b s (m+1)=stepF hs F T L b (foldF hs F T L b s m) m:=by
 unfold foldF; rw [List.range_succ,List.foldl_append]; rfl
theorem srcF_stop {hs:List Sn} {k:Nat} {T:List Nat} {L:List Int} {s:Int×List Int} (h:(T.length:Int)≥s.1):srcF hs k T L s=s:=by
 cases k <;> (unfold srcF; rw [if_pos h])
theorem srcF_leaf {hs:List Sn} {T:List Nat} {L:List Int} {s:Int×List Int} (h:¬ (T.length:Int)≥s.1):srcF hs 0 T L s=((T.length:Int),L):=by unfold srcF; rw [if_neg h]
theorem srcF_go {hs:List Sn} {k:Nat} {T:List Nat} {L:List Int} {s:Int×List Int} (h:¬ (T.length:Int)≥s.1):srcF hs (k+1) T L s=foldF hs (srcF hs k) T L (2 ^ (hs.length - (k+1))) s (T.length+1):=by conv=>lhs; unfold srcF; rw [if_neg h]
structure SrcOk (i:Nat) (T:List Nat):Prop where
 n:T.length≤i
 x:∀ x∈T,x≠0∧x < 2 ^ i
theorem sjoin_lt {T:List Nat} {j b:Nat} (h:j < T.length):sjoin T j b=T.set j (T[j] ||| b):=by unfold sjoin; rw [if_pos h,getD_at h]
theorem sjoin_ge {T:List Nat} {b:Nat}:sjoin T T.length b=T++[b]:=by unfold sjoin; rw [if_neg (Nat.lt_irrefl _)]
theorem or_bit {x i:Nat} (h:x < 2 ^ i):x ||| 2 ^ i < 2 ^ (i+1):=Nat.or_lt_two_pow (by rw [Nat.pow_succ]; omega) (by rw [Nat.pow_succ]; have:=Nat.two_pow_pos i; omega)
theorem or_ne {x b:Nat} (h:x≠0):x ||| b≠0:=fun e=>h (by
 have:x≤x ||| b:=Nat.left_le_or
 omega)
theorem SrcOk.join {i j:Nat} {T:List Nat} (hT:SrcOk i T) (hj:j≤T.length):SrcOk (i+1) (sjoin T j (2 ^ i)):=by
 have hp:=Nat.two_pow_pos i
 have h2:2 ^ i < 2 ^ (i+1):=by rw [Nat.pow_succ]; omega
 rcases Nat.lt_or_eq_of_le hj with h | h
 ·rw [sjoin_lt h]
  refine ⟨by rw [List.length_set]; have:=hT.n; omega,fun x hx=>?_⟩
  rcases List.mem_or_eq_of_mem_set hx with hx | rfl
  ·obtain ⟨h3,h4⟩:=hT.x x hx; exact ⟨h3,by omega⟩
  obtain ⟨h3,h4⟩:=hT.x _ (List.getElem_mem h)
  exact ⟨or_ne h3,or_bit h4⟩
 subst h
 rw [sjoin_ge]
 refine ⟨by rw [List.length_append]; have:=hT.n; simp; omega,fun x hx=>?_⟩
 rcases List.mem_append.1 hx with hx | hx
 ·obtain ⟨h3,h4⟩:=hT.x x hx; exact ⟨h3,by omega⟩
 rw [List.mem_singleton] at hx; subst hx; omega
theorem less_or {x i:Nat} (h:x < 2 ^ i):less (x ||| 2 ^ i) (2 ^ i)=x:=by
 apply Nat.eq_of_testBit_eq
 intro k
 unfold less
 by_cases hk:k=i
 ·subst hk
  have:=Nat.testBit_lt_two_pow h
  simp [Nat.testBit_xor,Nat.testBit_and,Nat.testBit_or,Nat.testBit_two_pow_self,this]
 have:Nat.testBit (2 ^ i) k=false:=by rw [Nat.testBit_two_pow]; simpa using fun e=>hk e.symm
 simp [Nat.testBit_xor,Nat.testBit_and,Nat.testBit_or,this]
abbrev lentA:List (AV S):=[.own 1000001 [],.own 1000002 [],.own 1000003 [],.own 1000004 [],.own 1000005 [],.own 1000006 [],.own 1000007 []]
abbrev lentG (hs:List Sn) (T:List Nat) (L:List Int) (s:Int×List Int):List (Nat×AO S) :=
 [(1000001,.cells [.sl (S:=S) U.int (natsV T) (some 1000011)]),(1000002,.cells [vI s.1]),(1000003,.cells [snsV hs]),(1000004,.cells [.sl (S:=S) U.int L (some 1000014)]),(1000005,.cells [.sl (S:=S) U.int s.2 none]),(1000006,.cells [snsV hs]),
  (1000007,.cells [.clo (.func 109) [] lentA]),(1000011,.row U.int true),(1000014,.row U.int true)]
abbrev idN:List (Nat×Nat):=[(1000001,1000001),(1000002,1000002),(1000003,1000003),(1000004,1000004),(1000005,1000005),(1000006,1000006),(1000007,1000007),(1000011,1000011),(1000014,1000014)]
theorem c110R (gl:Gl) (xs:List Int) (hx:xs≠[]) (hl:xs.length≤100000) (e:Nat):PCalls PR gl 110 [vL xs] fun r=>r=.sl (S:=S) U.int xs (some e):=by
 refine fnR_sound (e:=e) (par_ok gl) Tryd.func110 ?_;conv=>whnf
 refine ⟨hx,?_⟩;conv=>whnf
 refine ⟨lim (show xs.length≤1000000000 by omega),false,?_⟩;conv=>whnf
 refine ⟨fun _=>rfl,?_⟩
 rfl
theorem op110:Opens PR 110:=⟨_,Tryd.func110,rfl,rfl⟩
theorem op109:Opens PR 109:=⟨_,Tryd.func109,rfl,rfl⟩
theorem c109 (hs:List Sn) (hV:ValidH hs):∀ (k i:Nat) (_:i+k=hs.length) (T:List Nat) (_:SrcOk i T) (L:List Int) (_:L.length=i) (s:Int×List Int),
  LCalls PR glT 109 (vI i :: lentA) (lentG hs T L s) fun r sg=>r=.tup []∧sg=lentG hs T L (srcF hs k T L s):=by
 intro k
 refine Nat.strongRecOn k fun k IH=>?_
 have h8:=hV.n8
 have h1:=hV.n1
 have hp:2 ^ hs.length≤256:=Nat.pow_le_pow_right (n:=2) (by omega) (show hs.length≤8 by omega)
 intro i hik T hT L hL s
 have hTn:=hT.n
 have hbi:2 ^ i≤2 ^ 8:=Nat.pow_le_pow_right (by omega) (by omega)
 have hpi:=Nat.two_pow_pos i
 have hwi:=wrap_nat (n:=i) (by omega)
 have hsh:shlI .i64 1 (i:Int)=((2 ^ i:Nat):Int):=shl_one (by omega)
 have hnT:(natsV T).length=T.length:=by simp [natsV]
 refine fnL_sound (parL_ok glT) Tryd.func109 ?_;conv=>whnf
 apply bc9<;>intro h0
 ·have h0:(T.length:Int)≥s.1:=by have:=of_decide_eq_true h0; rw [hnT] at this; exact this
  conv=>whnf
  refine ⟨⟨1,[],[]⟩,?_⟩;conv=>whnf
  exact ⟨rfl,by rw [srcF_stop h0]⟩
 have h0:¬ (T.length:Int)≥s.1:=by have:=of_decide_eq_false h0; rw [hnT] at this; exact this
 conv=>whnf
 apply bc9<;>intro h1
 ·have h1:i=hs.length:=by have h1:((i:Int)==(hs.length:Int))=true:=h1; have:=eq_of_beq h1; omega
  have hk0:k=0:=by omega
  subst hk0
  have hLn:L≠[]:=fun e=>by rw [e] at hL; simp at hL; omega
  conv=>whnf
  refine ⟨[0,2,3,1,4,5],[2,3,4],[1,4],[1000005],⟨154742504910672534362390527,[],[]⟩,by decide +kernel,?_⟩;conv=>whnf
  refine byC (c110R glT L hLn (by omega) 23) op110 ?_;conv=>whnf
  refine ⟨rfl,?_⟩;conv=>whnf
  refine ⟨⟨1,[23],[23]⟩,?_⟩;conv=>whnf
  exact ⟨rfl,by rw [srcF_leaf h0,hnT]⟩
 have h1:i≠hs.length:=fun e=>by have h1:((i:Int)==(hs.length:Int))=false:=h1; rw [e] at h1; simp at h1
 obtain ⟨k,rfl⟩:∃ k',k=k'+1:=⟨k - 1,by omega⟩
 have hi2:hs.length - (k+1)=i:=by omega
 conv=>whnf
 rw [hnT,show IntKind.i64.wrap ((T.length:Int)+1)=((T.length+1:Nat):Int) from wrap_nat (by omega)]
 refine ⟨⟨805306579,[],[]⟩,?_⟩
 refine LoopW_ind _ (fun j:Nat=>(({ tmps:=[vI i,.own 1000001 [],J,J,.own 1000004 [],J,.own 1000006 [],.own 1000007 [],J,J,J,J,J,J,J,J,J,J,J,J,J,J,J,J,J,J,J,J,vI ((T.length+1:Nat):Int),vI j,J,J,J,J,J,J,J,J,J,J,J,J,J,J,J,J,J,J,J,J,J,J,J,J,J,J,J,J,J,J,J,J,J,J,J,J,J,J,J,J,J,J,J,J,J,J,J,J,J,J,J,J,J,J,J,J,J],seg:=[(1000001,.cells [.sl (S:=S) U.int (natsV T) (some 1000011)]),(1000002,.cells [vI (foldF hs (srcF hs k) T L (2 ^ i) s j).1]),(1000003,.cells [snsV hs]),(1000004,.cells [.sl (S:=S) U.int L (some 1000014)]),(1000005,.cells [.sl (S:=S) U.int (foldF hs (srcF hs k) T L (2 ^ i) s j).2 none]),(1000006,.cells [snsV hs]),(1000007,.cells [.clo (.func 109) [] lentA]),(1000011,.row U.int true),(1000014,.row U.int true)],up:=[] }:St S))) (fun j:Nat=>(j≤T.length+1)) (fun j:Nat=>(T.length+1 - j)) () ?_ 0 (Nat.zero_le _)
 intro j hi Z1 hZ1
 conv=>whnf
 apply bc9<;>intro h4
 ·have hlt:j < T.length+1:=by have:=of_decide_eq_true h4; omega
  have hw:=wrap_nat (n:=j) (by omega)
  conv=>whnf
  apply bc9<;>intro h6
  ·have h6:j=T.length:=by have h6:((j:Int)==((natsV T).length:Int))=true:=h6; have:=eq_of_beq h6; omega
   have hx0:T.getD j 0=0:=by rw [h6]; simp
   have hG:getI (natsV T++[(0:Int)]) (j:Int)=some ((T.getD j 0:Nat):Int):=by rw [hx0,h6,←hnT]; show (natsV T++[(0:Int)])[(natsV T).length]?=_; simp
   have hS:(natsV T++[(0:Int)]).set ((j:Int)).toNat (((T.getD j 0 ||| 2 ^ i):Nat):Int)=natsV (sjoin T j (2 ^ i)):=by rw [hx0,Nat.zero_or,h6,sjoin_ge,←hnT,Int.toNat_natCast]; simp [natsV]
   have hSF:∀ F:List Int→List Int,(fun zs:List (S.T U.int)=>zs.set ((j:Int)).toNat (((T.getD j 0 ||| 2 ^ i):Nat):Int))=F→F (natsV T++[(0:Int)])=natsV (sjoin T j (2 ^ i)):=fun F h=>by rw [←h]; exact hS
   have hS2:(natsV (sjoin T j (2 ^ i))).set ((j:Int)).toNat ((T.getD j 0:Nat):Int)=natsV T++[(0:Int)]:=by rw [hx0,h6,sjoin_ge,←hnT,Int.toNat_natCast]; simp [natsV]
   have hS2F:∀ F:List Int→List Int,(fun zs:List (S.T U.int)=>zs.set ((j:Int)).toNat ((T.getD j 0:Nat):Int))=F→F (natsV (sjoin T j (2 ^ i)))=natsV T++[(0:Int)]:=fun F h=>by rw [←h]; exact hS2
   have hcut:(natsV T++[(0:Int)]).take ((j:Int)).toNat=natsV T:=by rw [Int.toNat_natCast,h6,←hnT]; simp
   have hx0l:T.getD j 0 < 2 ^ i:=by
    by_cases e:j < T.length
    ·rw [getD_at e]; exact (hT.x _ (List.getElem_mem e)).2
    rw [List.getD_eq_getElem?_getD,List.getElem?_eq_none (by omega)]; exact hpi
   have hx1i:(T.getD j 0 ||| 2 ^ i) < 2 ^ (i+1):=or_bit hx0l
   have hih:2 ^ (i+1)≤2 ^ hs.length:=Nat.pow_le_pow_right (by omega) (by omega)
   have hx1:(T.getD j 0 ||| 2 ^ i) < 2 ^ hs.length:=by omega
   have h63:(2:Nat) ^ 63=9223372036854775808:=rfl
   have h28:(2:Nat) ^ 8=256:=rfl
   have hO:bitsI .or .i64 ((T.getD j 0:Nat):Int) (shlI .i64 1 (i:Int))=(((T.getD j 0 ||| 2 ^ i):Nat):Int):=by rw [hsh,or_nat (by omega) (by omega)]
   have hN:bitsI .andNot .i64 (((T.getD j 0 ||| 2 ^ i):Nat):Int) (shlI .i64 1 (i:Int))=((T.getD j 0:Nat):Int):=by rw [hsh,andNot_nat (by omega) (by omega)]; exact congrArg (fun n:Nat=>(n:Int)) (less_or hx0l)
   have hj:j≤T.length:=by omega
   have hT1j:(sjoin T j (2 ^ i)).getD j 0=(T.getD j 0 ||| 2 ^ i):=by
    rcases Nat.lt_or_eq_of_le hj with e | e
    ·rw [sjoin_lt e,getD_at e,getD_at (by simpa using e)]; simp
    subst e; rw [sjoin_ge]; simp
   have hT1l:j < (sjoin T j (2 ^ i)).length:=by
    rcases Nat.lt_or_eq_of_le hj with e | e
    ·rw [sjoin_lt e]; simpa using e
    subst e; rw [sjoin_ge]; simp
   have hG1:getI (natsV (sjoin T j (2 ^ i))) (j:Int)=some (((T.getD j 0 ||| 2 ^ i):Nat):Int):=by rw [getI_nats hT1l,←hT1j,getD_at hT1l]
   have htake:(L++[(j:Int)]).take ((i:Int)).toNat=L:=by rw [Int.toNat_natCast,←hL]; simp
   conv=>whnf
   refine ⟨_,rfl,?_⟩;conv=>whnf
   refine ⟨lim (by simp [natsV]; omega),?_⟩;conv=>whnf
   refine ⟨[0,1,2,3,4,5,6,7,8],[2,3,7,400039],[2,3,7],[],⟨154742504910672534362390527,[],[]⟩,by decide +kernel,?_⟩;conv=>whnf
   refine ⟨_,hG,?_⟩;conv=>whnf
   refine ⟨_,hG,?_⟩;conv=>whnf
   refine ⟨Int.natCast_nonneg _,?_⟩;conv=>whnf
   refine ⟨_,hG,?_⟩;conv=>whnf
   refine ⟨(((T.getD j 0 ||| 2 ^ i):Nat):Int),congrArg some hO,?_⟩;conv=>whnf
   generalize hFhS:(fun zs:List (S.T U.int)=>zs.set ((j:Int)).toNat (((T.getD j 0 ||| 2 ^ i):Nat):Int))=FhS
   conv=>whnf
   rw [hSF _ hFhS]
   conv=>whnf
   refine ⟨[0,1,2,3,4,5,6,7,8,9,10,11,12],[3,4,500049],[3,4],[],⟨154742504910672534362390527,[],[]⟩,by decide +kernel,?_⟩;conv=>whnf
   refine ⟨_,hG1,?_⟩;conv=>whnf
   refine ⟨_,hG1,?_⟩;conv=>whnf
   refine byC (c111 hs hV (T.getD j 0 ||| 2 ^ i) hx1) op111 ?_
   rcases hc:clR hs (T.getD j 0 ||| 2 ^ i) with _ | ⟨a,b⟩
   ·conv=>whnf
    refine ⟨_,rfl,?_⟩;conv=>whnf
    refine ⟨lim (by simp; omega),?_⟩;conv=>whnf
    rw [hwi]
    conv=>whnf
    refine ⟨idN,[],?_⟩;conv=>whnf
    refine byL (IH k (by omega) (i+1) (by omega) _ (hT.join hj) (L++[(j:Int)]) (by simp; omega) (foldF hs (srcF hs k) T L (2 ^ i) s j)) op109 ?_;conv=>whnf
    refine ⟨by omega,?_⟩;conv=>whnf
    refine ⟨by omega,by simp <;> omega,?_⟩;conv=>whnf
    refine ⟨rfl,?_⟩;conv=>whnf
    rw [htake]
    conv=>whnf
    refine ⟨[0,1,2,3,4,5,6,7,8],[2,3,7,400070],[2,3,7],[],⟨154742504910672534362390527,[],[]⟩,by decide +kernel,?_⟩;conv=>whnf
    refine ⟨_,hG1,?_⟩;conv=>whnf
    refine ⟨_,hG1,?_⟩;conv=>whnf
    refine ⟨Int.natCast_nonneg _,?_⟩;conv=>whnf
    refine ⟨_,hG1,?_⟩;conv=>whnf
    refine ⟨((T.getD j 0:Nat):Int),congrArg some hN,?_⟩;conv=>whnf
    generalize hFhS2:(fun zs:List (S.T U.int)=>zs.set ((j:Int)).toNat ((T.getD j 0:Nat):Int))=FhS2
    conv=>whnf
    rw [hS2F _ hFhS2]
    conv=>whnf
    refine ⟨true,?_⟩;conv=>whnf
    refine ⟨_,hG,?_⟩;conv=>whnf
    refine ⟨_,hG,?_⟩;conv=>whnf
    apply bc9<;>intro h15
    ·conv=>whnf
     refine ⟨by omega,?_⟩;conv=>whnf
     refine ⟨by omega,by simp <;> omega,?_⟩;conv=>whnf
     refine ⟨rfl,?_⟩;conv=>whnf
     rw [hcut]
     conv=>whnf
     refine ⟨⟨805306579,[37,38,61,62],[]⟩,?_⟩;conv=>whnf
     rw [hw]
     have hz:=hZ1 (j+1) (by omega) (by omega)
     rw [foldF_succ] at hz
     unfold stepF at hz
     rw [hT1j,hc] at hz
     exact hz
    have h15:(((T.getD j 0:Nat):Int)==0)=false:=h15
    rw [hx0] at h15
    cases h15
   conv=>whnf
   refine ⟨[0,1,2,3,4,5,6,7,8],[2,3,7,400070],[2,3,7],[],⟨154742504910672534362390527,[],[]⟩,by decide +kernel,?_⟩;conv=>whnf
   refine ⟨_,hG1,?_⟩;conv=>whnf
   refine ⟨_,hG1,?_⟩;conv=>whnf
   refine ⟨Int.natCast_nonneg _,?_⟩;conv=>whnf
   refine ⟨_,hG1,?_⟩;conv=>whnf
   refine ⟨((T.getD j 0:Nat):Int),congrArg some hN,?_⟩;conv=>whnf
   generalize hFhS2:(fun zs:List (S.T U.int)=>zs.set ((j:Int)).toNat ((T.getD j 0:Nat):Int))=FhS2
   conv=>whnf
   rw [hS2F _ hFhS2]
   conv=>whnf
   refine ⟨true,?_⟩;conv=>whnf
   refine ⟨_,hG,?_⟩;conv=>whnf
   refine ⟨_,hG,?_⟩;conv=>whnf
   apply bc9<;>intro h15
   ·conv=>whnf
    refine ⟨by omega,?_⟩;conv=>whnf
    refine ⟨by omega,by simp <;> omega,?_⟩;conv=>whnf
    refine ⟨rfl,?_⟩;conv=>whnf
    rw [hcut]
    conv=>whnf
    refine ⟨⟨805306579,[37,38,61,62],[]⟩,?_⟩;conv=>whnf
    rw [hw]
    have hz:=hZ1 (j+1) (by omega) (by omega)
    rw [foldF_succ] at hz
    unfold stepF at hz
    rw [hT1j,hc] at hz
    exact hz
   have h15:(((T.getD j 0:Nat):Int)==0)=false:=h15
   rw [hx0] at h15
   cases h15
  have h6:j < T.length:=by
   have h6:((j:Int)==((natsV T).length:Int))=false:=h6
   have:j≠T.length:=fun e=>by rw [hnT,e] at h6; simp at h6
   omega
  have hjn:j < (natsV T).length:=by omega
  have hgd:T.getD j 0=T[j]:=getD_at h6
  have hx0:T.getD j 0≠0:=by rw [hgd]; exact (hT.x _ (List.getElem_mem h6)).1
  have hG:getI (natsV T) (j:Int)=some ((T.getD j 0:Nat):Int):=by rw [hgd]; exact getI_nats h6
  have hS:(natsV T).set ((j:Int)).toNat (((T.getD j 0 ||| 2 ^ i):Nat):Int)=natsV (sjoin T j (2 ^ i)):=by rw [hgd,sjoin_lt h6,Int.toNat_natCast]; simp [natsV]
  have hSF:∀ F:List Int→List Int,(fun zs:List (S.T U.int)=>zs.set ((j:Int)).toNat (((T.getD j 0 ||| 2 ^ i):Nat):Int))=F→F (natsV T)=natsV (sjoin T j (2 ^ i)):=fun F h=>by rw [←h]; exact hS
  have hS2:(natsV (sjoin T j (2 ^ i))).set ((j:Int)).toNat ((T.getD j 0:Nat):Int)=natsV T:=by rw [hgd,sjoin_lt h6,Int.toNat_natCast]; simp [natsV]; rw [←List.map_set,List.set_getElem_self]
  have hS2F:∀ F:List Int→List Int,(fun zs:List (S.T U.int)=>zs.set ((j:Int)).toNat ((T.getD j 0:Nat):Int))=F→F (natsV (sjoin T j (2 ^ i)))=natsV T:=fun F h=>by rw [←h]; exact hS2
  have hx0l:T.getD j 0 < 2 ^ i:=by
   by_cases e:j < T.length
   ·rw [getD_at e]; exact (hT.x _ (List.getElem_mem e)).2
   rw [List.getD_eq_getElem?_getD,List.getElem?_eq_none (by omega)]; exact hpi
  have hx1i:(T.getD j 0 ||| 2 ^ i) < 2 ^ (i+1):=or_bit hx0l
  have hih:2 ^ (i+1)≤2 ^ hs.length:=Nat.pow_le_pow_right (by omega) (by omega)
  have hx1:(T.getD j 0 ||| 2 ^ i) < 2 ^ hs.length:=by omega
  have h63:(2:Nat) ^ 63=9223372036854775808:=rfl
  have h28:(2:Nat) ^ 8=256:=rfl
  have hO:bitsI .or .i64 ((T.getD j 0:Nat):Int) (shlI .i64 1 (i:Int))=(((T.getD j 0 ||| 2 ^ i):Nat):Int):=by rw [hsh,or_nat (by omega) (by omega)]
  have hN:bitsI .andNot .i64 (((T.getD j 0 ||| 2 ^ i):Nat):Int) (shlI .i64 1 (i:Int))=((T.getD j 0:Nat):Int):=by rw [hsh,andNot_nat (by omega) (by omega)]; exact congrArg (fun n:Nat=>(n:Int)) (less_or hx0l)
  have hj:j≤T.length:=by omega
  have hT1j:(sjoin T j (2 ^ i)).getD j 0=(T.getD j 0 ||| 2 ^ i):=by
   rcases Nat.lt_or_eq_of_le hj with e | e
   ·rw [sjoin_lt e,getD_at e,getD_at (by simpa using e)]; simp
   subst e; rw [sjoin_ge]; simp
  have hT1l:j < (sjoin T j (2 ^ i)).length:=by
   rcases Nat.lt_or_eq_of_le hj with e | e
   ·rw [sjoin_lt e]; simpa using e
   subst e; rw [sjoin_ge]; simp
  have hG1:getI (natsV (sjoin T j (2 ^ i))) (j:Int)=some (((T.getD j 0 ||| 2 ^ i):Nat):Int):=by rw [getI_nats hT1l,←hT1j,getD_at hT1l]
  have htake:(L++[(j:Int)]).take ((i:Int)).toNat=L:=by rw [Int.toNat_natCast,←hL]; simp
  conv=>whnf
  refine ⟨[0,1,2,3,4,5,6,7,8],[2,3,7,400039],[2,3,7],[],⟨154742504910672534362390527,[],[]⟩,by decide +kernel,?_⟩;conv=>whnf
  refine ⟨_,hG,?_⟩;conv=>whnf
  refine ⟨_,hG,?_⟩;conv=>whnf
  refine ⟨Int.natCast_nonneg _,?_⟩;conv=>whnf
  refine ⟨_,hG,?_⟩;conv=>whnf
  refine ⟨(((T.getD j 0 ||| 2 ^ i):Nat):Int),congrArg some hO,?_⟩;conv=>whnf
  generalize hFhS:(fun zs:List (S.T U.int)=>zs.set ((j:Int)).toNat (((T.getD j 0 ||| 2 ^ i):Nat):Int))=FhS
  conv=>whnf
  rw [hSF _ hFhS]
  conv=>whnf
  refine ⟨[0,1,2,3,4,5,6,7,8,9,10,11,12],[3,4,500049],[3,4],[],⟨154742504910672534362390527,[],[]⟩,by decide +kernel,?_⟩;conv=>whnf
  refine ⟨_,hG1,?_⟩;conv=>whnf
  refine ⟨_,hG1,?_⟩;conv=>whnf
  refine byC (c111 hs hV (T.getD j 0 ||| 2 ^ i) hx1) op111 ?_
  rcases hc:clR hs (T.getD j 0 ||| 2 ^ i) with _ | ⟨a,b⟩
  ·conv=>whnf
   refine ⟨_,rfl,?_⟩;conv=>whnf
   refine ⟨lim (by simp; omega),?_⟩;conv=>whnf
   rw [hwi]
   conv=>whnf
   refine ⟨idN,[],?_⟩;conv=>whnf
   refine byL (IH k (by omega) (i+1) (by omega) _ (hT.join hj) (L++[(j:Int)]) (by simp; omega) (foldF hs (srcF hs k) T L (2 ^ i) s j)) op109 ?_;conv=>whnf
   refine ⟨by omega,?_⟩;conv=>whnf
   refine ⟨by omega,by simp <;> omega,?_⟩;conv=>whnf
   refine ⟨rfl,?_⟩;conv=>whnf
   rw [htake]
   conv=>whnf
   refine ⟨[0,1,2,3,4,5,6,7,8],[2,3,7,400070],[2,3,7],[],⟨154742504910672534362390527,[],[]⟩,by decide +kernel,?_⟩;conv=>whnf
   refine ⟨_,hG1,?_⟩;conv=>whnf
   refine ⟨_,hG1,?_⟩;conv=>whnf
   refine ⟨Int.natCast_nonneg _,?_⟩;conv=>whnf
   refine ⟨_,hG1,?_⟩;conv=>whnf
   refine ⟨((T.getD j 0:Nat):Int),congrArg some hN,?_⟩;conv=>whnf
   generalize hFhS2:(fun zs:List (S.T U.int)=>zs.set ((j:Int)).toNat ((T.getD j 0:Nat):Int))=FhS2
   conv=>whnf
   rw [hS2F _ hFhS2]
   conv=>whnf
   refine ⟨true,?_⟩;conv=>whnf
   refine ⟨_,hG,?_⟩;conv=>whnf
   refine ⟨_,hG,?_⟩;conv=>whnf
   apply bc9<;>intro h15
   ·exact absurd (by have h15:(((T.getD j 0:Nat):Int)==0)=true:=h15; have:=eq_of_beq h15; omega) hx0
   conv=>whnf
   refine ⟨⟨805306579,[37,38,61,62],[]⟩,?_⟩;conv=>whnf
   rw [hw]
   have hz:=hZ1 (j+1) (by omega) (by omega)
   rw [foldF_succ] at hz
   unfold stepF at hz
   rw [hT1j,hc] at hz
   exact hz
  conv=>whnf
  refine ⟨[0,1,2,3,4,5,6,7,8],[2,3,7,400070],[2,3,7],[],⟨154742504910672534362390527,[],[]⟩,by decide +kernel,?_⟩;conv=>whnf
  refine ⟨_,hG1,?_⟩;conv=>whnf
  refine ⟨_,hG1,?_⟩;conv=>whnf
  refine ⟨Int.natCast_nonneg _,?_⟩;conv=>whnf
  refine ⟨_,hG1,?_⟩;conv=>whnf
  refine ⟨((T.getD j 0:Nat):Int),congrArg some hN,?_⟩;conv=>whnf
  generalize hFhS2:(fun zs:List (S.T U.int)=>zs.set ((j:Int)).toNat ((T.getD j 0:Nat):Int))=FhS2
  conv=>whnf
  rw [hS2F _ hFhS2]
  conv=>whnf
  refine ⟨true,?_⟩;conv=>whnf
  refine ⟨_,hG,?_⟩;conv=>whnf
  refine ⟨_,hG,?_⟩;conv=>whnf
  apply bc9<;>intro h15
  ·exact absurd (by have h15:(((T.getD j 0:Nat):Int)==0)=true:=h15; have:=eq_of_beq h15; omega) hx0
  conv=>whnf
  refine ⟨⟨805306579,[37,38,61,62],[]⟩,?_⟩;conv=>whnf
  rw [hw]
  have hz:=hZ1 (j+1) (by omega) (by omega)
  rw [foldF_succ] at hz
  unfold stepF at hz
  rw [hT1j,hc] at hz
  exact hz
 have hge:j=T.length+1:=by have:=of_decide_eq_false h4; omega
 conv=>whnf
 refine ⟨⟨1,[],[]⟩,?_⟩;conv=>whnf
 exact ⟨rfl,by rw [srcF_go h0,hi2,hge]⟩
def srcS (hs:List Sn):Int×List Int:=srcF hs hs.length [] [] (((hs.length+1:Nat):Int),[])
def srcV (hs:List Sn):List Int×Int×Int:=if chHE hs=0 then ((srcS hs).2,(srcS hs).1,0) else ([],0,chHE hs)
theorem c37 (hs:List Sn) (hl:hs.length≤9223372036854775807):PCalls PR glT 37 [.agg [snsV hs]] fun r=>r=.tup [vL (srcV hs).1,vI (srcV hs).2.1,vI (srcV hs).2.2]:=by
 refine fnW_sound (parL_ok glT) Tryd.func37 ?_;conv=>whnf
 refine byC (c102 glT hs hl) op102 ?_
 rcases hk:chHE hs with (_ | n) | n
 ·have hk:chHE hs=0:=hk
  have hV:=chH_valid.1 hk
  have hh8:=hV.n8
  have h8:=hV.n8
  have h1:=hV.n1
  have hp:2 ^ hs.length≤256:=Nat.pow_le_pow_right (n:=2) (by omega) (show hs.length≤8 by omega)
  conv=>whnf
  rw [show IntKind.i64.wrap ((hs.length:Int)+1)=((hs.length+1:Nat):Int) from wrap_nat (by omega)]
  conv=>whnf
  refine ⟨[(6,1000001),(3,1000002),(1,1000003),(7,1000004),(2,1000005),(5,1000006),(8,1000007),(1006,1000011),(1007,1000014)],[1002],?_⟩;conv=>whnf
  refine byL (c109 hs hV hs.length 0 (by omega) [] ⟨Nat.zero_le _,fun x h=>absurd h (by simp)⟩ [] rfl (((hs.length+1:Nat):Int),[])) op109 ?_;conv=>whnf
  refine ⟨[0,1,2,3,4],[2],[],[],⟨67108863,[],[]⟩,by decide +kernel,?_⟩;conv=>whnf
  refine ⟨rfl,?_⟩;conv=>whnf
  unfold srcV
  rw [if_pos hk]
  rfl
 ·have hne:¬ chHE hs=0:=by rw [hk]; intro e; cases e
  conv=>whnf
  unfold srcV
  rw [if_neg hne,hk]
 have hne:¬ chHE hs=0:=by rw [hk]; intro e; cases e
 conv=>whnf
 unfold srcV
 rw [if_neg hne,hk]
theorem op37:Opens PR 37:=⟨_,Tryd.func37,rfl,rfl⟩
theorem ucE {gl:Gl} {Y:Type} {En:Env Y} {g:FuncId} {args args':List (AV S)} {ups ups':List (Nat×AO S)} {y:Y} {Q:AV S→List (Nat×AO S)→Y→Prop} (e1:args=args') (e:ups=ups')
  (h:UCalls PR gl En g args' ups' y Q):UCalls PR gl En g args ups y Q:=by rw [e1,e]; exact h
theorem getI_D {l:List Int} {i:Nat} (h:i < l.length):getI l (i:Int)=some (l.getD i 0):=by rw [getI_nat h,getD_at h]
theorem setI_nat {α:Type} (l:List α) (t:Nat) (v:α):setI l (t:Int) v=l.set t v:=rfl
abbrev pad4 (l:List Int):List Int:=l++List.replicate (4 - l.length) 0
abbrev fillH (p:Int) (ls:List Lf) (cs:List Cp):AV S:=.clo (.func 133) [] [.ref [setR p ls cs],.up 2 [],.up 5 [],.up 3 [],.up 6 []]
abbrev upsH (p:Int) (ls:List Lf) (cs:List Cp) (lf cur:List Int):List (Nat×AO S):=[(2,.cells [.cb]),(3,.cells [.arr (S:=S) U.int 3 lf]),(5,.cells [.arr (S:=S) U.int 4 cur]),(6,.cells [fillH p ls cs])]
def hostL:Nat→List Int→List Int→List (List Int)
 | 0,_,h=>[h]
 | m+1,lf,h=>(List.range 3).flatMap fun k=>if lf.getD k 0=0 then [] else hostL m (lf.set k (lf.getD k 0 - 1)) (h++[(k:Int)])
structure CurI (N n t:Nat) (l cur:List Int):Prop where
 len:cur.length=N
 tk:cur.take t=l
 z:∀ j,n≤j→j < N→cur[j]?=some 0
theorem CurI.set {N n t:Nat} {k:Int} {l cur:List Int} (h:CurI N n t l cur) (ht:t < n) (hn:n≤N):CurI N n (t+1) (l++[k]) (cur.set t k):=by
 refine ⟨by simp [h.len],?_,fun j hj hj5=>?_⟩
 ·rw [List.take_set,List.take_succ_eq_append_getElem (by rw [h.len]; omega),h.tk]
  have hp:l.length=t:=by rw [←h.tk,List.length_take,h.len]; omega
  rw [List.set_append_right _ _ (by omega)]
  simp [hp]
 rw [List.getElem?_set_ne (by omega)]
 exact h.z j hj hj5
theorem CurI.back {N n t:Nat} {k:Int} {l cur:List Int} (h:CurI N n (t+1) (l++[k]) cur) (hp:l.length=t):CurI N n t l cur :=
 ⟨h.len,by have:=congrArg (List.take t) h.tk; rw [List.take_take,Nat.min_eq_left (Nat.le_succ t),List.take_append_of_le_length (by omega)] at this; rw [this,List.take_of_length_le (by omega)],h.z⟩
theorem CurI.done {N n:Nat} {l cur:List Int} (h:CurI N n n l cur) (hn:n≤N):cur=l++List.replicate (N - l.length) 0:=by
 have hp:l.length=n:=by rw [←h.tk,List.length_take,h.len]; omega
 apply List.ext_getElem?
 intro j
 rcases Nat.lt_or_ge j n with hj | hj
 ·rw [List.getElem?_append_left (by omega),←h.tk,List.getElem?_take,if_pos hj]
 rw [List.getElem?_append_right (by omega)]
 rcases Nat.lt_or_ge j N with hj5 | hj5
 ·rw [h.z j hj hj5,List.getElem?_replicate,if_pos (by omega)]
 rw [List.getElem?_eq_none (by rw [h.len]; exact hj5),List.getElem?_eq_none (by simp; omega)]
theorem op133:Opens PR 133:=⟨_,Tryd.func133,rfl,rfl⟩
theorem u133 (gl:Gl) (Y:Type) (B:List (AV S)→Y→(AV S→Y→Prop)→Prop) (hm:BMono B) (p:Int) (ls:List Lf) (cs:List Cp) (hV:Valid p ls cs) :
  ∀ (m i:Nat) (h lf cur:List Int),i+m=cs.length→h.length=i→CurI 4 cs.length i h cur→lf.length=3→(∀ k,-100 - (i:Int)≤lf.getD k 0∧lf.getD k 0≤100)→∀ (y:Y) (Q:AV S→List (Nat×AO S)→Y→Prop),
  eachR B ((hostL m lf h).map (fun h:List Int=>[.agg [.arr (S:=S) U.int 4 (pad4 h)]])) y (fun b y'=>∀ cur' lf',CurI 4 cs.length i h cur'→(b=true→lf'=lf)→Q (.bool b) (upsH p ls cs lf' cur') y')→∀ En:Env Y,CbOk PR gl En B →
  UCalls PR gl En 133 [vI i,.ref [setR p ls cs],.up 2 [],.up 5 [],.up 3 [],.up 6 []] (upsH p ls cs lf cur) y Q:=by
 have hm1:=hV.m1
 have hm4:=hV.m4
 have hn1:=hV.n1
 have hn6:=hV.n6
 intro m
 induction m
 case zero =>
  intro i h lf cur him hp hc hl3 hlb y Q hq En hB
  refine fnU_sound (pb_ok gl Y B En hB) Tryd.func133 ?_;conv=>whnf
  refine bcase_iff.2 ⟨fun _=>?_,fun h'=>?_⟩
  ·conv=>whnf
   have ht:i=cs.length:=by omega
   subst ht
   have hq:B [.agg [.arr (S:=S) U.int 4 (pad4 h)]] y fun r y'=>match r with
    | .bool b=>match b with
     | true=>∀ cur' lf',CurI 4 cs.length cs.length h cur'→(true=true→lf'=lf)→Q (.bool true) (upsH p ls cs lf' cur') y'
     | false=>∀ cur' lf',CurI 4 cs.length cs.length h cur'→(false=true→lf'=lf)→Q (.bool false) (upsH p ls cs lf' cur') y'
    | _=>False:=hq
   rw [show pad4 h=cur from (hc.done hm4).symm] at hq
   refine hm _ _ _ _ (fun r y' hr=>?_) hq
   cases r with
   | bool b =>
    conv=>whnf
    cases b with
    | true=>exact hr _ _ hc fun _=>rfl
    | false=>exact hr _ _ hc fun _=>rfl
   | _=>exact hr.elim
  have:i=cs.length:=by omega
  subst this
  simp at h'
 rename_i m ih
 intro i h lf cur him hp hc hl3 hlb y Q hq En hB
 refine fnU_sound (pb_ok gl Y B En hB) Tryd.func133 ?_;conv=>whnf
 apply bc9<;>intro h1
 ·exfalso
  have:(i:Int)=cs.length:=by simpa using h1
  omega
 have hin:i < cs.length:=by omega
 have hwi:=wrap_nat (n:=i) (by omega)
 rw [hostL,List.range_eq_range'] at hq
 conv=>whnf
 refine ⟨⟨1048633,[],[]⟩,?_⟩
 refine LoopW_indX _ (fun s9:Nat×List Int×Y=>match s9 with | (k,cur,y)=>(({ tmps:=[vI i,J,J,.up 5 [],.up 3 [],.up 6 [],J,J,J,J,J,J,J,J,J,J,J,J,J,J,vI k,J,J,J,J,J,J,J,J,J,J,J,J,J,J,J,J,J,J,J,J,J,J,J,J,J],seg:=[],up:=upsH p ls cs lf cur }:St S))) (fun s9:Nat×List Int×Y=>match s9 with | (k,cur,y)=>(y)) (fun s9:Nat×List Int×Y=>match s9 with | (k,cur,y)=>(k≤3∧CurI 4 cs.length i h cur∧eachR B (((List.range' k (3 - k)).flatMap fun k=>if lf.getD k 0=0 then [] else hostL m (lf.set k (lf.getD k 0 - 1)) (h++[(k:Int)])).map (fun h:List Int=>[.agg [.arr (S:=S) U.int 4 (pad4 h)]])) y (fun b y'=>∀ cur' lf',CurI 4 cs.length i h cur'→(b=true→lf'=lf)→Q (.bool b) (upsH p ls cs lf' cur') y'))) (fun s9:Nat×List Int×Y=>match s9 with | (k,cur,y)=>(3 - k)) ?_ (0,cur,y) ⟨Nat.zero_le _,hc,hq⟩
 rintro ⟨k,cur,y⟩ hinv Z1 hZ1
 dsimp only at hinv hZ1
 obtain ⟨hk0,hc,hq⟩:=hinv
 conv=>whnf
 apply bc9<;>intro h4
 ·have hk:k < 3:=by have:=of_decide_eq_true h4; omega
  have hw:=wrap_nat (n:=k) (by omega)
  have hkl:k < lf.length:=by omega
  have hlk:=hlb k
  rw [show 3 - k=(3 - (k+1))+1 by omega,List.range'_succ,List.flatMap_cons,List.map_append] at hq
  conv=>whnf
  refine ⟨by omega,by omega,?_⟩;conv=>whnf
  refine ⟨_,getI_D hkl,?_⟩;conv=>whnf
  apply bc9<;>intro h6
  ·have h6:lf.getD k 0=0:=eq_of_beq (show (lf.getD k 0==0)=true from h6)
   rw [if_pos h6] at hq
   conv=>whnf
   refine ⟨⟨1048633,[],[]⟩,?_⟩;conv=>whnf
   rw [hw]
   exact hZ1 (k+1,cur,y) ⟨hk,hc,hq⟩ (by dsimp only; omega)
  have h6:¬ lf.getD k 0=0:=by have h6:(lf.getD k 0==0)=false:=h6; intro e; rw [e] at h6; cases h6
  rw [if_neg h6] at hq
  have hws:IntKind.i64.wrap (lf.getD k 0 - 1)=lf.getD k 0 - 1:=wrap_int (by omega) (by omega)
  have hwa:IntKind.i64.wrap (lf.getD k 0 - 1+1)=lf.getD k 0:=by rw [wrap_int (by omega) (by omega)]; omega
  have hsl:k < (lf.set k (lf.getD k 0 - 1)).length:=by simpa using hkl
  have hsg:(lf.set k (lf.getD k 0 - 1)).getD k 0=lf.getD k 0 - 1:=by rw [getD_at hsl]; simp
  have hsb:(lf.set k (lf.getD k 0 - 1)).set k (lf.getD k 0)=lf:=by rw [List.set_set,getD_at hkl,List.set_getElem_self]
  have hbn:∀ q,-100 - ((i+1:Nat):Int)≤(lf.set k (lf.getD k 0 - 1)).getD q 0∧(lf.set k (lf.getD k 0 - 1)).getD q 0≤100:=fun q=>by
   have hq1:=hlb q
   by_cases e:k=q
   ·subst e; rw [hsg]; omega
   rw [show (lf.set k (lf.getD k 0 - 1)).getD q 0=lf.getD q 0 by simp [List.getD_eq_getElem?_getD,List.getElem?_set_ne e]]; omega
  conv=>whnf
  refine ⟨by omega,by omega,?_⟩;conv=>whnf
  refine ⟨_,getI_D hkl,?_⟩;conv=>whnf
  refine ⟨by omega,by omega,?_⟩;conv=>whnf
  refine ⟨_,getI_D hkl,?_⟩;conv=>whnf
  refine ⟨_,rfl,?_⟩;conv=>whnf
  refine ⟨by omega,by omega,?_⟩;conv=>whnf
  refine ⟨_,getI_D (by rw [hc.len]; omega),?_⟩;conv=>whnf
  refine ⟨_,rfl,?_⟩;conv=>whnf
  refine ⟨fun En' hB'=>ucE (by rw [hwi]) (by rw [setI_nat,setI_nat,hws]) (ih (i+1) (h++[(k:Int)]) (lf.set k (lf.getD k 0 - 1)) (cur.set i (k:Int)) (by omega) (by simp [hp]) (hc.set hin hm4) (by simpa using hl3) hbn y _ ?_ En' hB'),op133⟩
  refine eachR_mono hm _ _ _ _ (fun b y' hb cur' lf' hc' hlf=>?_) (eachR_append hm _ _ _ _ hq)
  rcases b with _ | _
  ·conv=>whnf
   exact hb cur' lf' (hc'.back hp) fun e=>by cases e
  have hlf:=hlf rfl
  subst hlf
  conv=>whnf
  refine ⟨by omega,by omega,?_⟩;conv=>whnf
  refine ⟨_,getI_D hsl,?_⟩;conv=>whnf
  refine ⟨by omega,by omega,?_⟩;conv=>whnf
  refine ⟨_,getI_D hsl,?_⟩;conv=>whnf
  rw [hsg,hwa]
  conv=>whnf
  refine ⟨_,rfl,?_⟩;conv=>whnf
  refine ⟨⟨1048633,[],[]⟩,?_⟩;conv=>whnf
  rw [hw,setI_nat,hsb]
  exact hZ1 (k+1,cur',y') ⟨hk,hc'.back hp,hb⟩ (by dsimp only; omega)
 have hke:3 - k=0:=by have:=of_decide_eq_false h4; omega
 rw [hke] at hq
 have hq:(fun b y'=>∀ cur' lf',CurI 4 cs.length i h cur'→(b=true→lf'=lf)→Q (.bool b) (upsH p ls cs lf' cur') y') true y:=hq
 conv=>whnf
 exact hq cur lf hc fun _=>rfl
theorem mostU_fst {cs:List Cp} (k:Int):∀ l,(mostU cs k l).1≤cs.length+1
 | 0=>Nat.le_refl _
 | l+1=>by
  have:=mostU_fst (cs:=cs) k l
  simp only [mostU]
  split
  ·rename_i h; show onesN _≤_; omega
  exact this
def leftU (ls:List Lf) (cs:List Cp) (k:Nat):List Int :=
 if k≤1 then [(cs.length:Int),0,0] else if k=2 then [(cs.length:Int) - (mostN ls cs 1).1,((mostN ls cs 1).1:Nat),0] else [(cs.length:Int) - (mostN ls cs 1).1 - (mostN ls cs 2).1,((mostN ls cs 1).1:Nat),((mostN ls cs 2).1:Nat)]
theorem leftU_len (ls:List Lf) (cs:List Cp) (k:Nat):(leftU ls cs k).length=3:=by unfold leftU; split; rfl; split <;> rfl
theorem leftU_b {ls:List Lf} {cs:List Cp} (hm:cs.length≤4) (k q:Nat):-20≤(leftU ls cs k).getD q 0∧(leftU ls cs k).getD q 0≤20:=by
 have h1:=mostU_fst (cs:=cs) 1 ls.length
 have h2:=mostU_fst (cs:=cs) 2 ls.length
 unfold leftU mostN
 split
 ·match q with
  | 0=>show -20≤(cs.length:Int)∧(cs.length:Int)≤20; omega
  | 1=>show -20≤(0:Int)∧(0:Int)≤20; omega
  | 2=>show -20≤(0:Int)∧(0:Int)≤20; omega
  | q+3=>show -20≤(0:Int)∧(0:Int)≤20; omega
 split
 ·match q with
  | 0=>show -20≤(cs.length:Int) - _∧(cs.length:Int) - _≤20; omega
  | 1=>show -20≤(((mostU cs 1 ls.length).1:Nat):Int)∧(((mostU cs 1 ls.length).1:Nat):Int)≤20; omega
  | 2=>show -20≤(0:Int)∧(0:Int)≤20; omega
  | q+3=>show -20≤(0:Int)∧(0:Int)≤20; omega
 match q with
 | 0=>show -20≤(cs.length:Int) - _ - _∧(cs.length:Int) - _ - _≤20; omega
 | 1=>show -20≤(((mostU cs 1 ls.length).1:Nat):Int)∧(((mostU cs 1 ls.length).1:Nat):Int)≤20; omega
 | 2=>show -20≤(((mostU cs 2 ls.length).1:Nat):Int)∧(((mostU cs 2 ls.length).1:Nat):Int)≤20; omega
 | q+3=>show -20≤(0:Int)∧(0:Int)≤20; omega
theorem leftU_step {ls:List Lf} {cs:List Cp} {k:Nat} (h:k=1∨k=2) (hm:cs.length≤4) :
  setI (setI (leftU ls cs k) (k:Int) (((mostN ls cs (k:Int)).1:Nat):Int)) 0 (IntKind.i64.wrap ((setI (leftU ls cs k) (k:Int) (((mostN ls cs (k:Int)).1:Nat):Int)).getD 0 0 - (setI (leftU ls cs k) (k:Int) (((mostN ls cs (k:Int)).1:Nat):Int)).getD k 0))=leftU ls cs (k+1):=by
 have h1:=mostU_fst (cs:=cs) 1 ls.length
 have h2:=mostU_fst (cs:=cs) 2 ls.length
 rcases h with rfl | rfl
 ·show [IntKind.i64.wrap ((cs.length:Int) - (mostN ls cs 1).1),((mostN ls cs 1).1:Int),0]=_
  rw [wrap_int (by unfold mostN; omega) (by unfold mostN; omega)]; rfl
 show [IntKind.i64.wrap ((cs.length:Int) - (mostN ls cs 1).1 - (mostN ls cs 2).1),((mostN ls cs 1).1:Int),((mostN ls cs 2).1:Int)]=_
 rw [wrap_int (by unfold mostN; omega) (by unfold mostN; omega)]; rfl
def hostA (ls:List Lf) (cs:List Cp):List (List Int):=hostL cs.length (leftU ls cs 3) []
def lkN (v:Int) (ks:List Int):Nat:=(ks.filter fun k=>decide (v > 0)&&v != k).length
theorem lkN_le (v:Int) (ks:List Int):lkN v ks≤ks.length:=List.length_filter_le _ _
theorem lkN_succ {v:Int} {ks:List Int} {q:Nat} (h:q < ks.length):lkN v (ks.take (q+1))=lkN v (ks.take q)+if (decide (v > 0)&&v != ks[q])=true then 1 else 0:=by
 unfold lkN
 rw [take_succ' h,List.filter_append,List.length_append]
 congr 1
 rw [List.filter_cons]
 by_cases e:(decide (v > 0)&&v != ks[q])=true
 ·rw [if_pos e,if_pos e]; rfl
 rw [if_neg e,if_neg e]; rfl
def lackU (cs:List Cp) (H:List Int):Nat→Nat
 | 0=>0
 | i+1=>lackU cs H i+lkN (H.getD i 0) (cs.getD i cp0).2
abbrev lackN (cs:List Cp) (H:List Int):Nat:=lackU cs H cs.length
theorem lackU_le {p:Int} {ls:List Lf} {cs:List Cp} (hV:Valid p ls cs) (H:List Int):∀ i,i≤cs.length→lackU cs H i≤6 * i
 | 0,_=>Nat.le_refl _
 | i+1,h=>by
  have h1:=lackU_le hV H i (by omega)
  have h2:=lkN_le (H.getD i 0) (cs.getD i cp0).2
  rw [hV.len (show i < cs.length by omega)] at h2
  have:=hV.n6
  simp only [lackU]; omega
theorem it132 (gl:Gl) (p:Int) (ls:List Lf) (cs:List Cp) (hV:Valid p ls cs):ICalls PR gl 132 [.ref [setR p ls cs]] ((hostA ls cs).map (fun h:List Int=>[.agg [.arr (S:=S) U.int 4 (pad4 h)]])):=by
 have hm1:=hV.m1
 have hm4:=hV.m4
 have hn1:=hV.n1
 have hn6:=hV.n6
 refine iter_sound Tryd.func132 (pb gl) (pb_ok gl) fun Y B hm y Q h=>?_
 conv=>whnf
 refine ⟨by omega,by omega,?_⟩;conv=>whnf
 refine ⟨_,rfl,?_⟩;conv=>whnf
 refine ⟨_,rfl,?_⟩;conv=>whnf
 refine ⟨⟨30,[],[]⟩,?_⟩
 refine LoopW_indX _ (fun k:Nat=>(({ tmps:=[J,.ref [setR p ls cs],.own 2 [],.own 3 [],vI k,J,J,J,J,J,J,J,J,J,J,J,J,J,J,J,J,J,J,J,J,J,J,J,J,J,J,J,J,J,J,J],seg:=[(2,.cells [.cb]),(3,.cells [.arr (S:=S) U.int 3 (leftU ls cs k)])],up:=[] }:St S))) (fun k:Nat=>(y)) (fun k:Nat=>(1≤k∧k≤3)) (fun k:Nat=>(3 - k)) ?_ 1 ⟨by decide,by decide⟩
 intro k hinv Z1 hZ1
 obtain ⟨hk1,hk3⟩:=hinv
 conv=>whnf
 apply bc9<;>intro h4
 ·have hk:k=1∨k=2:=by have:=of_decide_eq_true h4; omega
  have hw:=wrap_nat (n:=k) (by omega)
  have hll:=leftU_len ls cs k
  have hst:=leftU_step (ls:=ls) hk hm4
  have hl1:(setI (leftU ls cs k) (k:Int) (((mostN ls cs (k:Int)).1:Nat):Int)).length=3:=by rw [setI_nat,List.length_set]; exact hll
  conv=>whnf
  refine byC (c81 gl p ls cs hV k) op81 ?_;conv=>whnf
  refine ⟨by omega,by omega,?_⟩;conv=>whnf
  refine ⟨_,getI_D (by omega),?_⟩;conv=>whnf
  refine ⟨_,rfl,?_⟩;conv=>whnf
  refine ⟨[0,1,2,3,4,5,6,7],[],[],[],⟨68719476735,[],[]⟩,by decide +kernel,?_⟩;conv=>whnf
  refine ⟨by omega,by omega,?_⟩;conv=>whnf
  refine ⟨_,getI_D (i:=0) (by omega),?_⟩;conv=>whnf
  refine ⟨by omega,by omega,?_⟩;conv=>whnf
  refine ⟨_,getI_D (by omega),?_⟩;conv=>whnf
  refine ⟨by omega,by omega,?_⟩;conv=>whnf
  refine ⟨_,getI_D (i:=0) (by omega),?_⟩;conv=>whnf
  refine ⟨_,rfl,?_⟩;conv=>whnf
  refine ⟨⟨30,[],[]⟩,?_⟩;conv=>whnf
  rw [hw]
  have hz:=hZ1 (k+1) ⟨by omega,by omega⟩ (by omega)
  rw [←hst] at hz
  exact hz
 have hke:k=3:=by have:=of_decide_eq_false h4; omega
 subst hke
 conv=>whnf
 refine ⟨fun En' hB'=>u133 gl Y B hm p ls cs hV cs.length 0 [] (leftU ls cs 3) [0,0,0,0] (by omega) rfl ⟨rfl,rfl,fun j _ hj=>by match j,hj with | 0,_=>rfl | 1,_=>rfl | 2,_=>rfl | 3,_=>rfl⟩ (leftU_len ls cs 3) (fun q=>by have:=leftU_b (ls:=ls) hm4 3 q; omega) y _ ?_ En' hB',op133⟩
 refine eachR_mono hm _ _ _ _ (fun b y' hb cur' lf' _ _=>?_) (eachR_of_B hm _ _ _ h)
 rcases b with _ | _
 ·conv=>whnf
  exact hb
 conv=>whnf
 exact hb
theorem op132:Opens PR 132:=⟨_,Tryd.func132,rfl,rfl⟩
theorem c88 (gl:Gl) (p:Int) (ls:List Lf) (cs:List Cp):PCalls PR gl 88 [setR p ls cs] fun r=>r=.clo (.func 132) [] [.ref [setR p ls cs]]:=by
 refine fnW_sound (par_ok gl) Tryd.func88 ?_;conv=>whnf
theorem op88:Opens PR 88:=⟨_,Tryd.func88,rfl,rfl⟩
theorem c89 (gl:Gl) (p:Int) (ls:List Lf) (cs:List Cp) (hV:Valid p ls cs) (H:List Int) (hH:H.length=4):PCalls PR gl 89 [setR p ls cs,.agg [.arr (S:=S) U.int 4 H]] fun r=>r=vI (lackN cs H):=by
 have hm1:=hV.m1
 have hm4:=hV.m4
 have hn1:=hV.n1
 have hn6:=hV.n6
 refine fnW_sound (par_ok gl) Tryd.func89 ?_;conv=>whnf
 refine ⟨⟨57368,[],[]⟩,?_⟩
 refine LoopW_ind _ (fun i:Nat=>(({ tmps:=[J,J,J,.own 3 [],vI (lackU cs H i),J,J,J,J,J,J,J,J,cpsV cs,vI cs.length,vI i,J,J,J,J,J,J,J,J,J,J,J,J,J,J,J,J,J,J,J,J,J,J,J,J,J,J,J],seg:=[(3,.cells [.arr (S:=S) U.int 4 H])],up:=[] }:St S))) (fun i:Nat=>(i≤cs.length)) (fun i:Nat=>(cs.length - i)) () ?_ 0 (Nat.zero_le _)
 intro i hi Z1 hZ1
 conv=>whnf
 apply bc9<;>intro h2
 ·have hlt:i < cs.length:=by have:=of_decide_eq_true h2; omega
  have hw:=wrap_nat (n:=i) (by omega)
  conv=>whnf
  have hcl:=(hV.cp hlt).2.1
  have hgd:cs.getD i cp0=cs[i]:=getD_at hlt
  have hlu:=lackU_le hV H i (by omega)
  refine ⟨_,getI_nat hlt,?_⟩;conv=>whnf
  refine ⟨⟨14737464,[6,2006],[2006]⟩,?_⟩
  refine LoopW_ind _ (fun q:Nat=>(({ tmps:=[J,J,J,.own 3 [],vI (lackU cs H i+lkN (H.getD i 0) (cs[i].2.take q):Nat),vI i,J,J,J,J,J,J,J,cpsV cs,vI cs.length,vI i,J,J,J,J,J,vL cs[i].2,vI cs[i].2.length,vI q,J,J,J,J,J,J,J,J,J,J,J,J,J,J,J,J,J,J,J],seg:=[(3,.cells [.arr (S:=S) U.int 4 H])],up:=[] }:St S))) (fun q:Nat=>(q≤cs[i].2.length)) (fun q:Nat=>(cs[i].2.length - q)) () ?_ 0 (Nat.zero_le _)
  intro q hq Z2 hZ2
  conv=>whnf
  apply bc9<;>intro h5
  ·have hlq:q < cs[i].2.length:=by have:=of_decide_eq_true h5; omega
   have hwq:=wrap_nat (n:=q) (by omega)
   conv=>whnf
   have hlk:=lkN_le (H.getD i 0) (cs[i].2.take q)
   rw [List.length_take] at hlk
   conv=>whnf
   have hsu:=lkN_succ (v:=H.getD i 0) hlq
   refine ⟨_,getI_nat hlq,?_⟩;conv=>whnf
   refine ⟨by omega,by omega,?_⟩;conv=>whnf
   refine ⟨_,getI_D (by omega),?_⟩;conv=>whnf
   apply bc9<;>intro g7_4
   ·have g7:decide (H.getD i 0 > 0)=true:=g7_4
    conv=>whnf
    refine ⟨by omega,by omega,?_⟩;conv=>whnf
    refine ⟨_,getI_D (by omega),?_⟩;conv=>whnf
    apply bc9<;>intro h7
    ·have h7:(H.getD i 0 != cs[i].2[q])=true:=h7
     rw [g7,h7] at hsu
     simp only [Bool.and_self,if_true] at hsu
     have hwn:IntKind.i64.wrap (((lackU cs H i+lkN (H.getD i 0) (cs[i].2.take q):Nat):Int)+1)=((lackU cs H i+lkN (H.getD i 0) (cs[i].2.take q)+1:Nat):Int):=wrap_nat (by omega)
     conv=>whnf
     refine ⟨⟨14737464,[],[]⟩,?_⟩;conv=>whnf
     rw [hwq,hwn]
     have hz:=hZ2 (q+1) hlq (by omega)
     rw [hsu,←Nat.add_assoc] at hz
     exact hz
    have h7:(H.getD i 0 != cs[i].2[q])=false:=h7
    rw [g7,h7] at hsu
    simp only [Bool.and_false,Bool.false_eq_true,if_false,Nat.add_zero] at hsu
    conv=>whnf
    refine ⟨⟨14737464,[],[]⟩,?_⟩;conv=>whnf
    rw [hwq]
    have hz:=hZ2 (q+1) hlq (by omega)
    rw [hsu] at hz
    exact hz
   have g7:decide (H.getD i 0 > 0)=false:=g7_4
   rw [g7] at hsu
   simp only [Bool.false_and,Bool.false_eq_true,if_false,Nat.add_zero] at hsu
   conv=>whnf
   refine ⟨⟨14737464,[],[]⟩,?_⟩;conv=>whnf
   rw [hwq]
   have hz:=hZ2 (q+1) hlq (by omega)
   rw [hsu] at hz
   exact hz
  have hgq:q=cs[i].2.length:=by have:=of_decide_eq_false h5; omega
  conv=>whnf
  refine ⟨⟨57368,[6,1006,2006,3006,4006],[]⟩,?_⟩;conv=>whnf
  rw [hw,hgq,List.take_length]
  have hz:=hZ1 (i+1) hlt (by omega)
  rw [lackU,hgd] at hz
  exact hz
 have hge:i=cs.length:=by have:=of_decide_eq_false h2; omega
 conv=>whnf
 rw [hge]
theorem op89:Opens PR 89:=⟨_,Tryd.func89,rfl,rfl⟩
theorem getI_DD {l:List (List Int)} {i:Nat} (h:i < l.length):getI l (i:Int)=some (l.getD i []):=by rw [getI_nat h,getD_at h]
abbrev Tb:=List (List Int)
def get2 (A:Tb) (c l:Nat):Int:=(A.getD c []).getD l 0
def set2 (A:Tb) (c l:Nat) (v:Int):Tb:=A.set c ((A.getD c []).set l v)
structure Tb46 (A:Tb):Prop where
 len:A.length=4
 row:∀ c,c < 4→(A.getD c []).length=6
theorem getD_set_self {α:Type} {l:List α} {i:Nat} {v d:α} (h:i < l.length):(l.set i v).getD i d=v:=by rw [getD_at (by simpa using h)]; simp
theorem getD_set_ne {α:Type} {l:List α} {i j:Nat} {v d:α} (h:i≠j):(l.set i v).getD j d=l.getD j d:=by simp [List.getD_eq_getElem?_getD,List.getElem?_set_ne h]
theorem Tb46.set2 {A:Tb} (h:Tb46 A) (c l:Nat) (v:Int):Tb46 (set2 A c l v):=by
 refine ⟨by unfold Go.Ab.MkF.set2; rw [List.length_set]; exact h.len,fun c' hc'=>?_⟩
 unfold Go.Ab.MkF.set2
 by_cases e:c=c'
 ·subst e; rw [getD_set_self (by rw [h.len]; exact hc'),List.length_set]; exact h.row _ hc'
 rw [getD_set_ne e]; exact h.row _ hc'
theorem get2_set2 {A:Tb} (h:Tb46 A) {c l:Nat} {v:Int} (hc:c < 4) (hl:l < 6) (c' l':Nat):get2 (set2 A c l v) c' l'=if c=c'∧l=l' then v else get2 A c' l':=by
 unfold get2 Go.Ab.MkF.set2
 by_cases e:c=c'
 ·subst e
  rw [getD_set_self (by rw [h.len]; exact hc)]
  by_cases e2:l=l'
  ·subst e2; rw [getD_set_self (by rw [h.row _ hc]; exact hl),if_pos ⟨rfl,rfl⟩]
  rw [getD_set_ne e2,if_neg fun h=>e2 h.2]
 rw [getD_set_ne e,if_neg fun h=>e h.1]
def z46:Tb:=[[0,0,0,0,0,0],[0,0,0,0,0,0],[0,0,0,0,0,0],[0,0,0,0,0,0]]
theorem z46_ok:Tb46 z46:=⟨rfl,fun c h=>by match c,h with | 0,_=>rfl | 1,_=>rfl | 2,_=>rfl | 3,_=>rfl⟩
structure Plan (A:Tb):Prop where
 t:Tb46 A
 e:∀ c l,-1≤get2 A c l∧get2 A c l < 4
def outR (A:Tb) (c:Nat):Nat→Tb
 | 0=>A
 | l+1=>set2 (outR A c l) c l (-1)
def outU (n:Nat):Nat→Tb
 | 0=>z46
 | c+1=>outR (outU n c) c n
def atR (P A:Tb) (c:Nat):Nat→Tb
 | 0=>A
 | l+1=>if get2 P c l≠-1 then set2 (atR P A c l) (get2 P c l).toNat l c else atR P A c l
def atU (P:Tb) (n m:Nat):Nat→Tb
 | 0=>outU n m
 | c+1=>atR P (atU P n m c) c n
theorem outR_ok {A:Tb} (h:Tb46 A) (c:Nat):∀ l,Tb46 (outR A c l)
 | 0=>h
 | l+1=>(outR_ok h c l).set2 _ _ _
theorem outU_ok (n:Nat):∀ c,Tb46 (outU n c)
 | 0=>z46_ok
 | c+1=>outR_ok (outU_ok n c) c n
theorem atR_ok {P A:Tb} (h:Tb46 A) (c:Nat):∀ l,Tb46 (atR P A c l)
 | 0=>h
 | l+1=>by
  simp only [atR]
  split
  ·exact (atR_ok h c l).set2 _ _ _
  exact atR_ok h c l
theorem atU_ok (P:Tb) (n m:Nat):∀ c,Tb46 (atU P n m c)
 | 0=>outU_ok n m
 | c+1=>atR_ok (atU_ok P n m c) c n
abbrev atA (ls:List Lf) (cs:List Cp) (P:Tb):Tb:=atU P ls.length cs.length cs.length
def cutB (ls:List Lf) (cs:List Cp) (A:Tb) (c l:Nat):Bool :=
 decide ((ls.getD l lf0).2.1 > (l:Int))&&decide (hasI cs c l * hasI cs c (ls.getD l lf0).2.1.toNat > 0)&&get2 A c l != get2 A c (ls.getD l lf0).2.1.toNat
def cutR (ls:List Lf) (cs:List Cp) (A:Tb) (c:Nat):Nat→Nat
 | 0=>0
 | l+1=>cutR ls cs A c l+if cutB ls cs A c l=true then 1 else 0
def cutU (ls:List Lf) (cs:List Cp) (A:Tb):Nat→Nat
 | 0=>0
 | c+1=>cutU ls cs A c+cutR ls cs A c ls.length
def cutN (ls:List Lf) (cs:List Cp) (P:Tb):Nat:=cutU ls cs (atA ls cs P) cs.length
theorem cutR_le (ls:List Lf) (cs:List Cp) (A:Tb) (c:Nat):∀ l,cutR ls cs A c l≤l
 | 0=>Nat.le_refl _
 | l+1=>by
  have:=cutR_le ls cs A c l
  simp only [cutR]; split <;> omega
theorem cutU_le {ls:List Lf} (h:ls.length≤6) (cs:List Cp) (A:Tb):∀ c,cutU ls cs A c≤6 * c
 | 0=>Nat.le_refl _
 | c+1=>by
  have:=cutU_le h cs A c
  have:=cutR_le ls cs A c ls.length
  simp only [cutU]; omega
theorem c86 (gl:Gl) (w:Tb×Int×Int):PCalls PR gl 86 [.agg [.arr (S:=S) U.row6 4 w.1,vI w.2.1,vI w.2.2]] fun r=>r=vI w.2.1:=by
 refine fnW_sound (par_ok gl) Tryd.func86 ?_;conv=>whnf
theorem op86:Opens PR 86:=⟨_,Tryd.func86,rfl,rfl⟩
theorem c87 (gl:Gl) (w:Tb×Int×Int):PCalls PR gl 87 [.agg [.arr (S:=S) U.row6 4 w.1,vI w.2.1,vI w.2.2]] fun r=>r=vI w.2.2:=by
 refine fnW_sound (par_ok gl) Tryd.func87 ?_;conv=>whnf
theorem op87:Opens PR 87:=⟨_,Tryd.func87,rfl,rfl⟩
theorem c91 (gl:Gl) (p:Int) (ls:List Lf) (cs:List Cp) (hV:Valid p ls cs) (P:Tb) (hP:Plan P):PCalls PR gl 91 [setR p ls cs,.agg [.arr (S:=S) U.row6 4 P]] fun r=>r=vI (cutN ls cs P):=by
 have hm1:=hV.m1
 have hm4:=hV.m4
 have hn1:=hV.n1
 have hn6:=hV.n6
 refine fnW_sound (par_ok gl) Tryd.func91 ?_;conv=>whnf
 refine ⟨⟨1572921,[],[]⟩,?_⟩
 refine LoopW_ind _ (fun c:Nat=>(({ tmps:=[setR p ls cs,J,J,.own 3 [],vI 0,.own 5 [],J,J,J,J,J,J,J,J,J,J,J,J,J,vI cs.length,vI c,J,J,J,J,J,J,J,J,J,J,J,J,J,J,J,J,J,J,J,J,J,J,J,J,J,J,J,J,J,J,J,J,J,J,J,J,J,J,J,J,J,J,J,J,J,J,J,J,J,J,J,J,J,J,J,J,J,J,J,J,J,J,J,J,J,J,J,J,J,J,J,J,J,J,J,J,J,J,J,J,J,J,J,J,J,J,J,J,J,J,J,J,J,J,J,J,J,J,J,J,J,J,J,J,J,J,J,J,J,J,J,J],seg:=[(3,.cells [.arr (S:=S) U.row6 4 P]),(5,.cells [.arr (S:=S) U.row6 4 (outU ls.length c)])],up:=[] }:St S))) (fun c:Nat=>(c≤cs.length)) (fun c:Nat=>(cs.length - c)) () ?_ 0 (Nat.zero_le _)
 intro c hi Z1 hZ1
 conv=>whnf
 apply bc9<;>intro h3
 ·have hlt:c < cs.length:=by have:=of_decide_eq_true h3; omega
  have hw:=wrap_nat (n:=c) (by omega)
  conv=>whnf
  refine ⟨⟨806879353,[],[]⟩,?_⟩
  refine LoopW_ind _ (fun l:Nat=>(({ tmps:=[setR p ls cs,J,J,.own 3 [],vI 0,.own 5 [],vI c,J,J,J,J,J,J,J,J,J,J,J,J,vI cs.length,vI c,J,J,J,J,J,J,J,vI ls.length,vI l,J,J,J,J,J,J,J,J,J,J,J,J,J,J,J,J,J,J,J,J,J,J,J,J,J,J,J,J,J,J,J,J,J,J,J,J,J,J,J,J,J,J,J,J,J,J,J,J,J,J,J,J,J,J,J,J,J,J,J,J,J,J,J,J,J,J,J,J,J,J,J,J,J,J,J,J,J,J,J,J,J,J,J,J,J,J,J,J,J,J,J,J,J,J,J,J,J,J,J,J,J,J,J],seg:=[(3,.cells [.arr (S:=S) U.row6 4 P]),(5,.cells [.arr (S:=S) U.row6 4 (outR (outU ls.length c) c l)])],up:=[] }:St S))) (fun l:Nat=>(l≤ls.length)) (fun l:Nat=>(ls.length - l)) () ?_ 0 (Nat.zero_le _)
  intro l hl Z2 hZ2
  conv=>whnf
  apply bc9<;>intro h6
  ·have hll:l < ls.length:=by have:=of_decide_eq_true h6; omega
   have hwl:=wrap_nat (n:=l) (by omega)
   conv=>whnf
   have hA:=outR_ok (outU_ok ls.length c) c l
   refine ⟨by omega,by omega,?_⟩;conv=>whnf
   refine ⟨by omega,by omega,?_⟩;conv=>whnf
   refine ⟨_,getI_DD (by rw [hA.len]; omega),?_⟩;conv=>whnf
   refine ⟨_,getI_D (by rw [hA.row _ (by omega)]; omega),?_⟩;conv=>whnf
   refine ⟨_,rfl,?_⟩;conv=>whnf
   refine ⟨_,rfl,?_⟩;conv=>whnf
   refine ⟨⟨806879353,[],[]⟩,?_⟩;conv=>whnf
   rw [hwl]
   exact hZ2 (l+1) hll (by omega)
  have hgl:l=ls.length:=by have:=of_decide_eq_false h6; omega
  conv=>whnf
  refine ⟨⟨1572921,[],[]⟩,?_⟩;conv=>whnf
  rw [hw,hgl]
  exact hZ1 (c+1) hlt (by omega)
 have hge:c=cs.length:=by have:=of_decide_eq_false h3; omega
 conv=>whnf
 rw [hge]
 refine ⟨⟨26388279066681,[],[]⟩,?_⟩
 refine LoopW_ind _ (fun c:Nat=>(({ tmps:=[setR p ls cs,J,J,.own 3 [],vI 0,.own 5 [],J,J,J,J,J,J,J,J,J,J,J,J,J,J,J,J,J,J,J,J,J,J,J,J,J,J,J,J,J,J,J,J,J,J,J,J,J,vI cs.length,vI c,J,J,J,J,J,J,J,J,J,J,J,J,J,J,J,J,J,J,J,J,J,J,J,J,J,J,J,J,J,J,J,J,J,J,J,J,J,J,J,J,J,J,J,J,J,J,J,J,J,J,J,J,J,J,J,J,J,J,J,J,J,J,J,J,J,J,J,J,J,J,J,J,J,J,J,J,J,J,J,J,J,J,J,J,J,J,J,J],seg:=[(3,.cells [.arr (S:=S) U.row6 4 P]),(5,.cells [.arr (S:=S) U.row6 4 (atU P ls.length cs.length c)])],up:=[] }:St S))) (fun c:Nat=>(c≤cs.length)) (fun c:Nat=>(cs.length - c)) () ?_ 0 (Nat.zero_le _)
 intro c hi Z2 hZ2
 conv=>whnf
 apply bc9<;>intro h12
 ·have hlt:c < cs.length:=by have:=of_decide_eq_true h12; omega
  have hw:=wrap_nat (n:=c) (by omega)
  conv=>whnf
  refine ⟨⟨13537187161178425,[],[]⟩,?_⟩
  refine LoopW_ind _ (fun l:Nat=>(({ tmps:=[setR p ls cs,J,J,.own 3 [],vI 0,.own 5 [],J,J,vI c,J,J,J,J,J,J,J,J,J,J,J,J,J,J,J,J,J,J,J,J,J,J,J,J,J,J,J,J,J,J,J,J,J,J,vI cs.length,vI c,J,J,J,J,J,J,J,vI ls.length,vI l,J,J,J,J,J,J,J,J,J,J,J,J,J,J,J,J,J,J,J,J,J,J,J,J,J,J,J,J,J,J,J,J,J,J,J,J,J,J,J,J,J,J,J,J,J,J,J,J,J,J,J,J,J,J,J,J,J,J,J,J,J,J,J,J,J,J,J,J,J,J,J,J,J,J,J,J,J,J,J],seg:=[(3,.cells [.arr (S:=S) U.row6 4 P]),(5,.cells [.arr (S:=S) U.row6 4 (atR P (atU P ls.length cs.length c) c l)])],up:=[] }:St S))) (fun l:Nat=>(l≤ls.length)) (fun l:Nat=>(ls.length - l)) () ?_ 0 (Nat.zero_le _)
  intro l hl Z3 hZ3
  conv=>whnf
  apply bc9<;>intro h15
  ·have hll:l < ls.length:=by have:=of_decide_eq_true h15; omega
   have hwl:=wrap_nat (n:=l) (by omega)
   conv=>whnf
   have hA:=atR_ok (P:=P) (atU_ok P ls.length cs.length c) c l
   have hPe:=hP.e c l
   have hPt:=hP.t
   refine ⟨by omega,by omega,?_⟩;conv=>whnf
   refine ⟨by omega,by omega,?_⟩;conv=>whnf
   refine ⟨_,getI_DD (by rw [hPt.len]; omega),?_⟩;conv=>whnf
   refine ⟨_,getI_D (by rw [hPt.row _ (by omega)]; omega),?_⟩;conv=>whnf
   apply bc9<;>intro h17
   ·have h17:get2 P c l≠-1:=by have h17:(get2 P c l != -1)=true:=h17; simpa using h17
    obtain ⟨d,hd⟩:∃ d:Nat,get2 P c l=(d:Int):=⟨(get2 P c l).toNat,by omega⟩
    conv=>whnf
    refine ⟨by omega,by omega,?_⟩;conv=>whnf
    refine ⟨by omega,by omega,?_⟩;conv=>whnf
    refine ⟨_,getI_DD (by rw [hPt.len]; omega),?_⟩;conv=>whnf
    refine ⟨(d:Int),by rw [getI_D (by rw [hPt.row _ (by omega)]; omega)]; exact congrArg some hd,?_⟩;conv=>whnf
    refine ⟨by omega,by omega,?_⟩;conv=>whnf
    refine ⟨by omega,by omega,?_⟩;conv=>whnf
    refine ⟨_,getI_DD (by rw [hA.len]; omega),?_⟩;conv=>whnf
    refine ⟨_,getI_D (by rw [hA.row _ (by omega)]; omega),?_⟩;conv=>whnf
    refine ⟨_,rfl,?_⟩;conv=>whnf
    refine ⟨_,rfl,?_⟩;conv=>whnf
    refine ⟨⟨13537187161178425,[],[]⟩,?_⟩;conv=>whnf
    rw [hwl]
    have hz:=hZ3 (l+1) hll (by omega)
    rw [atR,if_pos h17,hd,Int.toNat_natCast] at hz
    exact hz
   have h17:¬ get2 P c l≠-1:=by have h17:(get2 P c l != -1)=false:=h17; simpa using h17
   conv=>whnf
   refine ⟨⟨13537187161178425,[],[]⟩,?_⟩;conv=>whnf
   rw [hwl]
   have hz:=hZ3 (l+1) hll (by omega)
   rw [atR,if_neg h17] at hz
   exact hz
  have hgl:l=ls.length:=by have:=of_decide_eq_false h15; omega
  conv=>whnf
  refine ⟨⟨26388279066681,[],[]⟩,?_⟩;conv=>whnf
  rw [hw,hgl]
  exact hZ2 (c+1) hlt (by omega)
 have hge:c=cs.length:=by have:=of_decide_eq_false h12; omega
 conv=>whnf
 rw [hge]
 refine ⟨⟨1057810092162800527867953,[3],[]⟩,?_⟩
 refine LoopW_ind _ (fun c:Nat=>(({ tmps:=[setR p ls cs,J,J,J,vI (cutU ls cs (atA ls cs P) c),.own 5 [],J,J,J,J,J,J,J,J,J,J,J,J,J,J,J,J,J,J,J,J,J,J,J,J,J,J,J,J,J,J,J,J,J,J,J,J,J,J,J,J,J,J,J,J,J,J,J,J,J,J,J,J,J,J,J,J,J,J,J,J,J,J,J,J,J,J,J,J,J,J,J,cpsV cs,vI cs.length,vI c,J,J,J,J,J,J,J,J,J,J,J,J,J,J,J,J,J,J,J,J,J,J,J,J,J,J,J,J,J,J,J,J,J,J,J,J,J,J,J,J,J,J,J,J,J,J,J,J,J,J,J,J,J],seg:=[(5,.cells [.arr (S:=S) U.row6 4 (atA ls cs P)])],up:=[] }:St S))) (fun c:Nat=>(c≤cs.length)) (fun c:Nat=>(cs.length - c)) () ?_ 0 (Nat.zero_le _)
 intro c hi Z3 hZ3
 conv=>whnf
 apply bc9<;>intro h22
 ·have hlt:c < cs.length:=by have:=of_decide_eq_true h22; omega
  have hw:=wrap_nat (n:=c) (by omega)
  conv=>whnf
  have hA:=atU_ok P ls.length cs.length cs.length
  have hgc:cs.getD c cp0=cs[c]:=getD_at hlt
  have hcl:=(hV.cp hlt).2.1
  have hcu:=cutU_le hn6 cs (atA ls cs P) c
  refine ⟨_,getI_nat hlt,?_⟩;conv=>whnf
  refine ⟨⟨2167452878841578281601338417,[2011],[2011]⟩,?_⟩
  refine LoopW_ind _ (fun l:Nat=>(({ tmps:=[setR p ls cs,J,J,J,vI (cutU ls cs (atA ls cs P) c+cutR ls cs (atA ls cs P) c l:Nat),.own 5 [],J,J,J,J,vI c,.own 11 [],J,J,J,J,J,J,J,J,J,J,J,J,J,J,J,J,J,J,J,J,J,J,J,J,J,J,J,J,J,J,J,J,J,J,J,J,J,J,J,J,J,J,J,J,J,J,J,J,J,J,J,J,J,J,J,J,J,J,J,J,J,J,J,J,J,cpsV cs,vI cs.length,vI c,J,J,J,J,J,J,J,J,lfsV ls,vI ls.length,vI l,J,J,J,J,J,J,J,J,J,J,J,J,J,J,J,J,J,J,J,J,J,J,J,J,J,J,J,J,J,J,J,J,J,J,J,J,J,J,J,J,J,J],seg:=[(5,.cells [.arr (S:=S) U.row6 4 (atA ls cs P)]),(11,.cells (cpC cs[c]))],up:=[] }:St S))) (fun l:Nat=>(l≤ls.length)) (fun l:Nat=>(ls.length - l)) () ?_ 0 (Nat.zero_le _)
  intro l hl Z4 hZ4
  conv=>whnf
  apply bc9<;>intro h25
  ·have hll:l < ls.length:=by have:=of_decide_eq_true h25; omega
   have hwl:=wrap_nat (n:=l) (by omega)
   conv=>whnf
   have hlf:=hV.lf hll
   have hcr:=cutR_le ls cs (atA ls cs P) c l
   have hgl0:ls.getD l lf0=ls[l]:=getD_at hll
   refine ⟨_,getI_nat hll,?_⟩;conv=>whnf
   refine ⟨[0,1,2,3,4,5,6,7,8,9,10,11,12,13,14,15,16,17,18,19,20,21,22,23,24,25,26,27,28,29,30,31,32],[],[],[],⟨10889035741470030830827987437816582766591,[],[]⟩,by decide +kernel,?_⟩;conv=>whnf
   apply bc9<;>intro g27_4
   ·have g3:decide (ls[l].2.1 > (l:Int))=true:=g27_4
    have g3a:=of_decide_eq_true g3
    obtain ⟨y,hy⟩:∃ y:Nat,ls[l].2.1=(y:Int):=⟨ls[l].2.1.toNat,by omega⟩
    have hyn:y < ls.length:=by omega
    have hh1:=hV.has hlt hll
    have hh2:=hV.has hlt hyn
    have hl2:l < cs[c].2.length:=by omega
    have hy2:y < cs[c].2.length:=by omega
    have hk1:cs[c].2[l]=hasI cs c l:=by unfold hasI; rw [hgc,getD_at hl2]
    have hk2:cs[c].2[y]=hasI cs c y:=by unfold hasI; rw [hgc,getD_at hy2]
    have hmb:0≤hasI cs c l * hasI cs c y∧hasI cs c l * hasI cs c y≤2 * 2:=⟨Int.mul_nonneg hh1.1 hh2.1,Int.mul_le_mul hh1.2 hh2.2 hh2.1 (by omega)⟩
    have hwm:IntKind.i64.wrap (hasI cs c l * hasI cs c y)=hasI cs c l * hasI cs c y:=wrap_int (by omega) (by omega)
    conv=>whnf
    refine ⟨hasI cs c l,by rw [getI_nat hl2,hk1],?_⟩;conv=>whnf
    refine ⟨hasI cs c y,by rw [hy,getI_nat hy2,hk2],?_⟩;conv=>whnf
    apply bc9<;>intro g27_19
    ·have g19:=g27_19
     rw [hwm] at g19
     have hcb:cutB ls cs (atA ls cs P) c l=(get2 (atA ls cs P) c l != get2 (atA ls cs P) c y):=by unfold cutB; rw [hgl0,g3,hy,Int.toNat_natCast]; rw [show decide (hasI cs c l * hasI cs c y > 0)=true from g19]; rfl
     conv=>whnf
     refine ⟨by omega,by omega,?_⟩;conv=>whnf
     refine ⟨by omega,by omega,?_⟩;conv=>whnf
     refine ⟨_,getI_DD (by rw [hA.len]; omega),?_⟩;conv=>whnf
     refine ⟨get2 (atA ls cs P) c l,getI_D (by rw [hA.row _ (by omega)]; omega),?_⟩;conv=>whnf
     refine ⟨by omega,by omega,?_⟩;conv=>whnf
     refine ⟨by omega,by omega,?_⟩;conv=>whnf
     refine ⟨_,getI_DD (by rw [hA.len]; omega),?_⟩;conv=>whnf
     refine ⟨get2 (atA ls cs P) c y,by rw [hy]; exact getI_D (by rw [hA.row _ (by omega)]; omega),?_⟩;conv=>whnf
     apply bc9<;>intro h27
     ·rw [show (get2 (atA ls cs P) c l != get2 (atA ls cs P) c y)=true from h27] at hcb
      have hwn:IntKind.i64.wrap (((cutU ls cs (atA ls cs P) c+cutR ls cs (atA ls cs P) c l:Nat):Int)+1)=((cutU ls cs (atA ls cs P) c+cutR ls cs (atA ls cs P) c l+1:Nat):Int):=wrap_nat (by omega)
      conv=>whnf
      refine ⟨⟨2167452878841578281601338417,[13,1013,2013,3013,4013],[]⟩,?_⟩;conv=>whnf
      rw [hwl,hwn]
      have hz:=hZ4 (l+1) hll (by omega)
      rw [cutR,if_pos hcb,←Nat.add_assoc] at hz
      exact hz
     rw [show (get2 (atA ls cs P) c l != get2 (atA ls cs P) c y)=false from h27] at hcb
     conv=>whnf
     refine ⟨⟨2167452878841578281601338417,[13,1013,2013,3013,4013],[]⟩,?_⟩;conv=>whnf
     rw [hwl]
     have hz:=hZ4 (l+1) hll (by omega)
     rw [cutR,hcb,if_neg (by simp),Nat.add_zero] at hz
     exact hz
    have g19:=g27_19
    rw [hwm] at g19
    have hcb:cutB ls cs (atA ls cs P) c l=false:=by unfold cutB; rw [hgl0,g3,hy,Int.toNat_natCast]; rw [show decide (hasI cs c l * hasI cs c y > 0)=false from g19]; rfl
    conv=>whnf
    refine ⟨⟨2167452878841578281601338417,[13,1013,2013,3013,4013],[]⟩,?_⟩;conv=>whnf
    rw [hwl]
    have hz:=hZ4 (l+1) hll (by omega)
    rw [cutR,hcb,if_neg (by simp),Nat.add_zero] at hz
    exact hz
   have g3:decide (ls[l].2.1 > (l:Int))=false:=g27_4
   have hcb:cutB ls cs (atA ls cs P) c l=false:=by unfold cutB; rw [hgl0,g3]; rfl
   conv=>whnf
   refine ⟨⟨2167452878841578281601338417,[13,1013,2013,3013,4013],[]⟩,?_⟩;conv=>whnf
   rw [hwl]
   have hz:=hZ4 (l+1) hll (by omega)
   rw [cutR,hcb,if_neg (by simp),Nat.add_zero] at hz
   exact hz
  have hgl:l=ls.length:=by have:=of_decide_eq_false h25; omega
  conv=>whnf
  refine ⟨⟨1057810092162800527867953,[11,13,1011,1013,2011,2013,3011,3013,4011,4013],[]⟩,?_⟩;conv=>whnf
  rw [hw,hgl]
  exact hZ3 (c+1) hlt (by omega)
 have hge:c=cs.length:=by have:=of_decide_eq_false h22; omega
 conv=>whnf
 rw [hge]
 rfl
theorem op91:Opens PR 91:=⟨_,Tryd.func91,rfl,rfl⟩
abbrev Way:=Tb×Int×Int
abbrev wayC (w:Way):List (AV S):=[.arr (S:=S) U.row6 4 w.1,vI w.2.1,vI w.2.2]
abbrev wayV (w:Way):AV S:=.agg (wayC w)
def rwC (n:Nat) (P Q:Tb) (c:Nat):Int:=cmpL cmpI ((P.getD c []).take n) ((Q.getD c []).take n)
def rowsB (n:Nat) (P Q:Tb) (m:Nat):Bool:=match (List.range m).find? (fun c=>rwC n P Q c != 0) with
 | some c=>decide (rwC n P Q c < 0)
 | none=>false
theorem rows_hit {n:Nat} {P Q:Tb} {m c:Nat} (hc:c < m) (h1:∀ j,j < c→rwC n P Q j=0) (h2:rwC n P Q c≠0):rowsB n P Q m=decide (rwC n P Q c < 0):=by
 have:(List.range m).find? (fun c=>rwC n P Q c != 0)=some c:=by
  rw [List.find?_range_eq_some]
  exact ⟨by simpa using h2,List.mem_range.2 hc,fun j hj=>by simpa using h1 j hj⟩
 unfold rowsB; rw [this]
theorem rows_no {n:Nat} {P Q:Tb} {m:Nat} (h1:∀ j,j < m→rwC n P Q j=0):rowsB n P Q m=false:=by
 have:(List.range m).find? (fun c=>rwC n P Q c != 0)=none:=by
  rw [List.find?_range_eq_none]; intro j hj; simpa using h1 j hj
 unfold rowsB; rw [this]
def betB (n m:Nat) (v w:Way):Bool:=if v.2.1 != w.2.1 then decide (v.2.1 < w.2.1) else if v.2.2 != w.2.2 then decide (v.2.2 < w.2.2) else rowsB n v.1 w.1 m
theorem c92 (p:Int) (ls:List Lf) (cs:List Cp) (hV:Valid p ls cs) (v w:Way) (hPv:Tb46 v.1) (hPw:Tb46 w.1):PCalls PR glT 92 [setR p ls cs,.agg [.clo (.func 86) [] [],.clo (.func 87) [] []],.agg [.arr (S:=S) U.row6 4 v.1,vI v.2.1,vI v.2.2],.agg [.arr (S:=S) U.row6 4 w.1,vI w.2.1,vI w.2.2]] fun r=>r=vB (betB ls.length cs.length v w):=by
 have hm1:=hV.m1
 have hm4:=hV.m4
 have hn1:=hV.n1
 have hn6:=hV.n6
 refine fnW_sound (par_ok glT) Tryd.func92 ?_;conv=>whnf
 refine ⟨_,rfl,?_⟩;conv=>whnf
 refine ⟨_,rfl,?_⟩;conv=>whnf
 refine ⟨⟨917697,[5],[]⟩,?_⟩
 refine LoopW_ind _ (fun i:Nat=>(({ tmps:=[setR p ls cs,J,J,J,J,J,.own 6 [],.own 7 [],J,J,J,J,J,J,J,J,J,.sl (S:=S) U.fn [86,87] (some 17),vI 2,vI i,J,J,J,J,J,J,J,J,J,J,J,J,J,J,J,J,J,J,J,J,J,J,J,J,J,J,J,J,J,J,J,J,J,J,J,J,J,J,J,J,J,J,J,J,J,J,J,J,J,J,J,J,J],seg:=[(6,.cells (wayC v)),(7,.cells (wayC w)),(17,.row U.fn false)],up:=[] }:St S))) (fun i:Nat=>(i≤2∧(1≤i→v.2.1=w.2.1)∧(2≤i→v.2.2=w.2.2))) (fun i:Nat=>(2 - i)) () ?_ 0 ⟨Nat.zero_le _,fun h=>absurd h (by decide),fun h=>absurd h (by decide)⟩
 intro i hinv Z1 hZ1
 obtain ⟨hi,hi1,hi2⟩:=hinv
 conv=>whnf
 apply bc9<;>intro h2
 ·have hlt:i < 2:=by have h2:decide ((i:Int) < 2)=true:=h2; have:=of_decide_eq_true h2; omega
  have hw:=wrap_nat (n:=i) (by omega)
  conv=>whnf
  rcases (show i=0∨i=1 by omega) with rfl | rfl
  ·refine ⟨_,(rfl:getI [86,87] ((0:Nat):Int)=some 86),?_⟩
   have hF:=fun w:Way=>c86 glT w
   have hO:=op86
   have hk:∀ w:Way,w.2.1=w.2.1:=fun _=>rfl
   conv=>whnf
   refine ⟨[0,1,3,4,2,5,6],[],[],[],⟨9444732965739290427391,[],[]⟩,by decide +kernel,?_⟩;conv=>whnf
   refine byC (hF v) hO ?_;conv=>whnf
   refine byC (hF w) hO ?_;conv=>whnf
   apply bc9<;>intro h4
   ·have h4:(v.2.1 != w.2.1)=true:=h4
    conv=>whnf
    refine ⟨[0,1,3,4,2,5,6,7],[],[],[],⟨9444732965739290427391,[],[]⟩,by decide +kernel,?_⟩;conv=>whnf
    refine byC (hF v) hO ?_;conv=>whnf
    refine byC (hF w) hO ?_;conv=>whnf
    unfold betB
    rw [if_pos h4]
   have h4:(v.2.1 != w.2.1)=false:=h4
   have h4:v.2.1=w.2.1:=by simpa using h4
   conv=>whnf
   refine ⟨⟨917697,[],[]⟩,?_⟩;conv=>whnf
   rw [hw]
   exact hZ1 (0+1) ⟨hlt,fun _=>h4,fun h=>absurd h (by omega)⟩ (by omega)
  refine ⟨_,(rfl:getI [86,87] ((1:Nat):Int)=some 87),?_⟩
  have hF:=fun w:Way=>c87 glT w
  have hO:=op87
  conv=>whnf
  refine ⟨[0,1,3,4,2,5,6],[],[],[],⟨9444732965739290427391,[],[]⟩,by decide +kernel,?_⟩;conv=>whnf
  refine byC (hF v) hO ?_;conv=>whnf
  refine byC (hF w) hO ?_;conv=>whnf
  apply bc9<;>intro h4
  ·have h4:(v.2.2 != w.2.2)=true:=h4
   conv=>whnf
   refine ⟨[0,1,3,4,2,5,6,7],[],[],[],⟨9444732965739290427391,[],[]⟩,by decide +kernel,?_⟩;conv=>whnf
   refine byC (hF v) hO ?_;conv=>whnf
   refine byC (hF w) hO ?_;conv=>whnf
   unfold betB
   rw [if_neg (by rw [hi1 (by omega)]; simp),if_pos h4]
  have h4:(v.2.2 != w.2.2)=false:=h4
  have h4:v.2.2=w.2.2:=by simpa using h4
  conv=>whnf
  refine ⟨⟨917697,[],[]⟩,?_⟩;conv=>whnf
  rw [hw]
  exact hZ1 (1+1) ⟨hlt,fun _=>hi1 (by omega),fun _=>h4⟩ (by omega)
 have hge:i=2:=by have h2:decide ((i:Int) < 2)=false:=h2; have:=of_decide_eq_false h2; omega
 have he1:=hi1 (by omega)
 have he2:=hi2 (by omega)
 conv=>whnf
 refine ⟨⟨26388279066817,[17],[6,7]⟩,?_⟩
 refine LoopW_ind _ (fun c:Nat=>(({ tmps:=[setR p ls cs,J,J,J,J,J,.own 6 [],.own 7 [],J,J,J,J,J,J,J,J,J,J,J,J,J,J,J,J,J,J,J,J,J,J,J,J,J,J,J,J,J,J,J,J,J,J,J,vI cs.length,vI c,J,J,J,J,J,J,J,J,J,J,J,J,J,J,J,J,J,J,J,J,J,J,J,J,J,J,J,J],seg:=[(6,.frz (wayC v)),(7,.frz (wayC w))],up:=[] }:St S))) (fun c:Nat=>(c≤cs.length∧∀ j,j < c→rwC ls.length v.1 w.1 j=0)) (fun c:Nat=>(cs.length - c)) () ?_ 0 ⟨Nat.zero_le _,fun j h=>absurd h (Nat.not_lt_zero j)⟩
 intro c hinv Z2 hZ2
 obtain ⟨hc,hd⟩:=hinv
 conv=>whnf
 apply bc9<;>intro h8
 ·have hcl:c < cs.length:=by have:=of_decide_eq_true h8; omega
  have hwc:=wrap_nat (n:=c) (by omega)
  conv=>whnf
  refine ⟨[0,1,2,3,4,5,6,7,8,9,10,11,12,13,14,15,16,17,18,19,20,21],[],[],[],⟨9444732965739290427391,[],[]⟩,by decide +kernel,?_⟩;conv=>whnf
  refine ⟨by omega,by omega,?_⟩;conv=>whnf
  refine ⟨_,getI_DD (by rw [hPv.len]; omega),?_⟩;conv=>whnf
  refine ⟨by omega,?_⟩;conv=>whnf
  refine ⟨by omega,by omega,?_⟩;conv=>whnf
  refine ⟨by omega,by omega,?_⟩;conv=>whnf
  refine ⟨_,getI_DD (by rw [hPw.len]; omega),?_⟩;conv=>whnf
  refine ⟨by omega,?_⟩;conv=>whnf
  refine ⟨by omega,by omega,?_⟩;conv=>whnf
  refine byC (c106 glT ((v.1.getD c []).take ls.length) ((w.1.getD c []).take ls.length) (by rw [List.length_take]; omega) (by rw [List.length_take]; omega)) op106 ?_;conv=>whnf
  apply bc9<;>intro h11
  ·have h11:rwC ls.length v.1 w.1 c≠0:=by have h11:(rwC ls.length v.1 w.1 c != 0)=true:=h11; simpa using h11
   conv=>whnf
   unfold betB
   rw [if_neg (by rw [he1]; simp),if_neg (by rw [he2]; simp),rows_hit hcl hd h11]
   rfl
  have h11:rwC ls.length v.1 w.1 c=0:=by have h11:(rwC ls.length v.1 w.1 c != 0)=false:=h11; simpa using h11
  conv=>whnf
  refine ⟨⟨26388279066817,[],[]⟩,?_⟩;conv=>whnf
  rw [hwc]
  exact hZ2 (c+1) ⟨hcl,up_succ hd h11⟩ (by omega)
 have hcg:c=cs.length:=by have:=of_decide_eq_false h8; omega
 conv=>whnf
 unfold betB
 rw [if_neg (by rw [he1]; simp),if_neg (by rw [he2]; simp),rows_no (by rw [←hcg]; exact hd)]
theorem op92:Opens PR 92:=⟨_,Tryd.func92,rfl,rfl⟩
theorem nats_set (l:List Nat) (t v:Nat):setI (natsV l) (t:Int) (v:Int)=natsV (l.set t v):=by
 show (natsV l).set t v=_
 simp [natsV,List.map_set]
theorem getI_natsD {l:List Nat} {i:Nat} (h:i < l.length):getI (natsV l) (i:Int)=some ((l.getD i 0:Nat):Int):=by rw [getI_nats h,getD_at h]
theorem bit0 {a i:Nat} (ha:a < 2 ^ 63) (h:i < 64):(bitsI .and .i64 (shrI .i64 (a:Int) (i:Int)) 1==0)=!a.testBit i:=by
 rw [bit_eq ha h]; cases a.testBit i <;> rfl
theorem cbInv {Y:Type} {K:Bool→Y→Prop} {r:AV S} {y:Y} (h:match r with | .bool b=>(match b with | true=>K true y | false=>K false y) | _=>False):∃ b,r=.bool b∧K b y:=by
 cases r with
 | bool b=>exact ⟨b,rfl,by cases b <;> exact h⟩
 | _=>exact h.elim
theorem set2_set2 {A:Tb} (h:Tb46 A) {c l:Nat} (hc:c < 4) (a b:Int):set2 (set2 A c l a) c l b=set2 A c l b:=by
 unfold set2
 rw [getD_set_self (by rw [h.len]; exact hc),List.set_set,List.set_set]
theorem tb_ext {A B:Tb} (hA:Tb46 A) (hB:Tb46 B) (h:∀ c l,get2 A c l=get2 B c l):A=B:=by
 apply List.ext_getElem (by rw [hA.len,hB.len])
 intro c h1 h2
 have hc:c < 4:=by rw [hA.len] at h1; exact h1
 have ha:=hA.row c hc
 have hb:=hB.row c hc
 have e:∀ l,get2 A c l=get2 B c l:=h c
 unfold get2 at e
 rw [getD_at h1] at ha e
 rw [getD_at h2] at hb e
 apply List.ext_getElem (by rw [ha,hb])
 intro l h3 h4
 have:=e l
 rw [getD_at h3,getD_at h4] at this
 exact this
def leafR (cs:List Cp) (H:List Int) (g:List Nat) (Q:Tb) (c:Nat):Nat→Tb
 | 0=>Q
 | l+1=>if H.getD c 0 > 0 then leafR cs H g Q c l else set2 (leafR cs H g Q c l) c l (if decide (hasI cs c l > 0)&&!(g.getD c 0).testBit l then (c:Int) else -1)
def leafU (n:Nat) (cs:List Cp) (H:List Int) (g:List Nat) (P:Tb):Nat→Tb
 | 0=>P
 | c+1=>leafR cs H g (leafU n cs H g P c) c n
theorem leafR_ok {cs:List Cp} {H:List Int} {g:List Nat} {Q:Tb} (h:Tb46 Q) (c:Nat):∀ l,Tb46 (leafR cs H g Q c l)
 | 0=>h
 | l+1=>by
  simp only [leafR]
  split
  ·exact leafR_ok h c l
  exact (leafR_ok h c l).set2 _ _ _
theorem leafU_ok {n:Nat} {cs:List Cp} {H:List Int} {g:List Nat} {P:Tb} (h:Tb46 P):∀ c,Tb46 (leafU n cs H g P c)
 | 0=>h
 | c+1=>leafR_ok (leafU_ok h c) c n
def planR (n:Nat) (cs:List Cp) (H:List Int) (i:Nat) (cont:Tb→List Nat→List Tb):Nat→Tb→List Nat→List Tb
 | 0,P,g=>cont P g
 | r+1,P,g=>if H.getD i 0=0 then cont P g
  else if (havN cs (n - (r+1)) (H.getD i 0)).testBit i then planR n cs H i cont r (set2 P i (n - (r+1)) (i:Int)) g
  else (bitsL (havN cs (n - (r+1)) (H.getD i 0))).flatMap fun d=>if (H.getD d 0==H.getD i 0||(g.getD d 0).testBit (n - (r+1)))=true then [] else planR n cs H i cont r (set2 P i (n - (r+1)) (d:Int)) (g.set d (g.getD d 0 ||| 2 ^ (n - (r+1))))
def planS (n:Nat) (cs:List Cp) (H:List Int):Nat→Nat→Tb→List Nat→List Tb
 | 0,_,P,g=>[leafU n cs H g P cs.length]
 | s+1,r,P,g=>planR n cs H (cs.length - (s+1)) (fun P g=>planS n cs H s n P g) r P g
def planA (n:Nat) (cs:List Cp) (H:List Int):List Tb:=planS n cs H cs.length n z46 [0,0,0,0]
def later (n m:Nat) (H:List Int) (i l c x:Nat):Prop:=c < m∧x < n∧H.getD c 0≠0∧(i < c∨i=c∧l≤x)
structure CurT (n m:Nat) (H:List Int) (i l:Nat) (P cur:Tb):Prop where
 p:Tb46 P
 t:Tb46 cur
 e:∀ c x,¬ later n m H i l c x→get2 cur c x=get2 P c x
section
variable {n m:Nat} {H:List Int} {i l:Nat} {P cur:Tb}
theorem CurT.set (h:CurT n m H i l P cur) (hi:i < m) (hm:m≤4) (hl:l < n) (hn:n≤6) (v:Int):CurT n m H i (l+1) (set2 P i l v) (set2 cur i l v):=by
 refine ⟨h.p.set2 _ _ _,h.t.set2 _ _ _,fun c x hc=>?_⟩
 rw [get2_set2 h.t (by omega) (by omega),get2_set2 h.p (by omega) (by omega)]
 by_cases e:i=c∧l=x
 ·rw [if_pos e,if_pos e]
 rw [if_neg e,if_neg e]
 refine h.e c x fun h'=>hc ?_
 obtain ⟨h1,h2,h3,h4⟩:=h'
 exact ⟨h1,h2,h3,by omega⟩
theorem CurT.back {v:Int} (h:CurT n m H i (l+1) (set2 P i l v) cur) (hP:Tb46 P) (hi:i < m) (hm:m≤4) (hl:l < n) (hn:n≤6) (hH:H.getD i 0≠0):CurT n m H i l P cur:=by
 refine ⟨hP,h.t,fun c x hc=>?_⟩
 have hne:¬ (i=c∧l=x):=fun ⟨e1,e2⟩=>hc (by subst e1; subst e2; exact ⟨hi,hl,hH,.inr ⟨rfl,Nat.le_refl _⟩⟩)
 rw [h.e c x fun h'=>hc ?_,get2_set2 hP (by omega) (by omega),if_neg hne]
 obtain ⟨h1,h2,h3,h4⟩:=h'
 exact ⟨h1,h2,h3,by omega⟩
theorem later_next (hl:l=n∨H.getD i 0=0) (c x:Nat):later n m H (i+1) 0 c x↔later n m H i l c x:=by
 unfold later
 constructor
 ·rintro ⟨h1,h2,h3,h4⟩; exact ⟨h1,h2,h3,by omega⟩
 rintro ⟨h1,h2,h3,h4⟩
 refine ⟨h1,h2,h3,?_⟩
 rcases h4 with h4 | ⟨h4,h5⟩
 ·omega
 subst h4
 rcases hl with hl | hl
 ·omega
 exact absurd hl h3
theorem CurT.next (hl:l=n∨H.getD i 0=0):CurT n m H i l P cur↔CurT n m H (i+1) 0 P cur :=
 ⟨fun h=>⟨h.p,h.t,fun c x hc=>h.e c x fun h'=>hc ((later_next hl c x).2 h')⟩,fun h=>⟨h.p,h.t,fun c x hc=>h.e c x fun h'=>hc ((later_next hl c x).1 h')⟩⟩
theorem CurT.done (h:CurT n m H m l P cur):cur=P:=tb_ext h.t h.p fun c x=>h.e c x fun ⟨h1,_,_,h4⟩=>by omega
end
abbrev fillP (p:Int) (ls:List Lf) (cs:List Cp) (H:List Int):AV S:=.clo (.func 135) [] [.ref [setR p ls cs],.up 4 [],.ref [.arr (S:=S) U.int 4 H],.up 5 [],.up 3 [],.up 6 []]
abbrev upsP (p:Int) (ls:List Lf) (cs:List Cp) (H:List Int) (P:Tb) (g:List Nat):List (Nat×AO S):=[(3,.cells [.cb]),(4,.cells [.arr (S:=S) U.row6 4 P]),(5,.cells [.arr (S:=S) U.int 4 (natsV g)]),(6,.cells [fillP p ls cs H])]
theorem op135:Opens PR 135:=⟨_,Tryd.func135,rfl,rfl⟩
theorem u135 (Y:Type) (B:List (AV S)→Y→(AV S→Y→Prop)→Prop) (hm:BMono B) (p:Int) (ls:List Lf) (cs:List Cp) (hV:Valid p ls cs) (H:List Int) (hH:H.length=4) :
  ∀ (N s r i l:Nat),s * (ls.length+1)+r=N→i+s=cs.length→l+r=ls.length→∀ (P cur:Tb) (g:List Nat),CurT ls.length cs.length H i l P cur→g.length=4→(∀ q,g.getD q 0 < 2 ^ 6)→∀ (y:Y) (Q:AV S→List (Nat×AO S)→Y→Prop),
  eachR B ((planS ls.length cs H s r P g).map (fun q:Tb=>[.agg [.arr (S:=S) U.row6 4 q]])) y (fun b y'=>∀ cur' g',CurT ls.length cs.length H i l P cur'→(b=true→g'=g)→Q (.bool b) (upsP p ls cs H cur' g') y')→∀ En:Env Y,CbOk PR glT En B →
  UCalls PR glT En 135 [vI i,vI l,.ref [setR p ls cs],.up 4 [],.ref [.arr (S:=S) U.int 4 H],.up 5 [],.up 3 [],.up 6 []] (upsP p ls cs H cur g) y Q:=by
 have hm1:=hV.m1
 have hm4:=hV.m4
 have hn1:=hV.n1
 have hn6:=hV.n6
 intro N
 refine Nat.strongRecOn N fun N IH=>?_
 intro s r i l hN his hlr P cur g hc hg hgb y Q hq En hB
 have h26:(2:Nat) ^ 6=64:=rfl
 have h63:(2:Nat) ^ 63=9223372036854775808:=rfl
 refine fnU_sound (pb_ok glT Y B En hB) Tryd.func135 ?_;conv=>whnf
 apply bc9<;>intro h1
 ·have h1:i=cs.length:=by have h1:((i:Int)==(cs.length:Int))=true:=h1; have:=eq_of_beq h1; omega
  have hs0:s=0:=by omega
  subst hs0
  subst h1
  have hcd:=hc.done
  subst hcd
  have hct:=hc.t
  conv=>whnf
  refine ⟨⟨60129544304,[],[]⟩,?_⟩
  refine LoopW_indX _ (fun c:Nat=>(({ tmps:=[J,J,J,J,.ref [.arr (S:=S) U.int 4 H],.up 5 [],.up 3 [],J,J,J,J,.own 11 [],J,J,J,J,J,J,J,J,J,J,J,J,J,J,J,J,J,J,J,J,J,cpsV cs,vI cs.length,vI c,J,J,J,J,J,J,J,J,J,J,J,J,J,J,J,J,J,J,J,J,J,J,J,J,J,J,J,J,J,J,J,J,J,J,J,J,J,J,J,J,J,J,J,J,J,J,J,J,J,J,J,J,J,J,J,J,J,J,J,J,J,J,J,J,J,J,J,J,J,J,J,J,J,J,J,J,J,J,J,J,J,J,J,J,J,J,J,J,J,J,J,J,J,J,J,J,J,J,J,J,J,J,J,J,J,J,J,J,J,J,J,J,J,J,J,J,J,J,J,J,J,J,J,J,J,J,J,J,J,J,J,J,J,J],seg:=[(11,.cells [.arr (S:=S) U.row6 4 (leafU ls.length cs H g cur c)])],up:=upsP p ls cs H cur g }:St S))) (fun c:Nat=>(y)) (fun c:Nat=>(c≤cs.length)) (fun c:Nat=>(cs.length - c)) ?_ 0 (Nat.zero_le _)
  intro c hi Z1 hZ1
  conv=>whnf
  apply bc9<;>intro h4
  ·have hlt:c < cs.length:=by have:=of_decide_eq_true h4; omega
   have hw:=wrap_nat (n:=c) (by omega)
   conv=>whnf
   have hcl:=(hV.cp hlt).2.1
   have hgc:cs.getD c cp0=cs[c]:=getD_at hlt
   refine ⟨_,getI_nat hlt,?_⟩;conv=>whnf
   refine ⟨⟨15453292337264,[13,2013],[2013]⟩,?_⟩
   refine LoopW_indX _ (fun x:Nat=>(({ tmps:=[J,J,J,J,.ref [.arr (S:=S) U.int 4 H],.up 5 [],.up 3 [],J,J,J,J,.own 11 [],vI c,J,J,J,J,J,J,J,J,J,J,J,J,J,J,J,J,J,J,J,J,cpsV cs,vI cs.length,vI c,J,J,J,J,J,vL cs[c].2,vI cs[c].2.length,vI x,J,J,J,J,J,J,J,J,J,J,J,J,J,J,J,J,J,J,J,J,J,J,J,J,J,J,J,J,J,J,J,J,J,J,J,J,J,J,J,J,J,J,J,J,J,J,J,J,J,J,J,J,J,J,J,J,J,J,J,J,J,J,J,J,J,J,J,J,J,J,J,J,J,J,J,J,J,J,J,J,J,J,J,J,J,J,J,J,J,J,J,J,J,J,J,J,J,J,J,J,J,J,J,J,J,J,J,J,J,J,J,J,J,J,J,J,J,J,J,J,J,J,J,J,J,J],seg:=[(11,.cells [.arr (S:=S) U.row6 4 (leafR cs H g (leafU ls.length cs H g cur c) c x)])],up:=upsP p ls cs H cur g }:St S))) (fun x:Nat=>(y)) (fun x:Nat=>(x≤cs[c].2.length)) (fun x:Nat=>(cs[c].2.length - x)) ?_ 0 (Nat.zero_le _)
   intro x hx Z2 hZ2
   conv=>whnf
   apply bc9<;>intro h7
   ·have hlx:x < cs[c].2.length:=by have:=of_decide_eq_true h7; omega
    have hwx:=wrap_nat (n:=x) (by omega)
    conv=>whnf
    have hA:=leafR_ok (cs:=cs) (H:=H) (g:=g) (leafU_ok (n:=ls.length) (cs:=cs) (H:=H) (g:=g) hct c) c x
    have hk1:cs[c].2[x]=hasI cs c x:=by unfold hasI; rw [hgc,getD_at hlx]
    have hgbc:=hgb c
    refine ⟨_,getI_nat hlx,?_⟩;conv=>whnf
    refine ⟨_,getI_D (l:=H) (by omega),?_⟩;conv=>whnf
    apply bc9<;>intro h9
    ·have h9:H.getD c 0 > 0:=of_decide_eq_true h9
     conv=>whnf
     refine ⟨⟨15453292337264,[],[]⟩,?_⟩;conv=>whnf
     rw [hwx]
     have hz:=hZ2 (x+1) hlx (by omega)
     rw [leafR,if_pos h9] at hz
     exact hz
    have h9:¬ H.getD c 0 > 0:=of_decide_eq_false h9
    conv=>whnf
    refine ⟨by omega,by omega,?_⟩;conv=>whnf
    refine ⟨by omega,by omega,?_⟩;conv=>whnf
    refine ⟨_,getI_DD (by rw [hA.len]; omega),?_⟩;conv=>whnf
    refine ⟨_,getI_D (by rw [hA.row _ (by omega)]; omega),?_⟩;conv=>whnf
    refine ⟨_,rfl,?_⟩;conv=>whnf
    refine ⟨_,rfl,?_⟩;conv=>whnf
    apply bc9<;>intro g11_2
    ·have g2:decide (hasI cs c x > 0)=true:=by rw [←hk1]; exact g11_2
     conv=>whnf
     refine ⟨by omega,by omega,?_⟩;conv=>whnf
     refine ⟨_,getI_natsD (by omega),?_⟩;conv=>whnf
     refine ⟨Int.natCast_nonneg _,?_⟩;conv=>whnf
     apply bc9<;>intro h11
     ·have h11:(!(g.getD c 0).testBit x)=true:=by rw [←bit0 (by omega) (by omega)]; exact h11
      conv=>whnf
      have hA2:=hA.set2 c x (-1)
      refine ⟨by omega,by omega,?_⟩;conv=>whnf
      refine ⟨by omega,by omega,?_⟩;conv=>whnf
      refine ⟨_,getI_DD (l:=set2 (leafR cs H g (leafU ls.length cs H g cur c) c x) c x (-1)) (by rw [hA2.len]; omega),?_⟩;conv=>whnf
      refine ⟨_,getI_D (l:=(set2 (leafR cs H g (leafU ls.length cs H g cur c) c x) c x (-1)).getD c []) (by rw [hA2.row _ (by omega)]; omega),?_⟩;conv=>whnf
      refine ⟨_,rfl,?_⟩;conv=>whnf
      refine ⟨_,rfl,?_⟩;conv=>whnf
      refine ⟨⟨15453292337264,[],[]⟩,?_⟩;conv=>whnf
      rw [hwx]
      have hz:=hZ2 (x+1) hlx (by omega)
      rw [leafR,if_neg h9,g2,h11,if_pos (by rfl),←set2_set2 hA (by omega) (-1)] at hz
      exact hz
     have h11:(!(g.getD c 0).testBit x)=false:=by rw [←bit0 (by omega) (by omega)]; exact h11
     conv=>whnf
     refine ⟨⟨15453292337264,[],[]⟩,?_⟩;conv=>whnf
     rw [hwx]
     have hz:=hZ2 (x+1) hlx (by omega)
     rw [leafR,if_neg h9,g2,h11,if_neg (by decide)] at hz
     exact hz
    have g2:decide (hasI cs c x > 0)=false:=by rw [←hk1]; exact g11_2
    conv=>whnf
    refine ⟨⟨15453292337264,[],[]⟩,?_⟩;conv=>whnf
    rw [hwx]
    have hz:=hZ2 (x+1) hlx (by omega)
    rw [leafR,if_neg h9,g2,if_neg (by simp)] at hz
    exact hz
   have hgx:x=cs[c].2.length:=by have:=of_decide_eq_false h7; omega
   conv=>whnf
   refine ⟨⟨60129544304,[13,1013,2013,3013,4013],[]⟩,?_⟩;conv=>whnf
   rw [hw,hgx,hcl]
   exact hZ1 (c+1) hlt (by omega)
  have hge:c=cs.length:=by have:=of_decide_eq_false h4; omega
  conv=>whnf
  rw [hge]
  conv=>whnf
  refine hm _ _ _ _ (fun r y' hr=>?_) hq
  conv=>whnf
  obtain ⟨b,rfl,hb⟩:=cbInv (K:=fun b y'=>∀ cur' g',CurT ls.length cs.length H cs.length l cur cur'→(b=true→g'=g)→Q (.bool b) (upsP p ls cs H cur' g') y') hr
  conv=>whnf
  exact hb cur g hc fun _=>rfl
 have hin:i < cs.length:=by
  have h1:((i:Int)==(cs.length:Int))=false:=h1
  have:i≠cs.length:=fun e=>by rw [e] at h1; simp at h1
  omega
 obtain ⟨s,rfl⟩:∃ s',s=s'+1:=⟨s - 1,by omega⟩
 have hsi:cs.length - (s+1)=i:=by omega
 have hwi:=wrap_nat (n:=i) (by omega)
 have hsm:(s+1) * (ls.length+1)=s * (ls.length+1)+(ls.length+1):=Nat.succ_mul _ _
 rw [planS,hsi] at hq
 conv=>whnf
 apply bc9<;>intro g16_8
 ·have hle:l=ls.length:=by have h8:((l:Int)==(ls.length:Int))=true:=g16_8; have:=eq_of_beq h8; omega
  have hr0:r=0:=by omega
  subst hr0
  rw [planR] at hq
  have hnx:l=ls.length∨H.getD i 0=0:=.inl hle
  conv=>whnf
  refine ⟨fun En' hB'=>ucE (by rw [hwi]; rfl) rfl (IH (s * (ls.length+1)+ls.length) (by omega) s ls.length (i+1) 0 rfl (by omega) (by omega) P cur g ((CurT.next hnx).1 hc) hg hgb y _ ?_ En' hB'),op135⟩;conv=>whnf
  refine eachR_mono hm _ _ _ _ (fun b y' hb cur' g' hc' hg'=>?_) hq
  conv=>whnf
  exact hb cur' g' ((CurT.next hnx).2 hc') hg'
 have hln:l < ls.length:=by
  have h8:((l:Int)==(ls.length:Int))=false:=g16_8
  have:l≠ls.length:=fun e=>by rw [e] at h8; simp at h8
  omega
 obtain ⟨r,rfl⟩:∃ r',r=r'+1:=⟨r - 1,by omega⟩
 have hrl:ls.length - (r+1)=l:=by omega
 have hwl:=wrap_nat (n:=l) (by omega)
 rw [planR,hrl] at hq
 conv=>whnf
 refine ⟨_,getI_D (l:=H) (by omega),?_⟩;conv=>whnf
 apply bc9<;>intro h16
 ·have h16:H.getD i 0=0:=eq_of_beq (show (H.getD i 0==0)=true from h16)
  rw [if_pos h16] at hq
  have hnx:l=ls.length∨H.getD i 0=0:=.inr h16
  conv=>whnf
  refine ⟨fun En' hB'=>ucE (by rw [hwi]; rfl) rfl (IH (s * (ls.length+1)+ls.length) (by omega) s ls.length (i+1) 0 rfl (by omega) (by omega) P cur g ((CurT.next hnx).1 hc) hg hgb y _ ?_ En' hB'),op135⟩;conv=>whnf
  refine eachR_mono hm _ _ _ _ (fun b y' hb cur' g' hc' hg'=>?_) hq
  conv=>whnf
  exact hb cur' g' ((CurT.next hnx).2 hc') hg'
 have h16:H.getD i 0≠0:=fun e=>by have h16:(H.getD i 0==0)=false:=h16; rw [e] at h16; cases h16
 rw [if_neg h16] at hq
 conv=>whnf
 refine ⟨[0,1,2,3,4,5,6,7,8,9,10],[],[],[],⟨1496577676626844588240573268701473812127674924007423,[],[]⟩,by decide +kernel,?_⟩;conv=>whnf
 refine ⟨_,getI_D (l:=H) (by omega),?_⟩;conv=>whnf
 have hv4:=havN_lt hm4 l (H.getD i 0)
 have h24:(2:Nat) ^ 4=16:=rfl
 refine ⟨_,lkE _ _ _,?_⟩;conv=>whnf
 rw [lkR,havL_got hln]
 conv=>whnf
 refine ⟨Int.natCast_nonneg _,?_⟩;conv=>whnf
 apply bc9<;>intro h19
 ·have h19:(havN cs l (H.getD i 0)).testBit i=true:=by rw [←bitB (by omega) (by omega)]; exact h19
  rw [if_pos h19] at hq
  conv=>whnf
  have hct:=hc.t
  refine ⟨by omega,by omega,?_⟩;conv=>whnf
  refine ⟨by omega,by omega,?_⟩;conv=>whnf
  refine ⟨_,getI_DD (by rw [hct.len]; omega),?_⟩;conv=>whnf
  refine ⟨_,getI_D (by rw [hct.row _ (by omega)]; omega),?_⟩;conv=>whnf
  refine ⟨_,rfl,?_⟩;conv=>whnf
  refine ⟨_,rfl,?_⟩;conv=>whnf
  refine ⟨fun En' hB'=>ucE (by rw [hwl]) rfl (IH ((s+1) * (ls.length+1)+r) (by omega) (s+1) r i (l+1) rfl (by omega) (by omega) (set2 P i l (i:Int)) (set2 cur i l (i:Int)) g (hc.set hin hm4 hln hn6 _) hg hgb y _ ?_ En' hB'),op135⟩;conv=>whnf
  rw [planS,hsi]
  conv=>whnf
  refine eachR_mono hm _ _ _ _ (fun b y' hb cur' g' hc' hg'=>?_) hq
  conv=>whnf
  exact hb cur' g' (hc'.back hc.p hin hm4 hln hn6 h16) hg'
 have h19:(havN cs l (H.getD i 0)).testBit i=false:=by rw [←bitB (by omega) (by omega)]; exact h19
 rw [if_neg (by rw [h19]; decide)] at hq
 conv=>whnf
 refine byC (c79 (havN cs l (H.getD i 0)) (by omega)) op79 ?_;conv=>whnf
 have hnb:=natsV_len (bitsL (havN cs l (H.getD i 0)))
 have hbl:=bitsL_len (havN cs l (H.getD i 0))
 refine ⟨⟨37218383881977644441306597687849648315,[],[]⟩,?_⟩
 refine LoopW_indX _ (fun s9:Nat×Tb×Y=>match s9 with | (q,cur,y)=>(({ tmps:=[vI i,vI l,J,.up 4 [],.ref [.arr (S:=S) U.int 4 H],.up 5 [],J,.up 6 [],J,J,J,J,J,J,J,J,J,J,J,J,J,J,J,J,J,J,J,J,J,J,J,J,J,J,J,J,J,J,J,J,J,J,J,J,J,J,J,J,J,J,J,J,J,J,J,J,J,J,J,J,J,J,J,J,J,J,J,J,J,J,J,J,J,J,J,J,J,J,J,J,J,J,J,J,J,J,J,J,J,J,J,J,J,J,J,J,J,J,J,J,J,J,J,J,J,J,J,J,J,J,J,J,J,J,J,J,J,J,J,J,J,J,vL (natsV (bitsL (havN cs l (H.getD i 0)))),vI (natsV (bitsL (havN cs l (H.getD i 0)))).length,vI q,J,J,J,J,J,J,J,J,J,J,J,J,J,J,J,J,J,J,J,J,J,J,J,J,J,J,J,J,J,J,J,J,J,J,J,J,J,J,J,J,J,J,J,J,J],seg:=[],up:=upsP p ls cs H cur g }:St S))) (fun s9:Nat×Tb×Y=>match s9 with | (q,cur,y)=>(y)) (fun s9:Nat×Tb×Y=>match s9 with | (q,cur,y)=>(q≤(bitsL (havN cs l (H.getD i 0))).length∧CurT ls.length cs.length H i l P cur∧eachR B ((((bitsL (havN cs l (H.getD i 0))).drop q).flatMap (fun d=>if (H.getD d 0==H.getD i 0||(g.getD d 0).testBit l)=true then [] else planR ls.length cs H i (fun P g=>planS ls.length cs H s ls.length P g) r (set2 P i l (d:Int)) (g.set d (g.getD d 0 ||| 2 ^ l)))).map (fun q:Tb=>[.agg [.arr (S:=S) U.row6 4 q]])) y (fun b y'=>∀ cur' g',CurT ls.length cs.length H i l P cur'→(b=true→g'=g)→Q (.bool b) (upsP p ls cs H cur' g') y'))) (fun s9:Nat×Tb×Y=>match s9 with | (q,cur,y)=>((bitsL (havN cs l (H.getD i 0))).length - q)) ?_ (0,cur,y) ⟨Nat.zero_le _,hc,hq⟩
 rintro ⟨q,cur,y⟩ hinv Z1 hZ1
 dsimp only at hinv hZ1
 obtain ⟨hq0,hc,hq⟩:=hinv
 conv=>whnf
 apply bc9<;>intro h23
 ·have hlt:q < (bitsL (havN cs l (H.getD i 0))).length:=by have:=of_decide_eq_true h23; omega
  have hw:=wrap_nat (n:=q) (by omega)
  obtain ⟨d,hd⟩:∃ d,(bitsL (havN cs l (H.getD i 0)))[q]=d:=⟨_,rfl⟩
  have hdm:d < 4:=by rw [←hd]; exact bits_mem (n:=4) (by omega) hv4 _ (List.getElem_mem hlt)
  rw [List.drop_eq_getElem_cons hlt,hd,List.flatMap_cons,List.map_append] at hq
  have hgbd:=hgb d
  conv=>whnf
  refine ⟨(d:Int),by rw [getI_nats hlt,hd],?_⟩;conv=>whnf
  refine ⟨[0,1,2,3,4,5,6,7,8,9,10,11,12,13,14,15],[],[],[],⟨1496577676626844588240573268701473812127674924007423,[],[]⟩,by decide +kernel,?_⟩;conv=>whnf
  refine ⟨_,getI_D (l:=H) (by omega),?_⟩;conv=>whnf
  refine ⟨_,getI_D (l:=H) (by omega),?_⟩;conv=>whnf
  apply bc9<;>intro g25_7
  ·rw [if_pos (by rw [show (H.getD d 0==H.getD i 0)=true from g25_7]; rfl)] at hq
   conv=>whnf
   refine ⟨⟨37218383881977644441306597687849648315,[],[]⟩,?_⟩;conv=>whnf
   rw [hw]
   exact hZ1 (q+1,cur,y) ⟨hlt,hc,hq⟩ (by dsimp only; omega)
  conv=>whnf
  refine ⟨by omega,by omega,?_⟩;conv=>whnf
  refine ⟨_,getI_natsD (by omega),?_⟩;conv=>whnf
  refine ⟨Int.natCast_nonneg _,?_⟩;conv=>whnf
  apply bc9<;>intro h25
  ·have h25:(g.getD d 0).testBit l=true:=by rw [←bitB (by omega) (by omega)]; exact h25
   rw [if_pos (by rw [h25,Bool.or_true])] at hq
   conv=>whnf
   refine ⟨⟨37218383881977644441306597687849648315,[],[]⟩,?_⟩;conv=>whnf
   rw [hw]
   exact hZ1 (q+1,cur,y) ⟨hlt,hc,hq⟩ (by dsimp only; omega)
  have h25:(g.getD d 0).testBit l=false:=by rw [←bitB (by omega) (by omega)]; exact h25
  rw [if_neg (by rw [show (H.getD d 0==H.getD i 0)=false from g25_7,h25]; decide)] at hq
  have hl26:2 ^ l < 2 ^ 6:=Nat.pow_lt_pow_right (by omega) (by omega)
  have hx6:(g.getD d 0 ||| 2 ^ l) < 2 ^ 6:=Nat.or_lt_two_pow hgbd hl26
  have hsh:shlI .i64 1 (l:Int)=((2 ^ l:Nat):Int):=shl_one (by omega)
  have hO:bitsI .or .i64 ((g.getD d 0:Nat):Int) (shlI .i64 1 (l:Int))=(((g.getD d 0 ||| 2 ^ l):Nat):Int):=by rw [hsh,or_nat (by omega) (by omega)]
  have hless:(g.getD d 0 ||| 2 ^ l) ^^^ ((g.getD d 0 ||| 2 ^ l) &&& 2 ^ l)=g.getD d 0:=by
   apply Nat.eq_of_testBit_eq
   intro k
   by_cases hk:k=l
   ·rw [hk]; simp only [Nat.testBit_xor,Nat.testBit_and,Nat.testBit_or,Nat.testBit_two_pow_self,h25]; rfl
   have:Nat.testBit (2 ^ l) k=false:=by rw [Nat.testBit_two_pow]; simpa using fun e=>hk e.symm
   simp [Nat.testBit_xor,Nat.testBit_and,Nat.testBit_or,this]
  have hN:bitsI .andNot .i64 (((g.getD d 0 ||| 2 ^ l):Nat):Int) (shlI .i64 1 (l:Int))=((g.getD d 0:Nat):Int):=by rw [hsh,andNot_nat (by omega) (by omega),hless]
  have hg1:(g.set d (g.getD d 0 ||| 2 ^ l)).length=4:=by simpa using hg
  have hgs:(g.set d (g.getD d 0 ||| 2 ^ l)).getD d 0=(g.getD d 0 ||| 2 ^ l):=getD_set_self (by omega)
  have hgb1:∀ q,(g.set d (g.getD d 0 ||| 2 ^ l)).getD q 0 < 2 ^ 6:=fun q=>by
   by_cases e:d=q
   ·subst e; rw [hgs]; exact hx6
   rw [getD_set_ne e]; exact hgb q
  have hsb:(g.set d (g.getD d 0 ||| 2 ^ l)).set d (g.getD d 0)=g:=by rw [List.set_set,getD_at (by omega:d < g.length),List.set_getElem_self]
  conv=>whnf
  refine ⟨[0,1,2,3,4,5,6,7],[],[],[],⟨1496577676626844588240573268701473812127674924007423,[],[]⟩,by decide +kernel,?_⟩;conv=>whnf
  refine ⟨by omega,by omega,?_⟩;conv=>whnf
  refine ⟨_,getI_natsD (by omega),?_⟩;conv=>whnf
  refine ⟨Int.natCast_nonneg _,?_⟩;conv=>whnf
  refine ⟨by omega,by omega,?_⟩;conv=>whnf
  refine ⟨_,getI_natsD (by omega),?_⟩;conv=>whnf
  refine ⟨(((g.getD d 0 ||| 2 ^ l):Nat):Int),congrArg some hO,?_⟩;conv=>whnf
  have hct:=hc.t
  refine ⟨by omega,by omega,?_⟩;conv=>whnf
  refine ⟨by omega,by omega,?_⟩;conv=>whnf
  refine ⟨_,getI_DD (by rw [hct.len]; omega),?_⟩;conv=>whnf
  refine ⟨_,getI_D (by rw [hct.row _ (by omega)]; omega),?_⟩;conv=>whnf
  refine ⟨_,rfl,?_⟩;conv=>whnf
  refine ⟨_,rfl,?_⟩;conv=>whnf
  refine ⟨fun En' hB'=>ucE (by rw [hwl]) (by rw [nats_set]; rfl) (IH ((s+1) * (ls.length+1)+r) (by omega) (s+1) r i (l+1) rfl (by omega) (by omega) (set2 P i l (d:Int)) (set2 cur i l (d:Int)) (g.set d (g.getD d 0 ||| 2 ^ l)) (hc.set hin hm4 hln hn6 _) hg1 hgb1 y _ ?_ En' hB'),op135⟩
  rw [planS,hsi]
  refine eachR_mono hm _ _ _ _ (fun b y' hb cur' g' hc' hg'=>?_) (eachR_append hm _ _ _ _ hq)
  have hc2:=hc'.back hc.p hin hm4 hln hn6 h16
  rcases b with _ | _
  ·conv=>whnf
   exact hb cur' g' hc2 fun e=>by cases e
  have hg':=hg' rfl
  subst hg'
  conv=>whnf
  refine ⟨[0,1,2,3,4,5,6,7],[],[],[],⟨1496577676626844588240573268701473812127674924007423,[],[]⟩,by decide +kernel,?_⟩;conv=>whnf
  refine ⟨by omega,by omega,?_⟩;conv=>whnf
  refine ⟨_,getI_natsD (by omega),?_⟩;conv=>whnf
  rw [hgs]
  conv=>whnf
  refine ⟨Int.natCast_nonneg _,?_⟩;conv=>whnf
  refine ⟨by omega,by omega,?_⟩;conv=>whnf
  refine ⟨_,getI_natsD (by omega),?_⟩;conv=>whnf
  refine ⟨((g.getD d 0:Nat):Int),congrArg some hN,?_⟩;conv=>whnf
  refine ⟨⟨37218383881977644441306597687849648315,[],[]⟩,?_⟩;conv=>whnf
  rw [hw,nats_set,hsb]
  exact hZ1 (q+1,cur',y') ⟨hlt,hc2,hb⟩ (by dsimp only; omega)
 have hge:q=(bitsL (havN cs l (H.getD i 0))).length:=by have:=of_decide_eq_false h23; omega
 rw [hge,List.drop_length] at hq
 have hq:(fun b y'=>∀ cur' g',CurT ls.length cs.length H i l P cur'→(b=true→g'=g)→Q (.bool b) (upsP p ls cs H cur' g') y') true y:=hq
 conv=>whnf
 exact hq cur g hc fun _=>rfl
theorem eachW_st {A X σ:Type} {pin params:List Nat} {Bd:(AExit→St S→X→Prop)→St S→X→Prop} {Q:AExit→St S→X→Prop} (enc:A→List (AV S)) (ts:List (AV S)) (sg:σ→List (Nat×AO S)) (up:List (Nat×AO S)) (R:List A→σ→X→Prop)
  (hnil:∀ s x,R [] s x→Q .normal { tmps:=ts,seg:=sg s,up:=up } x)
  (hcons:∀ a l s x,R (a :: l) s x→∀ Z:List (Nat×AO S)→List (Nat×AO S)→X→Prop,(∀ s' x',R l s' x'→Z (sg s') up x')→eachW.setsK params (enc a) ts fun ts'=>Bd (fun e st' x'=>match e with
   | .normal=>∃ m,wkP pin m st' fun s=>match (boxesOf s.seg []).all (memb pin) with
    | true=>Z s.seg s.up x'
    | false=>False
   | e=>Q e { tmps:=ts,seg:=st'.seg,up:=st'.up } x') { tmps:=ts',seg:=sg s,up:=up } x) :
  ∀ (l:List A) (s:σ) (x:X),R l s x→eachW pin params ts Bd Q (l.map enc) (sg s) up x
 | [],s,x,h=>hnil s x h
 | a :: l,s,x,h=>hcons a l s x h (fun sg' up' x'=>eachW pin params ts Bd Q (l.map enc) sg' up' x') fun s' x' hR=>eachW_st enc ts sg up R hnil hcons l s' x' hR
theorem Plan.set {A:Tb} (h:Plan A) {c l:Nat} {v:Int} (hc:c < 4) (hl:l < 6) (hv:-1≤v∧v < 4):Plan (set2 A c l v) :=
 ⟨h.t.set2 _ _ _,fun c' l'=>by
  rw [get2_set2 h.t hc hl]
  split
  ·exact hv
  exact h.e c' l'⟩
theorem leafR_plan {cs:List Cp} {H:List Int} {g:List Nat} {Q:Tb} (h:Plan Q) {c:Nat} (hc:c < 4):∀ l,l≤6→Plan (leafR cs H g Q c l)
 | 0,_=>h
 | l+1,hl=>by
  simp only [leafR]
  split
  ·exact leafR_plan h hc l (by omega)
  refine (leafR_plan h hc l (by omega)).set hc (by omega) ?_
  split <;> omega
theorem leafU_plan {n:Nat} (hn:n≤6) {cs:List Cp} {H:List Int} {g:List Nat} {P:Tb} (h:Plan P):∀ c,c≤4→Plan (leafU n cs H g P c)
 | 0,_=>h
 | c+1,hc=>leafR_plan (leafU_plan hn h c (by omega)) (by omega) n hn
theorem planR_plan {n i:Nat} (hn:n≤6) {cs:List Cp} (hm:cs.length≤4) {H:List Int} (hi:i < 4) {cont:Tb→List Nat→List Tb} (hcont:∀ P g,Plan P→∀ q∈cont P g,Plan q):∀ r P g,r≤n→Plan P→∀ q∈planR n cs H i cont r P g,Plan q
 | 0,P,g,_,hP=>hcont P g hP
 | r+1,P,g,hr,hP=>by
  intro q hq
  simp only [planR] at hq
  split at hq
  ·exact hcont P g hP q hq
  split at hq
  ·exact planR_plan hn hm hi hcont r _ _ (by omega) (hP.set hi (by omega) ⟨by omega,by omega⟩) q hq
  obtain ⟨d,hd,hq⟩:=List.mem_flatMap.1 hq
  have hd4:d < 4:=bits_mem (n:=4) (by omega) (havN_lt hm _ _) _ hd
  split at hq
  ·cases hq
  exact planR_plan hn hm hi hcont r _ _ (by omega) (hP.set hi (by omega) ⟨by omega,by omega⟩) q hq
theorem planS_plan {n:Nat} (hn:n≤6) {cs:List Cp} (hm1:1≤cs.length) (hm:cs.length≤4) {H:List Int}:∀ s r P g,r≤n→Plan P→∀ q∈planS n cs H s r P g,Plan q
 | 0,r,P,g,_,hP=>fun q hq=>by
  simp only [planS,List.mem_singleton] at hq
  subst hq
  exact leafU_plan hn hP _ hm
 | s+1,r,P,g,hr,hP=>fun q hq=>by
  simp only [planS] at hq
  exact planR_plan hn hm (by omega) (fun P g hP=>planS_plan hn hm1 hm s n P g (Nat.le_refl _) hP) r P g hr hP q hq
theorem z46_plan:Plan z46:=⟨z46_ok,fun c l=>by
 have:get2 z46 c l=0:=by
  unfold get2 z46
  match c with
  | 0=>match l with
   | 0=>rfl
   | 1=>rfl
   | 2=>rfl
   | 3=>rfl
   | 4=>rfl
   | 5=>rfl
   | l+6=>rfl
  | 1=>match l with
   | 0=>rfl
   | 1=>rfl
   | 2=>rfl
   | 3=>rfl
   | 4=>rfl
   | 5=>rfl
   | l+6=>rfl
  | 2=>match l with
   | 0=>rfl
   | 1=>rfl
   | 2=>rfl
   | 3=>rfl
   | 4=>rfl
   | 5=>rfl
   | l+6=>rfl
  | 3=>match l with
   | 0=>rfl
   | 1=>rfl
   | 2=>rfl
   | 3=>rfl
   | 4=>rfl
   | 5=>rfl
   | l+6=>rfl
  | c+4=>rfl
 omega⟩
theorem planA_plan {n:Nat} (hn:n≤6) {cs:List Cp} (hm1:1≤cs.length) (hm:cs.length≤4) {H:List Int}:∀ q∈planA n cs H,Plan q:=planS_plan hn hm1 hm _ _ _ _ (Nat.le_refl _) z46_plan
theorem it134 (p:Int) (ls:List Lf) (cs:List Cp) (hV:Valid p ls cs) (H:List Int) (hH:H.length=4):ICalls PR glT 134 [.ref [setR p ls cs],.ref [.arr (S:=S) U.int 4 H]] ((planA ls.length cs H).map (fun q:Tb=>[.agg [.arr (S:=S) U.row6 4 q]])):=by
 have hm1:=hV.m1
 have hm4:=hV.m4
 have hn1:=hV.n1
 have hn6:=hV.n6
 refine iter_sound Tryd.func134 (pb glT) (pb_ok glT) fun Y B hm y Q h=>?_
 conv=>whnf
 refine ⟨fun En' hB'=>u135 Y B hm p ls cs hV H hH _ cs.length ls.length 0 0 rfl (by omega) (by omega) z46 z46 [0,0,0,0] ⟨z46_ok,z46_ok,fun _ _ _=>rfl⟩ rfl (fun q=>by match q with | 0=>decide | 1=>decide | 2=>decide | 3=>decide | q+4=>exact (by decide:(0:Nat) < 2 ^ 6)) y _ ?_ En' hB',op135⟩
 refine eachR_mono hm _ _ _ _ (fun b y' hb cur' g' _ _=>?_) (eachR_of_B hm _ _ _ h)
 rcases b with _ | _
 ·conv=>whnf
  exact hb
 conv=>whnf
 exact hb
theorem op134:Opens PR 134:=⟨_,Tryd.func134,rfl,rfl⟩
theorem c90 (gl:Gl) (p:Int) (ls:List Lf) (cs:List Cp) (H:List Int):PCalls PR gl 90 [setR p ls cs,.agg [.arr (S:=S) U.int 4 H]] fun r=>r=.clo (.func 134) [] [.ref [setR p ls cs],.ref [.arr (S:=S) U.int 4 H]]:=by
 refine fnW_sound (par_ok gl) Tryd.func90 ?_;conv=>whnf
theorem op90:Opens PR 90:=⟨_,Tryd.func90,rfl,rfl⟩
noncomputable abbrev parW (gl:Gl):Par S Unit:={ par gl with nk:=true }
theorem parW_ok (gl:Gl) (En:Env Unit):ParOk PR gl (parW gl) En:={ par_ok gl En with }
theorem hostL_len:∀ (m:Nat) (lf h:List Int),∀ q∈hostL m lf h,q.length=h.length+m
 | 0,lf,h=>fun q hq=>by simp only [hostL,List.mem_singleton] at hq; subst hq; rfl
 | m+1,lf,h=>fun q hq=>by
  simp only [hostL] at hq
  obtain ⟨k,_,hq⟩:=List.mem_flatMap.1 hq
  split at hq
  ·cases hq
  have:=hostL_len m _ _ q hq
  rw [this,List.length_append]; simp; omega
theorem pad4_len {h:List Int} (hl:h.length≤4):(pad4 h).length=4:=by simp; omega
def updW (n m:Nat) (w v:Way):Way:=if ((v.1 != w.1&&betB n m v w)||decide (w.2.1 > v.2.1))=true then v else w
def wayQ (ls:List Lf) (cs:List Cp) (lk:Nat) (q:Tb):Way:=(q,(lk:Int),(cutN ls cs q:Int))
def roundW (ls:List Lf) (cs:List Cp) (w:Way) (h:List Int):Way :=
 if (lackN cs (pad4 h):Int)≤w.2.1 then (planA ls.length cs (pad4 h)).foldl (fun w q=>updW ls.length cs.length w (wayQ ls cs (lackN cs (pad4 h)) q)) w else w
def bestW (ls:List Lf) (cs:List Cp):Way:=(hostA ls cs).foldl (roundW ls cs) (z46,25,0)
def manyU (ls:List Lf) (cs:List Cp) (k:Nat):Int:=if k≤1 then 0 else if k=2 then ((mostN ls cs 1).1:Nat) else (((mostN ls cs 1).1+(mostN ls cs 2).1:Nat):Int)
def rowsW (W:Way) (n m:Nat):List (List Int):=(List.range m).map fun c=>(W.1.getD c []).take n
def whoV (p:Int) (ls:List Lf) (cs:List Cp):List (List Int)×Int×Int×Int×Int :=
 if chE p ls cs=0 then (rowsW (bestW ls cs) ls.length cs.length,manyU ls cs 3,(bestW ls cs).2.1,(bestW ls cs).2.2,0) else ([],0,0,0,chE p ls cs)
theorem manyU_step {ls:List Lf} {cs:List Cp} {k:Nat} (h:k=1∨k=2) (hm:cs.length≤4):IntKind.i64.wrap (manyU ls cs k+((mostN ls cs (k:Int)).1:Nat))=manyU ls cs (k+1):=by
 have h1:=mostU_fst (cs:=cs) 1 ls.length
 have h2:=mostU_fst (cs:=cs) 2 ls.length
 rcases h with rfl | rfl
 ·show IntKind.i64.wrap (0+((mostN ls cs 1).1:Int))=((mostN ls cs 1).1:Int)
  rw [wrap_int (by unfold mostN; omega) (by unfold mostN; omega)]; omega
 show IntKind.i64.wrap (((mostN ls cs 1).1:Int)+((mostN ls cs 2).1:Int))=(((mostN ls cs 1).1+(mostN ls cs 2).1:Nat):Int)
 rw [wrap_int (by unfold mostN; omega) (by unfold mostN; omega)]; omega
def wS (W:Way) (n:Nat):Nat→AV S
 | 0=>.nils
 | c+1=>.sl (S:=S) U.ints (rowsW W n (c+1)) (some 100)
def wG (p:Int) (ls:List Lf) (cs:List Cp) (W:Way):Nat→List (Nat×AO S)
 | 0=>[(1,.cells (setC p ls cs)),(9,.frz (wayC W))]
 | _+1=>[(1,.cells (setC p ls cs)),(9,.frz (wayC W)),(100,.row U.ints false)]
theorem rowsW_succ (W:Way) (n m:Nat):rowsW W n (m+1)=rowsW W n m++[(W.1.getD m []).take n]:=by unfold rowsW; rw [List.range_succ,List.map_append]; rfl
theorem c28 (p:Int) (ls:List (ByteArray×Int×Int)) (cs:List (ByteArray×List Int)) (hL:LensS ls cs):PCalls PR glT 28 [.agg [vI p,lfsV ls,cpsV cs]] fun r=>r=.tup [intsV (whoV p ls cs).1,vI (whoV p ls cs).2.1,vI (whoV p ls cs).2.2.1,vI (whoV p ls cs).2.2.2.1,vI (whoV p ls cs).2.2.2.2]:=by
 refine fnW_sound (parW_ok glT) Tryd.func28 ?_;conv=>whnf
 refine ⟨true,?_⟩;conv=>whnf
 refine byC (c80 glT p ls cs hL) op80 ?_
 rcases Classical.em (chE p ls cs=0) with hk | hk
 ·rw [openV_ok hk]
  have hV:=chk_valid.1 hk
  have hm1:=hV.m1
  have hm4:=hV.m4
  have hn1:=hV.n1
  have hn6:=hV.n6
  conv=>whnf
  refine byC (c88 glT p ls cs) op88 ?_;conv=>whnf
  refine ⟨⟨1073742734,[],[]⟩,?_⟩;conv=>whnf
  refine ⟨(hostA ls cs).map fun h:List Int=>[.agg [.arr (S:=S) U.int 4 (pad4 h)]],⟨it132 glT p ls cs hV,op132⟩,?_⟩
  refine eachW_st (fun h:List Int=>[.agg [.arr (S:=S) U.int 4 (pad4 h)]]) [J,.own 1 [],.nils,vI 0,J,J,J,.own 7 [],.own 8 [],.own 9 [],J,J,J,J,J,J,J,J,J,J,J,J,J,J,J,J,J,J,J,J,.clo (.func 132) [] [.ref [setR p ls cs]],J,J,J,J,J,J,J,J,J,J,J,J,J,J,J,J,J,J,J,J,J,J,J,J,J,J,J,J,J,J,J,J,J,J,J,J,J,J,J,J,J,J,J,J,J,J,J,J,J,J,J,J,J,J,J,J,J,J,J,J,J,J,J,J,J,J,J,J,J,J,J,J,J,J,J,J,J] (fun w:Way=>[(1,.cells (setC p ls cs)),(7,.cells [setR p ls cs]),(8,.cells [.clo (.func 86) [] [],.clo (.func 87) [] []]),(9,.cells (wayC w))]) [] (fun l (w:Way) _=>((bestW ls cs)=l.foldl (roundW ls cs) w∧Plan w.1∧∀ h∈l,h.length≤4)) ?_ ?_ _ ((z46,25,0)) () ⟨rfl,z46_plan,fun h hh=>by have:=hostL_len _ _ _ h hh; rw [this]; simpa using hm4⟩
  ·rintro w ⟨⟩ hF7
   obtain ⟨hb,hPw,-⟩:=hF7
   have hb:(bestW ls cs)=w:=hb
   rw [←hb] at hPw
   conv=>whnf
   rw [←hb]
   refine ⟨⟨17038,[8],[]⟩,?_⟩
   refine LoopW_ind _ (fun k:Nat=>(({ tmps:=[J,.own 1 [],.nils,vI (manyU ls cs k),J,J,J,.own 7 [],J,.own 9 [],J,J,J,J,vI k,J,J,J,J,J,J,J,J,J,J,J,J,J,J,J,J,J,J,J,J,J,J,J,J,J,J,J,J,J,J,J,J,J,J,J,J,J,J,J,J,J,J,J,J,J,J,J,J,J,J,J,J,J,J,J,J,J,J,J,J,J,J,J,J,J,J,J,J,J,J,J,J,J,J,J,J,J,J,J,J,J,J,J,J,J,J,J,J,J,J,J,J,J],seg:=[(1,.cells (setC p ls cs)),(7,.cells [setR p ls cs]),(9,.cells (wayC (bestW ls cs)))],up:=[] }:St S))) (fun k:Nat=>(1≤k∧k≤3)) (fun k:Nat=>(3 - k)) () ?_ 1 ⟨by decide,by decide⟩
   intro k hinv Z2 hZ2
   obtain ⟨hk1,hk3⟩:=hinv
   conv=>whnf
   apply bc9<;>intro h16
   ·have hk12:k=1∨k=2:=by have:=of_decide_eq_true h16; omega
    have hw:=wrap_nat (n:=k) (by omega)
    have hms:=manyU_step (ls:=ls) hk12 hm4
    conv=>whnf
    refine byC (c81 glT p ls cs hV k) op81 ?_;conv=>whnf
    refine ⟨⟨17038,[],[]⟩,?_⟩;conv=>whnf
    rw [hw,hms]
    exact hZ2 (k+1) ⟨by omega,by omega⟩ (by omega)
   have hke:k=3:=by have:=of_decide_eq_false h16; omega
   subst hke
   conv=>whnf
   refine ⟨⟨29014219670751100192948750,[7],[9]⟩,?_⟩
   refine LoopW_ind _ (fun c:Nat=>(({ tmps:=[J,.own 1 [],wS (bestW ls cs) ls.length c,vI (manyU ls cs 3),J,J,J,J,J,.own 9 [],J,J,J,J,J,J,J,J,J,J,J,J,J,J,J,J,J,J,J,J,J,J,J,J,J,J,J,J,J,J,J,J,J,J,J,J,J,J,J,J,J,J,J,J,J,J,J,J,J,J,J,J,J,J,J,J,J,J,J,J,J,J,J,J,J,J,J,J,J,J,J,J,J,vI cs.length,vI c,J,J,J,J,J,J,J,J,J,J,J,J,J,J,J,J,J,J,J,J,J,J,J],seg:=wG p ls cs (bestW ls cs) c , up:=[] }:St S))) (fun c:Nat=>(c≤cs.length)) (fun c:Nat=>(cs.length - c)) () ?_ 0 (Nat.zero_le _)
   intro c hi Z3 hZ3
   conv=>whnf
   rcases c with _ | c
   ·conv=>whnf
    conv=>whnf
    apply bc9<;>intro h21
    ·have hlt:0 < cs.length:=by have:=of_decide_eq_true h21; omega
     have hw:IntKind.i64.wrap (((0:Nat):Int)+1)=((0+1:Nat):Int):=wrap_nat (by omega)
     have hrl:((bestW ls cs).1.getD (0) []).length=6:=hPw.t.row _ (by omega)
     have hraw:ovl ((((bestW ls cs).1.getD (0) []).take 6).drop 0) (List.replicate ((ls.length:Int)).toNat (0:Int))=((bestW ls cs).1.getD (0) []).take ls.length:=by rw [Int.toNat_natCast,List.take_of_length_le (by omega)]; unfold ovl; rw [List.drop_zero,List.length_replicate,List.drop_eq_nil_of_le (by rw [List.length_replicate,hrl]; exact hn6),List.append_nil]
     conv=>whnf
     refine ⟨⟨by omega,by omega,by omega⟩,_,rfl,?_⟩;conv=>whnf
     refine ⟨by omega,by omega,?_⟩;conv=>whnf
     refine ⟨_,getI_DD (by rw [hPw.t.len]; omega),?_⟩;conv=>whnf
     refine ⟨by omega,by omega,?_⟩;conv=>whnf
     refine ⟨_,congrArg some hraw,?_⟩;conv=>whnf
     first | refine ⟨lim (by simp),false,?_⟩ | refine ⟨lim (by simp [rowsW]; omega),?_⟩
     conv=>whnf
     refine ⟨⟨29014219670751100192948750,[90,99],[]⟩,?_⟩;conv=>whnf
     rw [hw]
     exact hZ3 (0+1) hlt (by omega)
    exfalso
    have:=of_decide_eq_false h21
    omega
   conv=>whnf
   conv=>whnf
   apply bc9<;>intro h21
   ·have hlt:(c+1) < cs.length:=by have:=of_decide_eq_true h21; omega
    have hw:IntKind.i64.wrap ((((c+1):Nat):Int)+1)=(((c+1)+1:Nat):Int):=wrap_nat (by omega)
    have hrl:((bestW ls cs).1.getD ((c+1)) []).length=6:=hPw.t.row _ (by omega)
    have hraw:ovl ((((bestW ls cs).1.getD ((c+1)) []).take 6).drop 0) (List.replicate ((ls.length:Int)).toNat (0:Int))=((bestW ls cs).1.getD ((c+1)) []).take ls.length:=by rw [Int.toNat_natCast,List.take_of_length_le (by omega)]; unfold ovl; rw [List.drop_zero,List.length_replicate,List.drop_eq_nil_of_le (by rw [List.length_replicate,hrl]; exact hn6),List.append_nil]
    conv=>whnf
    refine ⟨⟨by omega,by omega,by omega⟩,_,rfl,?_⟩;conv=>whnf
    refine ⟨by omega,by omega,?_⟩;conv=>whnf
    refine ⟨_,getI_DD (by rw [hPw.t.len]; omega),?_⟩;conv=>whnf
    refine ⟨by omega,by omega,?_⟩;conv=>whnf
    refine ⟨_,congrArg some hraw,?_⟩;conv=>whnf
    first | refine ⟨lim (by simp),false,?_⟩ | refine ⟨lim (by simp [rowsW]; omega),?_⟩
    conv=>whnf
    refine ⟨⟨29014219670751100192948750,[90,99],[]⟩,?_⟩;conv=>whnf
    rw [hw]
    have hz:=hZ3 (c+1+1) hlt (by omega)
    rw [show wS (bestW ls cs) ls.length (c+1+1)=.sl (S:=S) U.ints (rowsW (bestW ls cs) ls.length (c+1)++[((bestW ls cs).1.getD (c+1) []).take ls.length]) (some 100) from by rw [←rowsW_succ]; rfl] at hz
    exact hz
   have hge:c+1=cs.length:=by have:=of_decide_eq_false h21; omega
   conv=>whnf
   refine ⟨[0,1,2,3,4,5,6,7,8,9,10],[],[],[],⟨324518553658426726783156020576255,[],[]⟩,by decide +kernel,?_⟩;conv=>whnf
   unfold whoV
   rw [if_pos hk,←hge]
  rintro h hl w ⟨⟩ hF7 Z1 hZ1
  obtain ⟨hb,hPw,hl4⟩:=hF7
  have hh4:=pad4_len (hl4 h (List.mem_cons_self ..))
  rw [List.foldl_cons] at hb
  conv=>whnf
  refine byC (c89 glT p ls cs hV (pad4 h) hh4) op89 ?_;conv=>whnf
  apply bc9<;>intro h9
  ·have h9:(lackN cs (pad4 h):Int)≤w.2.1:=of_decide_eq_true h9
   rw [roundW,if_pos h9] at hb
   conv=>whnf
   refine byC (c90 glT p ls cs (pad4 h)) op90 ?_;conv=>whnf
   refine ⟨⟨2201170742158,[10],[]⟩,?_⟩;conv=>whnf
   refine ⟨(planA ls.length cs (pad4 h)).map fun q:Tb=>[.agg [.arr (S:=S) U.row6 4 q]],⟨it134 p ls cs hV (pad4 h) hh4,op134⟩,?_⟩
   refine eachW_st (fun q:Tb=>[.agg [.arr (S:=S) U.row6 4 q]]) [J,.own 1 [],.nils,vI 0,J,J,J,.own 7 [],.own 8 [],.own 9 [],J,.own 11 [],J,J,J,J,J,J,J,J,J,J,J,J,J,J,J,J,J,J,J,.agg [.arr (S:=S) U.int 4 (pad4 h)],J,J,J,J,J,J,J,J,J,.clo (.func 134) [] [.ref [setR p ls cs],.ref [.arr (S:=S) U.int 4 (pad4 h)]],J,J,J,J,J,J,J,J,J,J,J,J,J,J,J,J,J,J,J,J,J,J,J,J,J,J,J,J,J,J,J,J,J,J,J,J,J,J,J,J,J,J,J,J,J,J,J,J,J,J,J,J,J,J,J,J,J,J,J,J,J,J,J,J,J,J] (fun w:Way=>[(1,.cells (setC p ls cs)),(7,.cells [setR p ls cs]),(8,.cells [.clo (.func 86) [] [],.clo (.func 87) [] []]),(9,.cells (wayC w)),(11,.cells [vI (lackN cs (pad4 h))])]) [] (fun l (w:Way) _=>((bestW ls cs)=hl.foldl (roundW ls cs) (l.foldl (fun w q=>updW ls.length cs.length w (wayQ ls cs (lackN cs (pad4 h)) q)) w)∧Plan w.1∧∀ q∈l,Plan q)) ?_ ?_ _ (w) () ⟨hb,hPw,planA_plan hn6 hm1 hm4⟩
   ·rintro w ⟨⟩ hF11
    obtain ⟨hb,hPw,-⟩:=hF11
    have hb:(bestW ls cs)=hl.foldl (roundW ls cs) w:=hb
    conv=>whnf
    refine ⟨⟨1073742734,[10,11,12,13,1010,1011,1012,1013,2010,2011,2012,2013,3010,3011,3012,3013,4010,4011,4012,4013],[]⟩,?_⟩;conv=>whnf
    exact hZ1 w () ⟨hb,hPw,fun h hh=>hl4 h (List.mem_cons_of_mem _ hh)⟩
   rintro q l w ⟨⟩ hF11 Z2 hZ2
   obtain ⟨hb,hPw,hlq⟩:=hF11
   have hPq:=hlq q (List.mem_cons_self ..)
   rw [List.foldl_cons] at hb
   conv=>whnf
   refine ⟨[0,1,2,3,4,5,6,7],[6],[],[],⟨324518553658426726783156020576255,[],[]⟩,by decide +kernel,?_⟩;conv=>whnf
   refine byC (c91 glT p ls cs hV q hPq) op91 ?_;conv=>whnf
   refine ⟨_,rfl,?_⟩;conv=>whnf
   apply bc9<;>intro g13_4
   ·have g4:(q != w.1)=true:=g13_4
    conv=>whnf
    refine byC (c92 p ls cs hV (wayQ ls cs (lackN cs (pad4 h)) q) w hPq.t hPw.t) op92 ?_;conv=>whnf
    apply bc9<;>intro g13_11
    ·have g11:betB ls.length cs.length (wayQ ls cs (lackN cs (pad4 h)) q) w=true:=g13_11
     have hu:updW ls.length cs.length w (wayQ ls cs (lackN cs (pad4 h)) q)=(wayQ ls cs (lackN cs (pad4 h)) q):=by unfold updW; rw [show ((wayQ ls cs (lackN cs (pad4 h)) q).1 != w.1)=true from g4,g11]; rfl
     conv=>whnf
     refine ⟨⟨2201170742158,[12,13,1012,1013,2012,2013,3012,3013,4012,4013],[]⟩,?_⟩;conv=>whnf
     rw [hu] at hb
     exact hZ2 (wayQ ls cs (lackN cs (pad4 h)) q) () ⟨hb,hPq,fun q hq=>hlq q (List.mem_cons_of_mem _ hq)⟩
    have g11:betB ls.length cs.length (wayQ ls cs (lackN cs (pad4 h)) q) w=false:=g13_11
    have hu0:((wayQ ls cs (lackN cs (pad4 h)) q).1 != w.1&&betB ls.length cs.length (wayQ ls cs (lackN cs (pad4 h)) q) w)=false:=by rw [g11,Bool.and_false]
    conv=>whnf
    apply bc9<;>intro h13
    ·have h13:decide (w.2.1 > (wayQ ls cs (lackN cs (pad4 h)) q).2.1)=true:=h13
     conv=>whnf
     refine ⟨⟨2201170742158,[12,13,1012,1013,2012,2013,3012,3013,4012,4013],[]⟩,?_⟩;conv=>whnf
     have hu:updW ls.length cs.length w (wayQ ls cs (lackN cs (pad4 h)) q)=(wayQ ls cs (lackN cs (pad4 h)) q):=by unfold updW; rw [hu0,h13]; rfl
     rw [hu] at hb
     exact hZ2 (wayQ ls cs (lackN cs (pad4 h)) q) () ⟨hb,hPq,fun q hq=>hlq q (List.mem_cons_of_mem _ hq)⟩
    have h13:decide (w.2.1 > (wayQ ls cs (lackN cs (pad4 h)) q).2.1)=false:=h13
    conv=>whnf
    refine ⟨⟨2201170742158,[12,13,1012,1013,2012,2013,3012,3013,4012,4013],[]⟩,?_⟩;conv=>whnf
    have hu:updW ls.length cs.length w (wayQ ls cs (lackN cs (pad4 h)) q)=w:=by unfold updW; rw [hu0,h13]; rfl
    rw [hu] at hb
    exact hZ2 w () ⟨hb,hPw,fun q hq=>hlq q (List.mem_cons_of_mem _ hq)⟩
   have g4:(q != w.1)=false:=g13_4
   conv=>whnf
   apply bc9<;>intro h13
   ·have h13:decide (w.2.1 > (wayQ ls cs (lackN cs (pad4 h)) q).2.1)=true:=h13
    conv=>whnf
    refine ⟨⟨2201170742158,[12,13,1012,1013,2012,2013,3012,3013,4012,4013],[]⟩,?_⟩;conv=>whnf
    have hu:updW ls.length cs.length w (wayQ ls cs (lackN cs (pad4 h)) q)=(wayQ ls cs (lackN cs (pad4 h)) q):=by unfold updW; rw [show ((wayQ ls cs (lackN cs (pad4 h)) q).1 != w.1)=false from g4,h13]; rfl
    rw [hu] at hb
    exact hZ2 (wayQ ls cs (lackN cs (pad4 h)) q) () ⟨hb,hPq,fun q hq=>hlq q (List.mem_cons_of_mem _ hq)⟩
   have h13:decide (w.2.1 > (wayQ ls cs (lackN cs (pad4 h)) q).2.1)=false:=h13
   conv=>whnf
   refine ⟨⟨2201170742158,[12,13,1012,1013,2012,2013,3012,3013,4012,4013],[]⟩,?_⟩;conv=>whnf
   have hu:updW ls.length cs.length w (wayQ ls cs (lackN cs (pad4 h)) q)=w:=by unfold updW; rw [show ((wayQ ls cs (lackN cs (pad4 h)) q).1 != w.1)=false from g4,h13]; rfl
   rw [hu] at hb
   exact hZ2 w () ⟨hb,hPw,fun q hq=>hlq q (List.mem_cons_of_mem _ hq)⟩
  have h9:¬ (lackN cs (pad4 h):Int)≤w.2.1:=of_decide_eq_false h9
  rw [roundW,if_neg h9] at hb
  conv=>whnf
  refine ⟨⟨1073742734,[10,11,12,13,1010,1011,1012,1013,2010,2011,2012,2013,3010,3011,3012,3013,4010,4011,4012,4013],[]⟩,?_⟩;conv=>whnf
  exact hZ1 w () ⟨hb,hPw,fun h hh=>hl4 h (List.mem_cons_of_mem _ hh)⟩
 rw [openV_no hk]
 conv=>whnf
 apply bc9<;>intro h2
 ·conv=>whnf
  refine ⟨false,?_⟩;conv=>whnf
  unfold whoV
  rw [if_neg hk]
 exfalso
 have h2:(chE p ls cs != 0)=false:=h2
 exact hk (by simpa using h2)
theorem op28:Opens PR 28:=⟨_,Tryd.func28,rfl,rfl⟩
def exL:List Lf:=[(⟨#[97]⟩,1,300),(⟨#[98]⟩,0,100),(⟨#[99]⟩,3,100),(⟨#[100]⟩,2,100),(⟨#[101]⟩,-1,55)]
def exC:List Cp:=[(⟨#[112]⟩,[1,1,0,0,1]),(⟨#[113]⟩,[1,1,1,1,0]),(⟨#[114]⟩,[2,2,2,2,1])]
def exH:List Sn:=[(1,201,203),(0,202,204),(2,200,202),(1,198,201),(1,203,205)]
def exB:List (List Int):=[[0,0,-1,-1,-1],[1,1,1,1,0],[2,2,2,2,2]]
theorem ex_lens:LensS exL exC:=⟨⟨by decide,by decide⟩,by decide⟩
theorem same_ext {a b:List (List Int)} (hl:a.length=b.length) (h:∀ j,j < a.length→a.getD j []=b.getD j []):a=b:=by
 apply List.ext_getElem hl
 intro j h1 h2
 have:=h j h1
 rw [getD_at h1,getD_at h2] at this
 exact this
theorem c117 (gl:Gl) (s:ByteArray) (a b:Int):PCalls PR gl 117 [.str s,vI a,vI b] fun r=>r=.agg [.str s,vI a,vI b]:=by
 refine fnW_sound (par_ok gl) Tryd.func117 ?_;conv=>whnf
theorem op117:Opens PR 117:=⟨_,Tryd.func117,rfl,rfl⟩
theorem c118 (gl:Gl) (s:ByteArray) (a b c d e:Int):PCalls PR gl 118 [.str s,vI a,vI b,vI c,vI d,vI e] fun r=>r=.agg [.str s,vL [a,b,c,d,e]]:=by
 refine fnW_sound (par_ok gl) Tryd.func118 ?_;conv=>whnf
 refine ⟨_,rfl,?_⟩;conv=>whnf
 refine ⟨_,rfl,?_⟩;conv=>whnf
 refine ⟨_,rfl,?_⟩;conv=>whnf
 refine ⟨_,rfl,?_⟩;conv=>whnf
 refine ⟨_,rfl,?_⟩;conv=>whnf
theorem op118:Opens PR 118:=⟨_,Tryd.func118,rfl,rfl⟩
theorem c119 (gl:Gl) (a b c:Int):PCalls PR gl 119 [vI a,vI b,vI c] fun r=>r=.agg [vI a,vI b,vI c]:=by
 refine fnW_sound (par_ok gl) Tryd.func119 ?_;conv=>whnf
theorem op119:Opens PR 119:=⟨_,Tryd.func119,rfl,rfl⟩
theorem c43 (gl:Gl):PCalls PR gl 43 [] fun r=>r=.agg (setC 1000 exL exC):=by
 refine fnW_sound (par_ok gl) Tryd.func43 ?_;conv=>whnf
 refine byC (c117 gl _ _ _) op117 ?_;conv=>whnf
 refine byC (c117 gl _ _ _) op117 ?_;conv=>whnf
 refine byC (c117 gl _ _ _) op117 ?_;conv=>whnf
 refine byC (c117 gl _ _ _) op117 ?_;conv=>whnf
 refine byC (c117 gl _ _ _) op117 ?_;conv=>whnf
 refine ⟨_,rfl,?_⟩;conv=>whnf
 refine ⟨_,rfl,?_⟩;conv=>whnf
 refine ⟨_,rfl,?_⟩;conv=>whnf
 refine ⟨_,rfl,?_⟩;conv=>whnf
 refine ⟨_,rfl,?_⟩;conv=>whnf
 refine byC (c118 gl _ _ _ _ _ _) op118 ?_;conv=>whnf
 refine byC (c118 gl _ _ _ _ _ _) op118 ?_;conv=>whnf
 refine byC (c118 gl _ _ _ _ _ _) op118 ?_;conv=>whnf
 refine ⟨_,rfl,?_⟩;conv=>whnf
 refine ⟨_,rfl,?_⟩;conv=>whnf
 refine ⟨_,rfl,?_⟩;conv=>whnf
 rfl
theorem op43:Opens PR 43:=⟨_,Tryd.func43,rfl,rfl⟩
theorem c44 (gl:Gl):PCalls PR gl 44 [] fun r=>r=.agg [snsV exH]:=by
 refine fnW_sound (par_ok gl) Tryd.func44 ?_;conv=>whnf
 refine byC (c119 gl _ _ _) op119 ?_;conv=>whnf
 refine byC (c119 gl _ _ _) op119 ?_;conv=>whnf
 refine byC (c119 gl _ _ _) op119 ?_;conv=>whnf
 refine byC (c119 gl _ _ _) op119 ?_;conv=>whnf
 refine byC (c119 gl _ _ _) op119 ?_;conv=>whnf
 refine ⟨_,rfl,?_⟩;conv=>whnf
 refine ⟨_,rfl,?_⟩;conv=>whnf
 refine ⟨_,rfl,?_⟩;conv=>whnf
 refine ⟨_,rfl,?_⟩;conv=>whnf
 refine ⟨_,rfl,?_⟩;conv=>whnf
 rfl
theorem op44:Opens PR 44:=⟨_,Tryd.func44,rfl,rfl⟩
theorem c85 (gl:Gl):PCalls PR gl 85 [] fun r=>r=intsV exB:=by
 refine fnW_sound (par_ok gl) Tryd.func85 ?_;conv=>whnf
 refine ⟨_,rfl,?_⟩;conv=>whnf
 refine ⟨_,rfl,?_⟩;conv=>whnf
 refine ⟨_,rfl,?_⟩;conv=>whnf
 refine ⟨_,rfl,?_⟩;conv=>whnf
 refine ⟨_,rfl,?_⟩;conv=>whnf
 refine ⟨_,rfl,?_⟩;conv=>whnf
 refine ⟨_,rfl,?_⟩;conv=>whnf
 refine ⟨_,rfl,?_⟩;conv=>whnf
 refine ⟨_,rfl,?_⟩;conv=>whnf
 refine ⟨_,rfl,?_⟩;conv=>whnf
 refine ⟨_,rfl,?_⟩;conv=>whnf
 refine ⟨_,rfl,?_⟩;conv=>whnf
 refine ⟨_,rfl,?_⟩;conv=>whnf
 refine ⟨_,rfl,?_⟩;conv=>whnf
 refine ⟨_,rfl,?_⟩;conv=>whnf
 refine ⟨_,rfl,?_⟩;conv=>whnf
 refine ⟨_,rfl,?_⟩;conv=>whnf
 refine ⟨_,rfl,?_⟩;conv=>whnf
 rfl
theorem op85:Opens PR 85:=⟨_,Tryd.func85,rfl,rfl⟩
theorem c30 (gl:Gl) (a b:List (List Int)) (ha:a.length≤9223372036854775807) (hx:∀ x∈a,x.length≤9223372036854775807):PCalls PR gl 30 [intsV a,intsV b] fun r=>r=vB (decide (a=b)):=by
 refine fnW_sound (par_ok gl) Tryd.func30 ?_;conv=>whnf
 apply bc9<;>intro h1
 ·have h1:((a.length:Int) != (b.length:Int))=true:=h1
  have hne:a≠b:=fun e=>by subst e; simp at h1
  conv=>whnf
  rw [decide_eq_false hne]
 have hle:a.length=b.length:=by
  have h1:((a.length:Int) != (b.length:Int))=false:=h1
  have:(a.length:Int)=(b.length:Int):=by simpa using h1
  omega
 conv=>whnf
 refine ⟨⟨35,[],[]⟩,?_⟩
 refine LoopW_ind _ (fun i:Nat=>(({ tmps:=[intsV a,intsV b,J,J,J,vI i,J,J,J,J,J,J,J,J,J,J,J,J,J,J,J,J,J,J,J,J,J],seg:=[],up:=[] }:St S))) (fun i:Nat=>(i≤a.length∧∀ j,j < i→a.getD j []=b.getD j [])) (fun i:Nat=>(a.length - i)) () ?_ 0 ⟨Nat.zero_le _,fun j h=>absurd h (Nat.not_lt_zero j)⟩
 intro i hinv Z1 hZ1
 obtain ⟨hi,hd⟩:=hinv
 conv=>whnf
 apply bc9<;>intro h4
 ·have hlt:i < a.length:=by have:=of_decide_eq_true h4; omega
  have hw:=wrap_nat (n:=i) (by omega)
  conv=>whnf
  refine ⟨[0,1,2,3,4,5,6,7,8,9],[],[],[],⟨134217727,[],[]⟩,by decide +kernel,?_⟩;conv=>whnf
  have hlb:i < b.length:=by omega
  refine ⟨_,getI_nat hlt,?_⟩;conv=>whnf
  refine ⟨_,getI_nat hlb,?_⟩;conv=>whnf
  refine byC (c20 gl a[i] b[i] (hx _ (List.getElem_mem hlt))) op20 ?_;conv=>whnf
  apply bc9<;>intro h6
  ·have hne:a[i]≠b[i]:=by have h6:(!decide (a[i]=b[i]))=true:=h6; simpa using h6
   have hne:a≠b:=fun e=>hne (by subst e; rfl)
   conv=>whnf
   rw [decide_eq_false hne]
  have heq:a.getD i []=b.getD i []:=by rw [getD_at hlt,getD_at hlb]; have h6:(!decide (a[i]=b[i]))=false:=h6; simpa using h6
  conv=>whnf
  refine ⟨⟨35,[],[]⟩,?_⟩;conv=>whnf
  rw [hw]
  exact hZ1 (i+1) ⟨hlt,up_succ hd heq⟩ (by omega)
 have hge:i=a.length:=by have:=of_decide_eq_false h4; omega
 conv=>whnf
 rw [decide_eq_true (same_ext hle (by rw [←hge]; exact hd))]
theorem op30:Opens PR 30:=⟨_,Tryd.func30,rfl,rfl⟩
theorem to' {gl:Gl} {f:FuncId} {args:List (AV S)} {v v':AV S} (h:PCalls PR gl f args fun r=>r=v) (e:v=v'):PCalls PR gl f args fun r=>r=v':=by rw [←e]; exact h
theorem e18a:missV 1000 exL exC 0=([2,3],1,0):=by decide +kernel
theorem e21a:donV 1000 exL exC 0 2=([1],0):=by decide +kernel
theorem e23a:mosV 1000 exL exC 1=(1,2,0):=by decide +kernel
theorem e25c:worV 1000 exL exC 2=(972,0):=by decide +kernel
theorem e28:whoV 1000 exL exC=(exB,1,1,0,0):=by decide +kernel
theorem e33:forV exH=([2,3],0):=by decide +kernel
theorem e35:sureV exH=([2,3],[2,3],0):=by decide +kernel
theorem e37:srcV exH=([0,0,1,2,0],3,0):=by decide +kernel
theorem e39a:proV exH [2]=(1,3,0):=by decide +kernel
theorem e39b:proV exH [2,3]=(0,0,8):=by decide +kernel
theorem e41:talV exH [2,3]=(203,203,0):=by decide +kernel
theorem c27:PCalls PR glT 27 [] fun r=>r=vB true:=by
 refine fnW_sound (par_ok glT) Tryd.func27 ?_;conv=>whnf
 refine byC (c43 glT) op43 ?_;conv=>whnf
 refine byC (c44 glT) op44 ?_;conv=>whnf
 refine byC (to' (c18 1000 exL exC ex_lens 0) (by rw [e18a])) op18 ?_;conv=>whnf
 refine byC (to' (c21 1000 exL exC ex_lens 0 2) (by rw [e21a])) op21 ?_;conv=>whnf
 refine byC (to' (c23 glT 1000 exL exC ex_lens 1) (by rw [e23a])) op23 ?_;conv=>whnf
 refine byC (to' (c28 1000 exL exC ex_lens) (by rw [e28])) op28 ?_;conv=>whnf
 refine byC (to' (c25 glT 1000 exL exC ex_lens 2) (by rw [e25c])) op25 ?_;conv=>whnf
 refine byC (to' (c33 exH (by decide)) (by rw [e33])) op33 ?_;conv=>whnf
 refine byC (to' (c35 exH (by decide)) (by rw [e35])) op35 ?_;conv=>whnf
 refine byC (to' (c37 exH (by decide)) (by rw [e37])) op37 ?_;conv=>whnf
 refine ⟨_,rfl,?_⟩;conv=>whnf
 refine byC (to' (c39 exH [2] (by decide) (by decide)) (by rw [e39a])) op39 ?_;conv=>whnf
 refine ⟨_,rfl,?_⟩;conv=>whnf
 refine ⟨_,rfl,?_⟩;conv=>whnf
 refine byC (to' (c39 exH [2,3] (by decide) (by decide)) (by rw [e39b])) op39 ?_;conv=>whnf
 refine ⟨_,rfl,?_⟩;conv=>whnf
 refine ⟨_,rfl,?_⟩;conv=>whnf
 refine byC (to' (c41 exH [2,3] (by decide) (by decide)) (by rw [e41])) op41 ?_;conv=>whnf
 refine ⟨_,rfl,?_⟩;conv=>whnf
 refine ⟨_,rfl,?_⟩;conv=>whnf
 refine byC (c20 glT _ _ (by decide)) op20 ?_;conv=>whnf
 refine ⟨_,rfl,?_⟩;conv=>whnf
 refine byC (c20 glT _ _ (by decide)) op20 ?_;conv=>whnf
 refine byC (c85 glT) op85 ?_;conv=>whnf
 refine byC (to' (c30 glT exB exB (by decide) (by decide)) (show _=vB true from rfl)) op30 ?_;conv=>whnf
 refine ⟨_,rfl,?_⟩;conv=>whnf
 refine ⟨_,rfl,?_⟩;conv=>whnf
 refine byC (c20 glT _ _ (by decide)) op20 ?_;conv=>whnf
 refine ⟨_,rfl,?_⟩;conv=>whnf
 refine ⟨_,rfl,?_⟩;conv=>whnf
 refine byC (c20 glT _ _ (by decide)) op20 ?_;conv=>whnf
 refine ⟨_,rfl,?_⟩;conv=>whnf
 refine ⟨_,rfl,?_⟩;conv=>whnf
 refine byC (c20 glT _ _ (by decide)) op20 ?_;conv=>whnf
 refine ⟨_,rfl,?_⟩;conv=>whnf
 refine ⟨_,rfl,?_⟩;conv=>whnf
 refine ⟨_,rfl,?_⟩;conv=>whnf
 refine ⟨_,rfl,?_⟩;conv=>whnf
 refine ⟨_,rfl,?_⟩;conv=>whnf
 refine byC (c20 glT _ _ (by decide)) op20 ?_;conv=>whnf
 refine ⟨_,rfl,?_⟩;conv=>whnf
 rfl
theorem op27:Opens PR 27:=⟨_,Tryd.func27,rfl,rfl⟩
end Go.Ab.MkF
