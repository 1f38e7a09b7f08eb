/-
  THE MADE FAMILY, PART WG: Proof and Tall.
-/
import Derived.Lib.TrailingZeros
import Derived.Laws.Bits64b
import Derived.WalkKit
import Derived.Test.YtmchcpmkadhmjaaDoorProg
import Derived.Laws.StructEq
import Derived.ChangeKeysEq
import Derived.Tactics
import Derived.Tactics2
import Derived.KernelRfl
import Derived.Test.YtmchcpmkadhmjaaDoorEngD
namespace Go.Ab.Pln
open Go Go.Ab
set_option maxHeartbeats 1000000
set_option maxRecDepth 100000
theorem LoopW_ind {σ:Type} {S:Sig} [Cod S] {X:Type} (B:(St S→X→Prop)→St S→X→Prop) (f:σ→St S) (inv:σ→Prop) (μ:σ→Nat) (x:X)
  (step:∀ s,inv s→∀ Z:St S→X→Prop,(∀ t,inv t→μ t < μ s→Z (f t) x)→B Z (f s) x) (s:σ) (h:inv s):LoopW B (f s) x:=by
 intro Z hZ
 generalize hn:μ s=n
 induction n using Nat.strongRecOn generalizing s with
 | _ n ih=>exact hZ _ _ (step s h Z fun t ht hlt=>ih _ (hn ▸ hlt) t ht rfl)
theorem wrap_int {n:Int} (h0:-9223372036854775808≤n) (h1:n≤9223372036854775807):IntKind.i64.wrap n=n:=by
 have h:IntKind.i64.wrap n=if n % 18446744073709551616≥9223372036854775808 then n % 18446744073709551616 - 18446744073709551616 else n % 18446744073709551616:=by
  simp [IntKind.wrap,IntKind.bits,IntKind.signed]
 rw [h]
 split <;> omega
theorem wrap_nat {n:Nat} (h:(n:Int)≤9223372036854775806):IntKind.i64.wrap ((n:Int)+1)=((n+1:Nat):Int):=by
 rw [wrap_int (by omega) (by omega)]; rfl
theorem getI_nat {α:Type} {xs:List α} {i:Nat} (h:i < xs.length):getI xs (i:Int)=some xs[i]:=by
 show xs[i]?=_
 exact List.getElem?_eq_getElem h
theorem wrap_lt {n:Nat} (h:n < 2 ^ 63):IntKind.i64.wrap (n:Int)=n:=wrap_int (by omega) (by have:(2:Nat) ^ 63=9223372036854775808:=rfl; omega)
theorem ofInt_nat (n:Nat):BitVec.ofInt 64 (n:Int)=BitVec.ofNat 64 n:=by simp
theorem or_nat {a b:Nat} (ha:a < 2 ^ 63) (hb:b < 2 ^ 63):bitsI .or .i64 a b=((a ||| b:Nat):Int):=by
 have h:a ||| b < 2 ^ 63:=Nat.or_lt_two_pow ha hb
 change IntKind.i64.wrap ((BitVec.ofInt 64 (a:Int) ||| BitVec.ofInt 64 (b:Int)).toNat:Int)=_
 rw [ofInt_nat,ofInt_nat,BitVec.toNat_or,BitVec.toNat_ofNat,BitVec.toNat_ofNat,Nat.mod_eq_of_lt (show a < 2 ^ 64 by omega),Nat.mod_eq_of_lt (show b < 2 ^ 64 by omega),wrap_lt h]
theorem and_nat {a b:Nat} (ha:a < 2 ^ 63) (hb:b < 2 ^ 63):bitsI .and .i64 a b=((a &&& b:Nat):Int):=by
 have h:a &&& b < 2 ^ 63:=Nat.and_lt_two_pow _ hb
 change IntKind.i64.wrap ((BitVec.ofInt 64 (a:Int) &&& BitVec.ofInt 64 (b:Int)).toNat:Int)=_
 rw [ofInt_nat,ofInt_nat,BitVec.toNat_and,BitVec.toNat_ofNat,BitVec.toNat_ofNat,Nat.mod_eq_of_lt (show a < 2 ^ 64 by omega),Nat.mod_eq_of_lt (show b < 2 ^ 64 by omega),wrap_lt h]
theorem shl_one {i:Nat} (h:i < 63):shlI .i64 1 (i:Int)=((2 ^ i:Nat):Int):=by
 have h1:(2:Nat) ^ i < 2 ^ 63:=Nat.pow_lt_pow_right (by omega) h
 unfold shlI
 rw [show min (i:Int).toNat IntKind.i64.bits=i from by simp [show IntKind.i64.bits=64 from rfl]; omega,Int.one_mul]
 have:((2:Int) ^ i)=((2 ^ i:Nat):Int):=by simp
 rw [this,wrap_lt h1]
theorem shr_nat {a i:Nat} (h:i < 64):shrI .i64 (a:Int) (i:Int)=((a / 2 ^ i:Nat):Int):=by
 unfold shrI
 rw [show min (i:Int).toNat IntKind.i64.bits=i from by simp [show IntKind.i64.bits=64 from rfl]; omega]
 have:((2:Int) ^ i)=((2 ^ i:Nat):Int):=by simp
 rw [this,Int.fdiv_eq_ediv_of_nonneg _ (Int.natCast_nonneg _)]
 rfl
theorem bit_eq {a i:Nat} (ha:a < 2 ^ 63) (h:i < 64):bitsI .and .i64 (shrI .i64 (a:Int) (i:Int)) 1=if a.testBit i then 1 else 0:=by
 have h1:a / 2 ^ i < 2 ^ 63:=Nat.lt_of_le_of_lt (Nat.div_le_self _ _) ha
 rw [shr_nat h,show (1:Int)=((1:Nat):Int) from rfl,and_nat h1 (by decide)]
 rw [Nat.testBit_eq_decide_div_mod_eq,Nat.and_one_is_mod]
 by_cases h2:a / 2 ^ i % 2=1
 ·simp [h2]
 have:a / 2 ^ i % 2=0:=by omega
 simp [this]
theorem andNot_nat {a b:Nat} (ha:a < 2 ^ 63) (hb:b < 2 ^ 63):bitsI .andNot .i64 a b=((a ^^^ (a &&& b):Nat):Int):=by
 have h:a ^^^ (a &&& b) < 2 ^ 63:=Nat.xor_lt_two_pow ha (Nat.and_lt_two_pow _ hb)
 have e:(BitVec.ofNat 64 a &&& ~~~ BitVec.ofNat 64 b).toNat=a ^^^ (a &&& b):=by
  have:(BitVec.ofNat 64 a &&& ~~~ BitVec.ofNat 64 b)=BitVec.ofNat 64 a ^^^ (BitVec.ofNat 64 a &&& BitVec.ofNat 64 b):=by
   apply BitVec.eq_of_getLsbD_eq
   intro i hi
   simp only [BitVec.getLsbD_and,BitVec.getLsbD_not,BitVec.getLsbD_xor,hi,decide_true,Bool.true_and]
   cases (BitVec.ofNat 64 a).getLsbD i <;> cases (BitVec.ofNat 64 b).getLsbD i <;> rfl
  rw [this,BitVec.toNat_xor,BitVec.toNat_and,BitVec.toNat_ofNat,BitVec.toNat_ofNat,Nat.mod_eq_of_lt (show a < 2 ^ 64 by omega),Nat.mod_eq_of_lt (show b < 2 ^ 64 by omega)]
 change IntKind.i64.wrap ((BitVec.ofInt 64 (a:Int) &&& ~~~ BitVec.ofInt 64 (b:Int)).toNat:Int)=_
 rw [ofInt_nat,ofInt_nat,e,wrap_lt h]
def less (a b:Nat):Nat:=a ^^^ (a &&& b)
abbrev natsV (l:List Nat):List Int:=l.map fun (n:Nat)=>(n:Int)
theorem getI_nats {l:List Nat} {j:Nat} (h:j < l.length):getI (natsV l) (j:Int)=some ((l[j]:Nat):Int):=by
 show (natsV l)[j]?=_
 simp [h]
theorem bitB {a i:Nat} (ha:a < 2 ^ 63) (h:i < 64):(bitsI .and .i64 (shrI .i64 (a:Int) (i:Int)) 1==1)=a.testBit i:=by
 rw [bit_eq ha h]
 cases a.testBit i <;> rfl
theorem LoopW_indX {σ:Type} {S:Sig} [Cod S] {X:Type} (B:(St S→X→Prop)→St S→X→Prop) (f:σ→St S) (g:σ→X) (inv:σ→Prop) (μ:σ→Nat)
  (step:∀ s,inv s→∀ Z:St S→X→Prop,(∀ t,inv t→μ t < μ s→Z (f t) (g t))→B Z (f s) (g s)) (s:σ) (h:inv s):LoopW B (f s) (g s):=by
 intro Z hZ
 generalize hn:μ s=n
 induction n using Nat.strongRecOn generalizing s with
 | _ n ih=>exact hZ _ _ (step s h Z fun t ht hlt=>ih _ (hn ▸ hlt) t ht rfl)
def outB (lo hi x:Int):Bool:=decide (x < lo)||decide (x > hi)
def idx {α:Type} (p:α→Bool):List α→Nat→Int
 | [],_=>-1
 | x :: xs,i=>if p x then i else idx p xs (i+1)
def inB (n lo hi:Int):Bool:=decide (lo≤n)&&decide (n≤hi)
def letterB (b:Int):Bool:=decide (b≥97)&&decide (b≤122)
def digitB (b:Int):Bool:=decide (b≥48)&&decide (b≤57)
def chB (i:Nat) (b:Int):Bool:=letterB b||(!(i==0)&&(digitB b||b==46))
def namesFrom:List UInt8→Nat→Bool
 | [],_=>true
 | b :: bs,i=>chB i b.toNat&&namesFrom bs (i+1)
def nameB (s:ByteArray):Bool:=!(s.size==0)&&!decide (s.size > 16)&&namesFrom s.data.toList 0
theorem take_succ' {α:Type} {xs:List α} {i:Nat} (h:i < xs.length):xs.take (i+1)=xs.take i++[xs[i]]:=by
 rw [List.take_add_one,List.getElem?_eq_getElem h]; rfl
def listGo:Nat→Nat→List Nat
 | 0,_=>[]
 | f+1,n=>if n=0 then [] else Lib.ctz 64 n :: listGo f (n &&& (n - 1))
theorem and_pred_lt {n:Nat} (h:n≠0):n &&& (n - 1) < n:=Nat.lt_of_le_of_lt Nat.and_le_right (by omega)
theorem listGo_fuel:∀ (f n:Nat),n≤f→listGo f n=listGo n n
 | 0, n, h => by have:n=0:=by omega
                 subst this; rfl
 | f+1,n,h=>by
  by_cases hn:n=0
  ·subst hn; rfl
  have hl:=and_pred_lt hn
  obtain ⟨m,rfl⟩:∃ m,n=m+1:=⟨n - 1,by omega⟩
  simp only [listGo,if_neg hn]
  rw [listGo_fuel f _ (by omega),listGo_fuel m _ (by omega)]
termination_by f=>f
def bitsL (n:Nat):List Nat:=listGo n n
theorem bitsL_zero:bitsL 0=[]:=rfl
theorem bitsL_pos {n:Nat} (h:n≠0):bitsL n=Lib.ctz 64 n :: bitsL (n &&& (n - 1)):=by
 unfold bitsL
 have hl:=and_pred_lt h
 obtain ⟨m,rfl⟩:∃ m,n=m+1:=⟨n - 1,by omega⟩
 conv=>lhs; rw [listGo,if_neg h]
 rw [listGo_fuel m _ (by omega)]
theorem bitsL_len:∀ (n:Nat),(bitsL n).length≤n:=by
 have:∀ f n,(listGo f n).length≤f:=fun f=>by
  induction f with
  | zero=>exact fun n=>Nat.le_refl _
  | succ f ih =>
   intro n
   simp only [listGo]
   split
   ·simp
   have:=ih (n &&& (n - 1)); simp; omega
 exact fun n=>this n n
def cmpI (a b:Int):Int:=if a < b then -1 else if a > b then 1 else 0
def cmpL {α:Type} (c:α→α→Int):List α→List α→Int
 | [],[]=>0
 | [],_ :: _=>-1
 | _ :: _,[]=>1
 | x :: xs,y :: ys=>if c x y≠0 then c x y else cmpL c xs ys
def skipB (s:List Int×Bool) (l:List Int):Bool:=s.2&&(decide ((l.length:Int) > s.1.length)||((l.length:Int)==s.1.length&&decide (cmpL cmpI l s.1 > 0)))
def fewStep (does:Nat→Bool) (s:List Int×Bool) (set:Nat):List Int×Bool :=
 if skipB s (natsV (bitsL set)) then s else if does set then (natsV (bitsL set),true) else s
def few (does:Nat→Bool) (n:Nat):List Int×Bool:=(List.range n).foldl (fewStep does) ([],false)
def ltB (y own:List Int):Bool:=decide ((y.length:Int) < own.length)||((y.length:Int)==own.length&&decide (cmpL cmpI y own < 0))
def bitsO (p:List Nat):Nat:=p.foldl (fun d k=>d ||| 2 ^ k) 0
theorem bitsO_test (p:List Nat) (j:Nat):(bitsO p).testBit j=p.contains j:=by
 have:∀ (p:List Nat) (d:Nat),(p.foldl (fun d k=>d ||| 2 ^ k) d).testBit j=(d.testBit j||p.contains j):=fun p=>by
  induction p with
  | nil=>simp
  | cons k p ih =>
   intro d
   rw [List.foldl_cons,ih,Nat.testBit_or,Nat.testBit_two_pow,List.contains_cons,Bool.or_assoc]
   congr 2
   rw [Bool.eq_iff_iff,decide_eq_true_eq,beq_iff_eq]
   exact eq_comm
 rw [bitsO,this]; simp
theorem lim {n m:Nat} (h:n≤1000000000) (hm:1000000000≤m:=by decide):n≤m:=Nat.le_trans h hm
theorem all_yes {p:Nat→Bool} {n:Nat} (h:∀ j,j < n→p j=true):(List.range n).all p=true:=List.all_eq_true.2 fun j hj=>h j (List.mem_range.1 hj)
theorem all_no {p:Nat→Bool} {n i:Nat} (h:i < n) (hp:p i=false):(List.range n).all p=false:=by
 rw [Bool.eq_false_iff]
 intro ha
 rw [List.all_eq_true] at ha
 rw [ha i (List.mem_range.2 h)] at hp
 cases hp
theorem up_succ {P:Nat→Prop} {i:Nat} (h:∀ j,j < i→P j) (hi:P i):∀ j,j < i+1→P j:=fun j hj=>by
 by_cases e:j=i
 ·subst e; exact hi
 exact h j (by omega)
theorem nf_len (p:Nat→Bool) (i:Nat):(natsV ((List.range i).filter p)).length≤i:=by
 simp only [natsV,List.length_map]
 exact Nat.le_trans (List.length_filter_le _ _) (by simp)
theorem nf_T {p:Nat→Bool} {i:Nat} (h:p i=true):natsV ((List.range (i+1)).filter p)=natsV ((List.range i).filter p)++[(i:Int)]:=by
 simp only [natsV,List.range_succ,List.filter_append,List.map_append]
 simp [h]
theorem nf_F {p:Nat→Bool} {i:Nat} (h:p i=false):natsV ((List.range (i+1)).filter p)=natsV ((List.range i).filter p):=by
 simp only [natsV,List.range_succ,List.filter_append,List.map_append]
 simp [h]
theorem idx_at {α:Type} (p:α→Bool):∀ (l:List α) (i k:Nat) (h:i < l.length),(∀ j (hj:j < i),p (l[j]'(by omega))=false)→p l[i]=true→idx p l k=((k+i:Nat):Int)
 | [],i,k,h,_,_=>by simp at h
 | x :: l,0,k,h,_,hp=>by simp only [idx]; rw [if_pos (by simpa using hp)]; rfl
 | x :: l,i+1,k,h,hn,hp=>by
  simp only [idx]
  have h0:p x=false:=hn 0 (by omega)
  rw [h0,if_neg (by simp),idx_at p l i (k+1) (by simpa using h) (fun j hj=>hn (j+1) (by omega)) (by simpa using hp)]
  congr 1; omega
theorem idx_no {α:Type} (p:α→Bool):∀ (l:List α) (k:Nat),(∀ x∈l,p x=false)→idx p l k=-1
 | [],k,_=>rfl
 | x :: l,k,h=>by
  simp only [idx]
  rw [h x (List.mem_cons_self ..),if_neg (by simp),idx_no p l (k+1) fun y hy=>h y (List.mem_cons_of_mem _ hy)]
theorem wrap_m1 {m:Nat} (h:m≤9223372036854775807):IntKind.i64.wrap ((m:Int) - 1)=(m:Int) - 1:=wrap_int (by omega) (by omega)
theorem getI_zero {α:Type} {xs:List α} (h:0 < xs.length):getI xs 0=some xs[0]:=getI_nat (i:=0) h
def befL:List Int→List Int→Bool
 | [],[]=>false
 | [],_ :: _=>true
 | _ :: _,[]=>false
 | x :: xs,y :: ys=>if x=y then befL xs ys else decide (x < y)
def ltK (a b:List Int):Bool:=decide (a.length < b.length)||(decide (a.length=b.length)&&befL a b)
theorem befL_irr:∀ a,befL a a=false
 | []=>rfl
 | x :: xs=>by simp [befL,befL_irr xs]
theorem befL_trans:∀ (a b c:List Int),befL a b=true→befL b c=true→befL a c=true
 | [],[],c,h,_=>by cases h
 | [],_ :: _,[],_,h=>by cases h
 | [],_ :: _,_ :: _,_,_=>rfl
 | _ :: _,[],_,h,_=>by cases h
 | _ :: _,_ :: _,[],_,h=>by cases h
 | x :: xs,y :: ys,z :: zs,h1,h2=>by
  simp only [befL] at h1 h2 ⊢
  by_cases e1:x=y
  ·subst e1
   rw [if_pos rfl] at h1
   by_cases e2:x=z
   ·rw [if_pos e2] at h2 ⊢; exact befL_trans _ _ _ h1 h2
   rw [if_neg e2] at h2 ⊢; exact h2
  rw [if_neg e1] at h1
  have h1:=of_decide_eq_true h1
  by_cases e2:y=z
  ·subst e2; rw [if_neg e1]; exact decide_eq_true h1
  rw [if_neg e2] at h2
  have h2:=of_decide_eq_true h2
  rw [if_neg (by omega)]; exact decide_eq_true (by omega)
theorem befL_total:∀ (a b:List Int),a.length=b.length→befL a b=false→befL b a=false→a=b
 | [],[],_,_,_=>rfl
 | [],_ :: _,h,_,_=>by simp at h
 | _ :: _,[],h,_,_=>by simp at h
 | x :: xs,y :: ys,h,h1,h2=>by
  simp only [befL] at h1 h2
  by_cases e:x=y
  ·subst e
   rw [if_pos rfl] at h1 h2
   rw [befL_total xs ys (by simpa using h) h1 h2]
  rw [if_neg e] at h1
  rw [if_neg (Ne.symm e)] at h2
  have h1:=of_decide_eq_false h1
  have h2:=of_decide_eq_false h2
  omega
theorem cmpL_cons (x y:Int) (xs ys:List Int):cmpL cmpI (x :: xs) (y :: ys)=if x=y then cmpL cmpI xs ys else if x < y then -1 else 1:=by
 simp only [cmpL]
 by_cases e:x=y
 ·subst e
  have h0:cmpI x x=0:=by unfold cmpI; simp
  rw [if_neg (by simp [h0]),if_pos rfl]
 have hc:cmpI x y=if x < y then -1 else 1:=by
  unfold cmpI
  by_cases h:x < y
  ·rw [if_pos h,if_pos h]
  ·rw [if_neg h,if_neg h,if_pos (by omega)]
 rw [if_neg e,hc]
 by_cases h:x < y
 ·rw [if_pos h]; simp
 rw [if_neg h]; simp
theorem cmpL_lt':∀ (a b:List Int),cmpL cmpI a b < 0↔befL a b=true
 | [],[]=>by decide
 | [],_ :: _=>by simp [cmpL,befL]
 | _ :: _,[]=>by simp [cmpL,befL]
 | x :: xs,y :: ys=>by
  rw [cmpL_cons,befL]
  by_cases e:x=y
  ·rw [if_pos e,if_pos e]; exact cmpL_lt' xs ys
  rw [if_neg e,if_neg e,decide_eq_true_eq]
  by_cases h:x < y
  ·rw [if_pos h]; simp [h]
  rw [if_neg h]; simp [h]
theorem cmpL_gt':∀ (a b:List Int),cmpL cmpI a b > 0↔befL b a=true
 | [],[]=>by decide
 | [],_ :: _=>by simp [cmpL,befL]
 | _ :: _,[]=>by simp [cmpL,befL]
 | x :: xs,y :: ys=>by
  rw [cmpL_cons,befL]
  by_cases e:x=y
  ·rw [if_pos e,if_pos e.symm]; exact cmpL_gt' xs ys
  rw [if_neg e,if_neg (Ne.symm e),decide_eq_true_eq]
  by_cases h:x < y
  ·rw [if_pos h]; simp; omega
  rw [if_neg h]; simp; omega
theorem cmpL_lt (a b:List Int):decide (cmpL cmpI a b < 0)=befL a b:=by rw [Bool.eq_iff_iff,decide_eq_true_eq]; exact cmpL_lt' a b
theorem lowbit {k m j:Nat}:((2 ^ k * (2 * m+1)) &&& (2 ^ k * (2 * m+1) - 1)).testBit j=((2 ^ k * (2 * m+1)).testBit j&&!decide (j=k)):=by
 have hp:=Nat.two_pow_pos k
 have e1:2 ^ k * (2 * m+1)=2 ^ k * (2 * m+1)+0:=rfl
 have e2:2 ^ k * (2 * m+1) - 1=2 ^ k * (2 * m)+(2 ^ k - 1):=by rw [Nat.mul_add,Nat.mul_one]; omega
 rw [Nat.testBit_and,e2,Nat.testBit_two_pow_mul_add _ (show 2 ^ k - 1 < 2 ^ k by omega),e1,Nat.testBit_two_pow_mul_add _ hp]
 rcases Nat.lt_trichotomy j k with h | h | h
 ·simp [h]
 ·subst h; simp
 rw [if_neg (by omega),if_neg (by omega)]
 obtain ⟨d,hd⟩:∃ d,j - k=d+1:=⟨j - k - 1,by omega⟩
 rw [hd,Nat.testBit_add_one,Nat.testBit_add_one,show (2 * m+1) / 2=m by omega,show 2 * m / 2=m by omega]
 simp; omega
theorem low_test {k m j:Nat}:(2 ^ k * (2 * m+1)).testBit j=if j < k then false else (2 * m+1).testBit (j - k):=by
 have:=Nat.testBit_two_pow_mul_add (2 * m+1) (Nat.two_pow_pos k) j
 rw [Nat.add_zero] at this
 rw [this]; simp
theorem bitsL_filter:∀ (n:Nat),n < 2 ^ 64→bitsL n=(List.range 64).filter n.testBit:=by
 intro n
 induction n using Nat.strongRecOn with
 | _ n ih =>
  intro hn
  by_cases h0:n=0
  ·subst h0
   rw [bitsL_zero]
   symm
   rw [List.filter_eq_nil_iff]
   intro a _
   simp
  have hlt:=and_pred_lt h0
  rw [bitsL_pos h0,ih _ hlt (by omega)]
  obtain ⟨m,hm,hk⟩:=Lib.ctzFrom_spec 64 n (by omega) hn
  have hc:Lib.ctz 64 n=Lib.ctzFrom 64 n:=by unfold Lib.ctz; rw [if_neg h0]
  rw [hc]
  generalize Lib.ctzFrom 64 n=k at hm hk
  have hb:∀ j,(n &&& (n - 1)).testBit j=(n.testBit j&&!decide (j=k)):=fun j=>by rw [hm]; exact lowbit
  have hf:∀ j,n.testBit j=if j < k then false else (2 * m+1).testBit (j - k):=fun j=>by rw [hm]; exact low_test
  have er:List.range 64=List.range k++k :: List.range' (k+1) (63 - k):=by
   rw [List.range_eq_range',List.range_eq_range',show 64=k+(63 - k+1) by omega,←List.range'_append_1,Nat.zero_add,List.range'_succ]
  have hlow:∀ q:Nat→Bool,(∀ j,j < k→q j=false)→(List.range k).filter q=[]:=fun q hq=>by
   rw [List.filter_eq_nil_iff]
   intro a ha
   rw [hq a (List.mem_range.1 ha)]; simp
  rw [er,List.filter_append,List.filter_append,hlow _ (fun j hj=>by rw [hb,hf,if_pos hj]; rfl),hlow _ (fun j hj=>by rw [hf,if_pos hj]),List.nil_append,List.nil_append,
   List.filter_cons,List.filter_cons]
  have hk1:n.testBit k=true:=by rw [hf,if_neg (by omega),Nat.sub_self,Nat.testBit_zero]; simp
  rw [hk1,hb k,if_neg (by simp),if_pos rfl]
  congr 1
  apply List.filter_congr
  intro j hj
  have:=(List.mem_range'_1.1 hj).1
  rw [hb,show decide (j=k)=false from decide_eq_false (by omega)]; simp
theorem filter_low {c:Nat} (p:Nat→Bool):∀ d,(List.range (c+d)).filter (fun j=>decide (j < c)&&p j)=(List.range c).filter p
 | 0=>by
  rw [Nat.add_zero]
  apply List.filter_congr
  intro j hj
  simp [List.mem_range.1 hj]
 | d+1=>by
  rw [←Nat.add_assoc,List.range_succ,List.filter_append,filter_low p d]
  simp
  omega
theorem bitsL_below {n c:Nat} (hc:c≤64) (hn:n < 2 ^ c):bitsL n=(List.range c).filter n.testBit:=by
 have hn64:n < 2 ^ 64:=Nat.lt_of_lt_of_le hn (Nat.pow_le_pow_right (by omega) hc)
 rw [bitsL_filter n hn64]
 obtain ⟨d,hd⟩:∃ d,64=c+d:=⟨64 - c,by omega⟩
 rw [hd,←filter_low (c:=c) n.testBit d]
 apply List.filter_congr
 intro j _
 by_cases h:j < c
 ·simp [h]
 rw [Nat.testBit_lt_two_pow (Nat.lt_of_lt_of_le hn (Nat.pow_le_pow_right (by omega) (by omega)))]; simp
theorem bitsO_lt {l:List Nat} {c:Nat} (h:∀ x∈l,x < c):bitsO l < 2 ^ c:=by
 apply Nat.lt_pow_two_of_testBit
 intro i hi
 rw [bitsO_test,Bool.eq_false_iff,Ne,List.contains_iff_mem]
 intro hm
 have:=h i hm
 omega
theorem bitsL_bitsO {c:Nat} (hc:c≤64) (p:Nat→Bool):bitsL (bitsO ((List.range c).filter p))=(List.range c).filter p:=by
 rw [bitsL_below hc (bitsO_lt fun x hx=>List.mem_range.1 (List.mem_filter.1 hx).1)]
 apply List.filter_congr
 intro j hj
 rw [bitsO_test,Bool.eq_iff_iff,List.contains_iff_mem,List.mem_filter]
 exact ⟨fun h=>h.2,fun h=>⟨hj,h⟩⟩
def listsL:Nat→Nat→Nat→List (List Nat)
 | _,_,0=>[[]]
 | f,b,m+1=>(List.range' f (b - (f+m))).flatMap fun k=>(listsL (k+1) b m).map fun l=>k :: l
def Asc (f b:Nat) (l:List Nat):Prop:=l.Pairwise (· < ·)∧∀ x∈l,f≤x∧x < b
def lisU (f b m k:Nat):List (List Nat):=(List.range' f (k - f)).flatMap fun k=>(listsL (k+1) b m).map fun l=>k :: l
def lisV (f b m k i:Nat):List (List Nat):=lisU f b m k++((listsL (k+1) b m).take i).map fun l=>k :: l
end Go.Ab.Pln
namespace Go.Ab.MkF
open Go Go.Ab
inductive U where
 | int | u8 | str | leaf | copy | seen | ints | intss | row6 | fn
 deriving DecidableEq
abbrev T:U→Type
 | .int=>Int
 | .u8=>Int
 | .str=>ByteArray
 | .leaf=>ByteArray×Int×Int
 | .copy=>ByteArray×List Int
 | .seen=>Int×Int×Int
 | .ints=>List Int
 | .intss=>List (List Int)
 | .row6=>List Int
 | .fn=>Nat
abbrev S:Sig:=⟨U,T⟩
def size:U→Nat
 | .int | .u8 | .str | .ints | .intss | .fn=>1
 | .copy=>2
 | .leaf | .seen=>3
 | .row6=>6
def enc:(u:U)→T u→List (AV S)
 | .int,n=>[.int .i64 n]
 | .u8,n=>[.int .u8 n]
 | .str,s=>[.str s]
 | .leaf,p=>[.str p.1,.int .i64 p.2.1,.int .i64 p.2.2]
 | .copy,p=>[.str p.1,.sl (S:=S) U.int p.2 none]
 | .seen,p=>[.int .i64 p.1,.int .i64 p.2.1,.int .i64 p.2.2]
 | .ints,xs=>[.sl (S:=S) U.int xs none]
 | .intss,xs=>[.sl (S:=S) U.ints xs none]
 | .row6,xs=>[.arr (S:=S) U.int 6 xs]
 | .fn,f=>[.clo (.func f) [] []]
def isl:AV S→Option (List Int)
 | .nils=>some []
 | .sl u xs none=>match u with
  | .int=>some xs
  | _=>none
 | _=>none
def iss:AV S→Option (List (List Int))
 | .nils=>some []
 | .sl u xs none=>match u with
  | .ints=>some xs
  | _=>none
 | _=>none
def isr:AV S→Option (List Int)
 | .arr u n xs=>match u with
  | .int=>match Nat.beq n 6 with
   | true=>some xs
   | false=>none
  | _=>none
 | _=>none
def dec:(u:U)→List (AV S)→Option (T u)
 | .int,[.int .i64 n]=>some n
 | .u8,[.int .u8 n]=>some n
 | .str,[.str s]=>some s
 | .leaf,[.str s,.int .i64 a,.int .i64 b]=>some (s,a,b)
 | .copy,[.str s,v]=>match isl v with
  | some xs=>some (s,xs)
  | none=>none
 | .seen,[.int .i64 a,.int .i64 b,.int .i64 c]=>some (a,b,c)
 | .ints,[v]=>isl v
 | .intss,[v]=>iss v
 | .row6,[v]=>isr v
 | .fn,[.clo (.func f) [] []]=>some f
 | _,_=>none
def data:U→Bool
 | .int | .u8 | .str | .leaf | .seen | .row6=>true
 | _=>false
def limU:U→Nat
 | _=>1099511627776
instance:Cod S:=⟨inferInstanceAs (DecidableEq U),size,enc,dec,data,limU⟩
theorem isl_back {v:AV S} {xs:List Int} (h:isl v=some xs):∀ {w V l vs},Reps w V l vs [v]→Reps w V Loc.none vs [.sl (S:=S) U.int xs none]:=by
 intro w V l vs hr
 unfold isl at h
 split at h
 ·cases h
  obtain ⟨z,zs,rfl,h1,h2⟩:=hr.head trivial
  rw [h2.nil_inv]
  obtain ⟨base,hb⟩:=h1.nils
  exact Rep.flat1 ⟨rfl,base,0,hb⟩
 ·split at h
  ·cases h; exact slice_out hr (fun _ _ h=>h) fun d e=>by cases e
  cases h
 cases h
theorem iss_back {v:AV S} {xs:List (List Int)} (h:iss v=some xs):∀ {w V l vs},Reps w V l vs [v]→Reps w V Loc.none vs [.sl (S:=S) U.ints xs none]:=by
 intro w V l vs hr
 unfold iss at h
 split at h
 ·cases h
  obtain ⟨z,zs,rfl,h1,h2⟩:=hr.head trivial
  rw [h2.nil_inv]
  obtain ⟨base,hb⟩:=h1.nils
  exact Rep.flat1 ⟨rfl,base,0,hb⟩
 ·split at h
  ·cases h; exact slice_out hr (fun _ _ h=>h) fun d e=>by cases e
  cases h
 cases h
theorem isr_back {v:AV S} {xs:List Int} (h:isr v=some xs):∀ {w V l vs},Reps w V l vs [v]→Reps w V Loc.none vs [.arr (S:=S) U.int 6 xs]:=by
 intro w V l vs hr
 unfold isr at h
 split at h
 ·split at h
  ·split at h
   ·rename_i hn
    cases h
    obtain rfl:=Nat.eq_of_beq_eq_true hn
    cases hr with
    | flat h t=>exact h.elim
    | arr hx r t=>rw [t.nil_inv]; exact .arr hx r (.nil _)
   cases h
  cases h
 cases h
theorem dec_back:∀ (u:U) (cs:List (AV S)) (x:T u),dec u cs=some x→∀ w V l vs,Reps w V l vs cs→Reps w V Loc.none vs (enc u x):=by
 intro u cs x h w V l vs hr
 unfold dec at h
 split at h
 ·cases h; exact pure_reps hr 1 rfl
 ·cases h; exact pure_reps hr 1 rfl
 ·cases h; exact pure_reps hr 1 rfl
 ·cases h; exact pure_reps hr 1 rfl
 ·split at h
  ·rename_i hx
   cases h
   obtain ⟨va,vb,rfl,h1,h2⟩:=hr.uncons
   exact (pure_reps h1 1 rfl).append (isl_back hx h2)
  cases h
 ·cases h; exact pure_reps hr 1 rfl
 ·exact isl_back h hr
 ·exact iss_back h hr
 ·exact isr_back h hr
 ·cases h
  exact pure_reps hr 1 rfl
 cases h
def plainB:AV S→Bool
 | .bool _ | .int _ _ | .str _=>true
 | _=>false
theorem plain_any {w:World} {V:Nat→Nat→Prop} {l:Loc} {vs:List Value} {cs:List (AV S)} (h:Reps w V l vs cs) (hc:cs.all plainB=true):∀ w' V' l',Reps w' V' l' vs cs:=by
 have hcons:∀ {c:AV S} {cs:List (AV S)},(c :: cs).all plainB=true→plainB c=true∧cs.all plainB=true:=fun h=>by simpa using h
 induction h with
 | nil=>exact fun _ _ _=>.nil _
 | @flat l v c vs cs h _ ih =>
  intro w' V' l'
  obtain ⟨h1,h2⟩:=hcons hc
  refine .flat ?_ (ih h2 _ _ _)
  cases c <;> first | exact h | cases h1
 | _=>have h1:=(hcons hc).1; cases h1
theorem data_any:∀ (u:U) (x:T u),data u=true→∀ w V l vs,Reps w V l vs (enc u x)→∀ w' V' l',Reps w' V' l' vs (enc u x):=by
 intro u x hu w V l vs hr w' V' l'
 cases u
 case int=>exact plain_any hr rfl _ _ _
 case u8=>exact plain_any hr rfl _ _ _
 case str=>exact plain_any hr rfl _ _ _
 case leaf=>exact plain_any hr rfl _ _ _
 case seen=>exact plain_any hr rfl _ _ _
 case row6 =>
  cases hr with
  | flat h t=>exact h.elim
  | arr hx r t =>
   rw [t.nil_inv]
   refine .arr hx (plain_any r (List.all_eq_true.2 fun c hc=>?_) _ _ _) (.nil _)
   obtain ⟨y,_,hc⟩:=List.mem_flatMap.1 hc
   have hc:c∈[AV.int (S:=S) .i64 y]:=hc
   rw [List.mem_singleton] at hc
   subst hc; rfl
 all_goals cases hu
instance:LawCod S where
 width u x:=by cases u <;> rfl
 pos u:=by cases u <;> exact Nat.succ_pos _
 cell u x:=by cases u <;> rfl
 back:=dec_back
 data:=data_any
end Go.Ab.MkF
namespace Go.Ab.MkF
abbrev J:AV S:=.undef
theorem bc9 {b:Bool} {P Q:Prop} (h:b=true→P) (k:b=false→Q):bcase b P Q:=bcase_iff.2 ⟨h,k⟩
end Go.Ab.MkF
namespace Go.Ab.MkF
open Go Go.Ab Go.Proofs
theorem info_of {P:Program} {t:TypeId} {i:TypeInfo} (h:P.types[t]?=some i):P.info? t=some i:=by
 have hl:=(Array.getElem?_eq_some_iff.1 h).1
 simp [Tables.info?,h]
 omega
theorem tis_nil {P:Program}:TisOk (S:=S) P []:=fun t ty h=>by simp [lookA] at h
theorem tis_cons {P:Program} {t:Nat} {y:TyI S} {l:List (Nat×TyI S)} (h:TyOk P t y) (hl:TisOk P l):TisOk P ((t,y) :: l):=fun t' ty h'=>by
 simp only [lookA] at h'
 by_cases ht:t=t'
 ·subst ht; rw [if_pos rfl] at h'; cases h'; exact h
 rw [if_neg ht] at h'; exact hl _ _ h'
theorem i3:Tryd.prog.info? 3=some Tryd.t3:=info_of Tryd.type3
theorem i4:Tryd.prog.info? 4=some Tryd.t4:=info_of Tryd.type4
theorem i5:Tryd.prog.info? 5=some Tryd.t5:=info_of Tryd.type5
theorem i9:Tryd.prog.info? 9=some Tryd.t9:=info_of Tryd.type9
theorem i21:Tryd.prog.info? 21=some Tryd.t21:=info_of Tryd.type21
theorem i22:Tryd.prog.info? 22=some Tryd.t22:=info_of Tryd.type22
theorem i23:Tryd.prog.info? 23=some Tryd.t23:=info_of Tryd.type23
theorem i25:Tryd.prog.info? 25=some Tryd.t25:=info_of Tryd.type25
theorem i26:Tryd.prog.info? 26=some Tryd.t26:=info_of Tryd.type26
theorem i27:Tryd.prog.info? 27=some Tryd.t27:=info_of Tryd.type27
theorem i30:Tryd.prog.info? 30=some Tryd.t30:=info_of Tryd.type30
theorem i32:Tryd.prog.info? 32=some Tryd.t32:=info_of Tryd.type32
theorem i41:Tryd.prog.info? 41=some Tryd.t41:=info_of Tryd.type41
theorem i46:Tryd.prog.info? 46=some Tryd.t46:=info_of Tryd.type46
theorem i48:Tryd.prog.info? 48=some Tryd.t48:=info_of Tryd.type48
theorem i57:Tryd.prog.info? 57=some Tryd.t57:=info_of Tryd.type57
theorem i63:Tryd.prog.info? 63=some Tryd.t63:=info_of Tryd.type63
theorem i64:Tryd.prog.info? 64=some Tryd.t64:=info_of Tryd.type64
theorem i72:Tryd.prog.info? 72=some Tryd.t72:=info_of Tryd.type72
theorem i82:Tryd.prog.info? 82=some Tryd.t82:=info_of Tryd.type82
theorem i84:Tryd.prog.info? 84=some Tryd.t84:=info_of Tryd.type84
theorem i86:Tryd.prog.info? 86=some Tryd.t86:=info_of Tryd.type86
theorem i88:Tryd.prog.info? 88=some Tryd.t88:=info_of Tryd.type88
theorem i94:Tryd.prog.info? 94=some Tryd.t94:=info_of Tryd.type94
theorem i97:Tryd.prog.info? 97=some Tryd.t97:=info_of Tryd.type97
theorem i98:Tryd.prog.info? 98=some Tryd.t98:=info_of Tryd.type98
theorem i101:Tryd.prog.info? 101=some Tryd.t101:=info_of Tryd.type101
theorem i102:Tryd.prog.info? 102=some Tryd.t102:=info_of Tryd.type102
theorem i104:Tryd.prog.info? 104=some Tryd.t104:=info_of Tryd.type104
theorem i107:Tryd.prog.info? 107=some Tryd.t107:=info_of Tryd.type107
theorem i110:Tryd.prog.info? 110=some Tryd.t110:=info_of Tryd.type110
theorem i112:Tryd.prog.info? 112=some Tryd.t112:=info_of Tryd.type112
theorem i114:Tryd.prog.info? 114=some Tryd.t114:=info_of Tryd.type114
theorem i124:Tryd.prog.info? 124=some Tryd.t124:=info_of Tryd.type124
theorem i126:Tryd.prog.info? 126=some Tryd.t126:=info_of Tryd.type126
theorem i128:Tryd.prog.info? 128=some Tryd.t128:=info_of Tryd.type128
theorem i130:Tryd.prog.info? 130=some Tryd.t130:=info_of Tryd.type130
theorem i131:Tryd.prog.info? 131=some Tryd.t131:=info_of Tryd.type131
theorem i133:Tryd.prog.info? 133=some Tryd.t133:=info_of Tryd.type133
theorem i134:Tryd.prog.info? 134=some Tryd.t134:=info_of Tryd.type134
theorem i135:Tryd.prog.info? 135=some Tryd.t135:=info_of Tryd.type135
theorem i137:Tryd.prog.info? 137=some Tryd.t137:=info_of Tryd.type137
theorem i138:Tryd.prog.info? 138=some Tryd.t138:=info_of Tryd.type138
theorem i140:Tryd.prog.info? 140=some Tryd.t140:=info_of Tryd.type140
theorem i141:Tryd.prog.info? 141=some Tryd.t141:=info_of Tryd.type141
theorem i147:Tryd.prog.info? 147=some Tryd.t147:=info_of Tryd.type147
theorem i151:Tryd.prog.info? 151=some Tryd.t151:=info_of Tryd.type151
theorem i154:Tryd.prog.info? 154=some Tryd.t154:=info_of Tryd.type154
theorem i162:Tryd.prog.info? 162=some Tryd.t162:=info_of Tryd.type162
theorem i177:Tryd.prog.info? 177=some Tryd.t177:=info_of Tryd.type177
theorem i181:Tryd.prog.info? 181=some Tryd.t181:=info_of Tryd.type181
theorem i183:Tryd.prog.info? 183=some Tryd.t183:=info_of Tryd.type183
theorem i184:Tryd.prog.info? 184=some Tryd.t184:=info_of Tryd.type184
theorem i185:Tryd.prog.info? 185=some Tryd.t185:=info_of Tryd.type185
theorem i186:Tryd.prog.info? 186=some Tryd.t186:=info_of Tryd.type186
theorem i187:Tryd.prog.info? 187=some Tryd.t187:=info_of Tryd.type187
theorem i194:Tryd.prog.info? 194=some Tryd.t194:=info_of Tryd.type194
theorem i196:Tryd.prog.info? 196=some Tryd.t196:=info_of Tryd.type196
def y3:TyI S:=⟨1,[.int .i64 0],.int .i64⟩
theorem k3:TyOk Tryd.prog 3 y3 where
 info:=⟨_,_,i3,rfl,rfl,fun _ _=>⟨.flat rfl (.nil _),.flat rfl (.nil _)⟩⟩
 kind:=Tryd.underlying3
def y4:TyI S:=⟨1,[.bool false],.bool⟩
theorem k4:TyOk Tryd.prog 4 y4 where
 info:=⟨_,_,i4,rfl,rfl,fun _ _=>⟨.flat rfl (.nil _),.flat rfl (.nil _)⟩⟩
 kind:=Tryd.underlying4
def y5:TyI S:=⟨1,[.int .u8 0],.int .u8⟩
theorem k5:TyOk Tryd.prog 5 y5 where
 info:=⟨_,_,i5,rfl,rfl,fun _ _=>⟨.flat rfl (.nil _),.flat rfl (.nil _)⟩⟩
 kind:=Tryd.underlying5
def y9:TyI S:=⟨1,[.str ByteArray.empty],.str⟩
theorem k9:TyOk Tryd.prog 9 y9 where
 info:=⟨_,_,i9,rfl,rfl,fun _ _=>⟨.flat rfl (.nil _),.flat rfl (.nil _)⟩⟩
 kind:=Tryd.underlying9
def y21:TyI S:=⟨1,[.int .i32 0],.int .i32⟩
theorem k21:TyOk Tryd.prog 21 y21 where
 info:=⟨_,_,i21,rfl,rfl,fun _ _=>⟨.flat rfl (.nil _),.flat rfl (.nil _)⟩⟩
 kind:=Tryd.underlying21
def y22:TyI S:=⟨1,[.sl (S:=S) U.leaf [] none],.slice U.leaf 32 [.str ByteArray.empty,.int .i64 0,.int .i64 0]⟩
theorem k22:TyOk Tryd.prog 22 y22 where
 info:=⟨_,_,i22,rfl,rfl,fun _ _=>⟨.flat ⟨rfl,none,0,rfl⟩ (.nil _),.flat ⟨none,rfl⟩ (.nil _)⟩⟩
 kind:=⟨_,_,_,Tryd.underlying22,i94,rfl,rfl,by decide,by decide,rfl,fun _ _=>⟨.flat rfl (.flat rfl (.flat rfl (.nil _))),.flat rfl (.flat rfl (.flat rfl (.nil _)))⟩,rfl⟩
def y23:TyI S:=⟨1,[.sl (S:=S) U.copy [] none],.slice U.copy 40 [.str ByteArray.empty,.sl (S:=S) U.int [] none]⟩
theorem k23:TyOk Tryd.prog 23 y23 where
 info:=⟨_,_,i23,rfl,rfl,fun _ _=>⟨.flat ⟨rfl,none,0,rfl⟩ (.nil _),.flat ⟨none,rfl⟩ (.nil _)⟩⟩
 kind:=⟨_,_,_,Tryd.underlying23,i88,rfl,rfl,by decide,by decide,rfl,fun _ _=>⟨.flat rfl (.flat ⟨rfl,none,0,rfl⟩ (.nil _)),.flat rfl (.flat ⟨none,rfl⟩ (.nil _))⟩,rfl⟩
def y25:TyI S:=⟨3,[.int .i64 0,.sl (S:=S) U.leaf [] none,.sl (S:=S) U.copy [] none],.struct [(0,3,1),(1,22,1),(2,23,1)]⟩
theorem k25:TyOk Tryd.prog 25 y25 where
 info:=⟨_,_,i25,rfl,rfl,fun _ _=>⟨.flat rfl (.flat ⟨rfl,none,0,rfl⟩ (.flat ⟨rfl,none,0,rfl⟩ (.nil _))),.flat rfl (.flat ⟨none,rfl⟩ (.flat ⟨none,rfl⟩ (.nil _)))⟩⟩
 kind:=⟨_,[(0,1),(1,1),(2,1)],Tryd.underlying25,by simp only [List.mapM_cons,List.mapM_nil,i22,i23,i3]; rfl,fun i off ft sz h=>match i,h with
  | 0,h=>by cases h; exact ⟨rfl,by decide,_,rfl,rfl,rfl,_,i3,rfl⟩
  | 1,h=>by cases h; exact ⟨rfl,by decide,_,rfl,rfl,rfl,_,i22,rfl⟩
  | 2,h=>by cases h; exact ⟨rfl,by decide,_,rfl,rfl,rfl,_,i23,rfl⟩
  | n+3,h=>by cases h⟩
def y26:TyI S:=⟨2,[.arr (S:=S) U.int 2 [0,0]],.array U.int 2⟩
theorem k26:TyOk Tryd.prog 26 y26 where
 info:=⟨_,_,i26,rfl,rfl,fun _ _=>⟨Reps.arr (ws:=[.int .i64 0,.int .i64 0]) rfl (.flat rfl (.flat rfl (.nil _))) (.nil _),Reps.arr (ws:=[.int .i64 0,.int .i64 0]) rfl (.flat rfl (.flat rfl (.nil _))) (.nil _)⟩⟩
 kind:=⟨_,_,Tryd.underlying26,i3,rfl,by decide⟩
def y27:TyI S:=⟨1,[.int .i64 0],.int .i64⟩
theorem k27:TyOk Tryd.prog 27 y27 where
 info:=⟨_,_,i27,rfl,rfl,fun _ _=>⟨.flat rfl (.nil _),.flat rfl (.nil _)⟩⟩
 kind:=Tryd.underlying27
def y30:TyI S:=⟨1,[.sl (S:=S) U.int [] none],.slice U.int 8 [.int .i64 0]⟩
theorem k30:TyOk Tryd.prog 30 y30 where
 info:=⟨_,_,i30,rfl,rfl,fun _ _=>⟨.flat ⟨rfl,none,0,rfl⟩ (.nil _),.flat ⟨none,rfl⟩ (.nil _)⟩⟩
 kind:=⟨_,_,_,Tryd.underlying30,i3,rfl,rfl,by decide,by decide,rfl,fun _ _=>⟨.flat rfl (.nil _),.flat rfl (.nil _)⟩,rfl⟩
def y32:TyI S:=⟨1,[.nilf],.func⟩
theorem k32:TyOk Tryd.prog 32 y32 where
 info:=⟨_,_,i32,rfl,rfl,fun _ _=>⟨.flat rfl (.nil _),.flat rfl (.nil _)⟩⟩
 kind:=⟨_,_,_,Tryd.underlying32⟩
def y41:TyI S:=⟨1,[.sl (S:=S) U.ints [] none],.slice U.ints 24 [.sl (S:=S) U.int [] none]⟩
theorem k41:TyOk Tryd.prog 41 y41 where
 info:=⟨_,_,i41,rfl,rfl,fun _ _=>⟨.flat ⟨rfl,none,0,rfl⟩ (.nil _),.flat ⟨none,rfl⟩ (.nil _)⟩⟩
 kind:=⟨_,_,_,Tryd.underlying41,i30,rfl,rfl,by decide,by decide,rfl,fun _ _=>⟨.flat ⟨rfl,none,0,rfl⟩ (.nil _),.flat ⟨none,rfl⟩ (.nil _)⟩,rfl⟩
def y46:TyI S:=⟨1,[.sl (S:=S) U.seen [] none],.slice U.seen 24 [.int .i64 0,.int .i64 0,.int .i64 0]⟩
theorem k46:TyOk Tryd.prog 46 y46 where
 info:=⟨_,_,i46,rfl,rfl,fun _ _=>⟨.flat ⟨rfl,none,0,rfl⟩ (.nil _),.flat ⟨none,rfl⟩ (.nil _)⟩⟩
 kind:=⟨_,_,_,Tryd.underlying46,i84,rfl,rfl,by decide,by decide,rfl,fun _ _=>⟨.flat rfl (.flat rfl (.flat rfl (.nil _))),.flat rfl (.flat rfl (.flat rfl (.nil _)))⟩,rfl⟩
def y48:TyI S:=⟨1,[.sl (S:=S) U.seen [] none],.struct [(0,46,1)]⟩
theorem k48:TyOk Tryd.prog 48 y48 where
 info:=⟨_,_,i48,rfl,rfl,fun _ _=>⟨.flat ⟨rfl,none,0,rfl⟩ (.nil _),.flat ⟨none,rfl⟩ (.nil _)⟩⟩
 kind:=⟨_,[(0,1)],Tryd.underlying48,by simp only [List.mapM_cons,List.mapM_nil,i46]; rfl,fun i off ft sz h=>match i,h with
  | 0,h=>by cases h; exact ⟨rfl,by decide,_,rfl,rfl,rfl,_,i46,rfl⟩
  | n+1,h=>by cases h⟩
def y57:TyI S:=⟨2,[.int .i64 0,.int .i64 0],.struct [(0,3,1),(1,3,1)]⟩
theorem k57:TyOk Tryd.prog 57 y57 where
 info:=⟨_,_,i57,rfl,rfl,fun _ _=>⟨.flat rfl (.flat rfl (.nil _)),.flat rfl (.flat rfl (.nil _))⟩⟩
 kind:=⟨_,[(0,1),(1,1)],Tryd.underlying57,by simp only [List.mapM_cons,List.mapM_nil,i3]; rfl,fun i off ft sz h=>match i,h with
  | 0,h=>by cases h; exact ⟨rfl,by decide,_,rfl,rfl,rfl,_,i3,rfl⟩
  | 1,h=>by cases h; exact ⟨rfl,by decide,_,rfl,rfl,rfl,_,i3,rfl⟩
  | n+2,h=>by cases h⟩
def y63:TyI S:=⟨1,[.sl (S:=S) U.u8 [] none],.slice U.u8 1 [.int .u8 0]⟩
theorem k63:TyOk Tryd.prog 63 y63 where
 info:=⟨_,_,i63,rfl,rfl,fun _ _=>⟨.flat ⟨rfl,none,0,rfl⟩ (.nil _),.flat ⟨none,rfl⟩ (.nil _)⟩⟩
 kind:=⟨_,_,_,Tryd.underlying63,i5,rfl,rfl,by decide,by decide,rfl,fun _ _=>⟨.flat rfl (.nil _),.flat rfl (.nil _)⟩,rfl⟩
def y64:TyI S:=⟨1,[.nilf],.func⟩
theorem k64:TyOk Tryd.prog 64 y64 where
 info:=⟨_,_,i64,rfl,rfl,fun _ _=>⟨.flat rfl (.nil _),.flat rfl (.nil _)⟩⟩
 kind:=⟨_,_,_,Tryd.underlying64⟩
def y72:TyI S:=⟨4,[.sl (S:=S) U.u8 [] none,.sl (S:=S) U.u8 [] none,.sl (S:=S) U.u8 [] none,.sl (S:=S) U.u8 [] none],.struct [(0,63,1),(1,63,1),(2,63,1),(3,63,1)]⟩
theorem k72:TyOk Tryd.prog 72 y72 where
 info:=⟨_,_,i72,rfl,rfl,fun _ _=>⟨.flat ⟨rfl,none,0,rfl⟩ (.flat ⟨rfl,none,0,rfl⟩ (.flat ⟨rfl,none,0,rfl⟩ (.flat ⟨rfl,none,0,rfl⟩ (.nil _)))),.flat ⟨none,rfl⟩ (.flat ⟨none,rfl⟩ (.flat ⟨none,rfl⟩ (.flat ⟨none,rfl⟩ (.nil _))))⟩⟩
 kind:=⟨_,[(0,1),(1,1),(2,1),(3,1)],Tryd.underlying72,by simp only [List.mapM_cons,List.mapM_nil,i63]; rfl,fun i off ft sz h=>match i,h with
  | 0,h=>by cases h; exact ⟨rfl,by decide,_,rfl,rfl,rfl,_,i63,rfl⟩
  | 1,h=>by cases h; exact ⟨rfl,by decide,_,rfl,rfl,rfl,_,i63,rfl⟩
  | 2,h=>by cases h; exact ⟨rfl,by decide,_,rfl,rfl,rfl,_,i63,rfl⟩
  | 3,h=>by cases h; exact ⟨rfl,by decide,_,rfl,rfl,rfl,_,i63,rfl⟩
  | n+4,h=>by cases h⟩
def y82:TyI S:=⟨2,[.arr (S:=S) U.u8 2 [0,0]],.array U.u8 2⟩
theorem k82:TyOk Tryd.prog 82 y82 where
 info:=⟨_,_,i82,rfl,rfl,fun _ _=>⟨Reps.arr (ws:=[.int .u8 0,.int .u8 0]) rfl (.flat rfl (.flat rfl (.nil _))) (.nil _),Reps.arr (ws:=[.int .u8 0,.int .u8 0]) rfl (.flat rfl (.flat rfl (.nil _))) (.nil _)⟩⟩
 kind:=⟨_,_,Tryd.underlying82,i5,rfl,by decide⟩
def y84:TyI S:=⟨3,[.int .i64 0,.int .i64 0,.int .i64 0],.struct [(0,3,1),(1,57,2)]⟩
theorem k84:TyOk Tryd.prog 84 y84 where
 info:=⟨_,_,i84,rfl,rfl,fun _ _=>⟨.flat rfl (.flat rfl (.flat rfl (.nil _))),.flat rfl (.flat rfl (.flat rfl (.nil _)))⟩⟩
 kind:=⟨_,[(0,1),(1,2)],Tryd.underlying84,by simp only [List.mapM_cons,List.mapM_nil,i3,i57]; rfl,fun i off ft sz h=>match i,h with
  | 0,h=>by cases h; exact ⟨rfl,by decide,_,rfl,rfl,rfl,_,i3,rfl⟩
  | 1,h=>by cases h; exact ⟨rfl,by decide,_,rfl,rfl,rfl,_,i57,rfl⟩
  | n+2,h=>by cases h⟩
def y86:TyI S:=⟨3,[.arr (S:=S) U.u8 3 [0,0,0]],.array U.u8 3⟩
theorem k86:TyOk Tryd.prog 86 y86 where
 info:=⟨_,_,i86,rfl,rfl,fun _ _=>⟨Reps.arr (ws:=[.int .u8 0,.int .u8 0,.int .u8 0]) rfl (.flat rfl (.flat rfl (.flat rfl (.nil _)))) (.nil _),Reps.arr (ws:=[.int .u8 0,.int .u8 0,.int .u8 0]) rfl (.flat rfl (.flat rfl (.flat rfl (.nil _)))) (.nil _)⟩⟩
 kind:=⟨_,_,Tryd.underlying86,i5,rfl,by decide⟩
def y88:TyI S:=⟨2,[.str ByteArray.empty,.sl (S:=S) U.int [] none],.struct [(0,9,1),(1,30,1)]⟩
theorem k88:TyOk Tryd.prog 88 y88 where
 info:=⟨_,_,i88,rfl,rfl,fun _ _=>⟨.flat rfl (.flat ⟨rfl,none,0,rfl⟩ (.nil _)),.flat rfl (.flat ⟨none,rfl⟩ (.nil _))⟩⟩
 kind:=⟨_,[(0,1),(1,1)],Tryd.underlying88,by simp only [List.mapM_cons,List.mapM_nil,i30,i9]; rfl,fun i off ft sz h=>match i,h with
  | 0,h=>by cases h; exact ⟨rfl,by decide,_,rfl,rfl,rfl,_,i9,rfl⟩
  | 1,h=>by cases h; exact ⟨rfl,by decide,_,rfl,rfl,rfl,_,i30,rfl⟩
  | n+2,h=>by cases h⟩
def y94:TyI S:=⟨3,[.str ByteArray.empty,.int .i64 0,.int .i64 0],.struct [(0,9,1),(1,3,1),(2,3,1)]⟩
theorem k94:TyOk Tryd.prog 94 y94 where
 info:=⟨_,_,i94,rfl,rfl,fun _ _=>⟨.flat rfl (.flat rfl (.flat rfl (.nil _))),.flat rfl (.flat rfl (.flat rfl (.nil _)))⟩⟩
 kind:=⟨_,[(0,1),(1,1),(2,1)],Tryd.underlying94,by simp only [List.mapM_cons,List.mapM_nil,i3,i9]; rfl,fun i off ft sz h=>match i,h with
  | 0,h=>by cases h; exact ⟨rfl,by decide,_,rfl,rfl,rfl,_,i9,rfl⟩
  | 1,h=>by cases h; exact ⟨rfl,by decide,_,rfl,rfl,rfl,_,i3,rfl⟩
  | 2,h=>by cases h; exact ⟨rfl,by decide,_,rfl,rfl,rfl,_,i3,rfl⟩
  | n+3,h=>by cases h⟩
def y97:TyI S:=⟨1,[.nilf],.func⟩
theorem k97:TyOk Tryd.prog 97 y97 where
 info:=⟨_,_,i97,rfl,rfl,fun _ _=>⟨.flat rfl (.nil _),.flat rfl (.nil _)⟩⟩
 kind:=⟨_,_,_,Tryd.underlying97⟩
def y98:TyI S:=⟨1,[.nilf],.func⟩
theorem k98:TyOk Tryd.prog 98 y98 where
 info:=⟨_,_,i98,rfl,rfl,fun _ _=>⟨.flat rfl (.nil _),.flat rfl (.nil _)⟩⟩
 kind:=⟨_,_,_,Tryd.underlying98⟩
def y101:TyI S:=⟨1,[.nilf],.func⟩
theorem k101:TyOk Tryd.prog 101 y101 where
 info:=⟨_,_,i101,rfl,rfl,fun _ _=>⟨.flat rfl (.nil _),.flat rfl (.nil _)⟩⟩
 kind:=⟨_,_,_,Tryd.underlying101⟩
def y102:TyI S:=⟨1,[.nilf],.func⟩
theorem k102:TyOk Tryd.prog 102 y102 where
 info:=⟨_,_,i102,rfl,rfl,fun _ _=>⟨.flat rfl (.nil _),.flat rfl (.nil _)⟩⟩
 kind:=⟨_,_,_,Tryd.underlying102⟩
def y104:TyI S:=⟨1,[.sl (S:=S) U.str [] none],.slice U.str 16 [.str ByteArray.empty]⟩
theorem k104:TyOk Tryd.prog 104 y104 where
 info:=⟨_,_,i104,rfl,rfl,fun _ _=>⟨.flat ⟨rfl,none,0,rfl⟩ (.nil _),.flat ⟨none,rfl⟩ (.nil _)⟩⟩
 kind:=⟨_,_,_,Tryd.underlying104,i9,rfl,rfl,by decide,by decide,rfl,fun _ _=>⟨.flat rfl (.nil _),.flat rfl (.nil _)⟩,rfl⟩
def y107:TyI S:=⟨1,[.nilp],.ptr⟩
theorem k107:TyOk Tryd.prog 107 y107 where
 info:=⟨_,_,i107,rfl,rfl,fun _ _=>⟨.flat rfl (.nil _),.flat rfl (.nil _)⟩⟩
 kind:=⟨_,Tryd.underlying107⟩
def y110:TyI S:=⟨1,[J],.map⟩
theorem k110:TyOk Tryd.prog 110 y110 where
 info:=⟨_,_,i110,rfl,rfl,fun _ _=>⟨.flat trivial (.nil _),.flat trivial (.nil _)⟩⟩
 kind:=⟨_,_,Tryd.underlying110⟩
def y112:TyI S:=⟨4,[.int .i64 0,.sl (S:=S) U.leaf [] none,.sl (S:=S) U.copy [] none,J],.struct [(0,25,3),(3,110,1)]⟩
theorem k112:TyOk Tryd.prog 112 y112 where
 info:=⟨_,_,i112,rfl,rfl,fun _ _=>⟨.flat rfl (.flat ⟨rfl,none,0,rfl⟩ (.flat ⟨rfl,none,0,rfl⟩ (.flat trivial (.nil _)))),.flat rfl (.flat ⟨none,rfl⟩ (.flat ⟨none,rfl⟩ (.flat trivial (.nil _))))⟩⟩
 kind:=⟨_,[(0,3),(3,1)],Tryd.underlying112,by simp only [List.mapM_cons,List.mapM_nil,i110,i25]; rfl,fun i off ft sz h=>match i,h with
  | 0,h=>by cases h; exact ⟨rfl,by decide,_,rfl,rfl,rfl,_,i25,rfl⟩
  | 1,h=>by cases h; exact ⟨rfl,by decide,_,rfl,rfl,rfl,_,i110,rfl⟩
  | n+2,h=>by cases h⟩
def y114:TyI S:=⟨2,[.int .i64 0,.int .i64 0],.struct [(0,3,1),(1,3,1)]⟩
theorem k114:TyOk Tryd.prog 114 y114 where
 info:=⟨_,_,i114,rfl,rfl,fun _ _=>⟨.flat rfl (.flat rfl (.nil _)),.flat rfl (.flat rfl (.nil _))⟩⟩
 kind:=⟨_,[(0,1),(1,1)],Tryd.underlying114,by simp only [List.mapM_cons,List.mapM_nil,i3]; rfl,fun i off ft sz h=>match i,h with
  | 0,h=>by cases h; exact ⟨rfl,by decide,_,rfl,rfl,rfl,_,i3,rfl⟩
  | 1,h=>by cases h; exact ⟨rfl,by decide,_,rfl,rfl,rfl,_,i3,rfl⟩
  | n+2,h=>by cases h⟩
def y124:TyI S:=⟨1,[.nilf],.func⟩
theorem k124:TyOk Tryd.prog 124 y124 where
 info:=⟨_,_,i124,rfl,rfl,fun _ _=>⟨.flat rfl (.nil _),.flat rfl (.nil _)⟩⟩
 kind:=⟨_,_,_,Tryd.underlying124⟩
def y126:TyI S:=⟨6,[.arr (S:=S) U.int 6 [0,0,0,0,0,0]],.array U.int 6⟩
theorem k126:TyOk Tryd.prog 126 y126 where
 info:=⟨_,_,i126,rfl,rfl,fun _ _=>⟨Reps.arr (ws:=[.int .i64 0,.int .i64 0,.int .i64 0,.int .i64 0,.int .i64 0,.int .i64 0]) rfl (.flat rfl (.flat rfl (.flat rfl (.flat rfl (.flat rfl (.flat rfl (.nil _))))))) (.nil _),Reps.arr (ws:=[.int .i64 0,.int .i64 0,.int .i64 0,.int .i64 0,.int .i64 0,.int .i64 0]) rfl (.flat rfl (.flat rfl (.flat rfl (.flat rfl (.flat rfl (.flat rfl (.nil _))))))) (.nil _)⟩⟩
 kind:=⟨_,_,Tryd.underlying126,i3,rfl,by decide⟩
def y128:TyI S:=⟨24,[.arr (S:=S) U.row6 4 [[0,0,0,0,0,0],[0,0,0,0,0,0],[0,0,0,0,0,0],[0,0,0,0,0,0]]],.array U.row6 4⟩
theorem k128:TyOk Tryd.prog 128 y128 where
 info:=⟨_,_,i128,rfl,rfl,fun _ _=>⟨Reps.arr (ws:=[.int .i64 0,.int .i64 0,.int .i64 0,.int .i64 0,.int .i64 0,.int .i64 0,.int .i64 0,.int .i64 0,.int .i64 0,.int .i64 0,.int .i64 0,.int .i64 0,.int .i64 0,.int .i64 0,.int .i64 0,.int .i64 0,.int .i64 0,.int .i64 0,.int .i64 0,.int .i64 0,.int .i64 0,.int .i64 0,.int .i64 0,.int .i64 0]) rfl (Reps.arr (ws:=[.int .i64 0,.int .i64 0,.int .i64 0,.int .i64 0,.int .i64 0,.int .i64 0]) rfl (.flat rfl (.flat rfl (.flat rfl (.flat rfl (.flat rfl (.flat rfl (.nil _))))))) (Reps.arr (ws:=[.int .i64 0,.int .i64 0,.int .i64 0,.int .i64 0,.int .i64 0,.int .i64 0]) rfl (.flat rfl (.flat rfl (.flat rfl (.flat rfl (.flat rfl (.flat rfl (.nil _))))))) (Reps.arr (ws:=[.int .i64 0,.int .i64 0,.int .i64 0,.int .i64 0,.int .i64 0,.int .i64 0]) rfl (.flat rfl (.flat rfl (.flat rfl (.flat rfl (.flat rfl (.flat rfl (.nil _))))))) (Reps.arr (ws:=[.int .i64 0,.int .i64 0,.int .i64 0,.int .i64 0,.int .i64 0,.int .i64 0]) rfl (.flat rfl (.flat rfl (.flat rfl (.flat rfl (.flat rfl (.flat rfl (.nil _))))))) (.nil _))))) (.nil _),Reps.arr (ws:=[.int .i64 0,.int .i64 0,.int .i64 0,.int .i64 0,.int .i64 0,.int .i64 0,.int .i64 0,.int .i64 0,.int .i64 0,.int .i64 0,.int .i64 0,.int .i64 0,.int .i64 0,.int .i64 0,.int .i64 0,.int .i64 0,.int .i64 0,.int .i64 0,.int .i64 0,.int .i64 0,.int .i64 0,.int .i64 0,.int .i64 0,.int .i64 0]) rfl (Reps.arr (ws:=[.int .i64 0,.int .i64 0,.int .i64 0,.int .i64 0,.int .i64 0,.int .i64 0]) rfl (.flat rfl (.flat rfl (.flat rfl (.flat rfl (.flat rfl (.flat rfl (.nil _))))))) (Reps.arr (ws:=[.int .i64 0,.int .i64 0,.int .i64 0,.int .i64 0,.int .i64 0,.int .i64 0]) rfl (.flat rfl (.flat rfl (.flat rfl (.flat rfl (.flat rfl (.flat rfl (.nil _))))))) (Reps.arr (ws:=[.int .i64 0,.int .i64 0,.int .i64 0,.int .i64 0,.int .i64 0,.int .i64 0]) rfl (.flat rfl (.flat rfl (.flat rfl (.flat rfl (.flat rfl (.flat rfl (.nil _))))))) (Reps.arr (ws:=[.int .i64 0,.int .i64 0,.int .i64 0,.int .i64 0,.int .i64 0,.int .i64 0]) rfl (.flat rfl (.flat rfl (.flat rfl (.flat rfl (.flat rfl (.flat rfl (.nil _))))))) (.nil _))))) (.nil _)⟩⟩
 kind:=⟨_,_,Tryd.underlying128,i126,rfl,by decide⟩
def y130:TyI S:=⟨26,[.arr (S:=S) U.row6 4 [[0,0,0,0,0,0],[0,0,0,0,0,0],[0,0,0,0,0,0],[0,0,0,0,0,0]],.int .i64 0,.int .i64 0],.struct [(0,128,24),(24,3,1),(25,3,1)]⟩
theorem k130:TyOk Tryd.prog 130 y130 where
 info:=⟨_,_,i130,rfl,rfl,fun _ _=>⟨Reps.arr (ws:=[.int .i64 0,.int .i64 0,.int .i64 0,.int .i64 0,.int .i64 0,.int .i64 0,.int .i64 0,.int .i64 0,.int .i64 0,.int .i64 0,.int .i64 0,.int .i64 0,.int .i64 0,.int .i64 0,.int .i64 0,.int .i64 0,.int .i64 0,.int .i64 0,.int .i64 0,.int .i64 0,.int .i64 0,.int .i64 0,.int .i64 0,.int .i64 0]) rfl (Reps.arr (ws:=[.int .i64 0,.int .i64 0,.int .i64 0,.int .i64 0,.int .i64 0,.int .i64 0]) rfl (.flat rfl (.flat rfl (.flat rfl (.flat rfl (.flat rfl (.flat rfl (.nil _))))))) (Reps.arr (ws:=[.int .i64 0,.int .i64 0,.int .i64 0,.int .i64 0,.int .i64 0,.int .i64 0]) rfl (.flat rfl (.flat rfl (.flat rfl (.flat rfl (.flat rfl (.flat rfl (.nil _))))))) (Reps.arr (ws:=[.int .i64 0,.int .i64 0,.int .i64 0,.int .i64 0,.int .i64 0,.int .i64 0]) rfl (.flat rfl (.flat rfl (.flat rfl (.flat rfl (.flat rfl (.flat rfl (.nil _))))))) (Reps.arr (ws:=[.int .i64 0,.int .i64 0,.int .i64 0,.int .i64 0,.int .i64 0,.int .i64 0]) rfl (.flat rfl (.flat rfl (.flat rfl (.flat rfl (.flat rfl (.flat rfl (.nil _))))))) (.nil _))))) (.flat rfl (.flat rfl (.nil _))),Reps.arr (ws:=[.int .i64 0,.int .i64 0,.int .i64 0,.int .i64 0,.int .i64 0,.int .i64 0,.int .i64 0,.int .i64 0,.int .i64 0,.int .i64 0,.int .i64 0,.int .i64 0,.int .i64 0,.int .i64 0,.int .i64 0,.int .i64 0,.int .i64 0,.int .i64 0,.int .i64 0,.int .i64 0,.int .i64 0,.int .i64 0,.int .i64 0,.int .i64 0]) rfl (Reps.arr (ws:=[.int .i64 0,.int .i64 0,.int .i64 0,.int .i64 0,.int .i64 0,.int .i64 0]) rfl (.flat rfl (.flat rfl (.flat rfl (.flat rfl (.flat rfl (.flat rfl (.nil _))))))) (Reps.arr (ws:=[.int .i64 0,.int .i64 0,.int .i64 0,.int .i64 0,.int .i64 0,.int .i64 0]) rfl (.flat rfl (.flat rfl (.flat rfl (.flat rfl (.flat rfl (.flat rfl (.nil _))))))) (Reps.arr (ws:=[.int .i64 0,.int .i64 0,.int .i64 0,.int .i64 0,.int .i64 0,.int .i64 0]) rfl (.flat rfl (.flat rfl (.flat rfl (.flat rfl (.flat rfl (.flat rfl (.nil _))))))) (Reps.arr (ws:=[.int .i64 0,.int .i64 0,.int .i64 0,.int .i64 0,.int .i64 0,.int .i64 0]) rfl (.flat rfl (.flat rfl (.flat rfl (.flat rfl (.flat rfl (.flat rfl (.nil _))))))) (.nil _))))) (.flat rfl (.flat rfl (.nil _)))⟩⟩
 kind:=⟨_,[(0,24),(24,1),(25,1)],Tryd.underlying130,by simp only [List.mapM_cons,List.mapM_nil,i128,i3]; rfl,fun i off ft sz h=>match i,h with
  | 0,h=>by cases h; exact ⟨rfl,by decide,_,rfl,rfl,rfl,_,i128,rfl⟩
  | 1,h=>by cases h; exact ⟨rfl,by decide,_,rfl,rfl,rfl,_,i3,rfl⟩
  | 2,h=>by cases h; exact ⟨rfl,by decide,_,rfl,rfl,rfl,_,i3,rfl⟩
  | n+3,h=>by cases h⟩
def y131:TyI S:=⟨1,[.nilf],.func⟩
theorem k131:TyOk Tryd.prog 131 y131 where
 info:=⟨_,_,i131,rfl,rfl,fun _ _=>⟨.flat rfl (.nil _),.flat rfl (.nil _)⟩⟩
 kind:=⟨_,_,_,Tryd.underlying131⟩
def y133:TyI S:=⟨2,[.nilf,.nilf],.struct [(0,131,1),(1,131,1)]⟩
theorem k133:TyOk Tryd.prog 133 y133 where
 info:=⟨_,_,i133,rfl,rfl,fun _ _=>⟨.flat rfl (.flat rfl (.nil _)),.flat rfl (.flat rfl (.nil _))⟩⟩
 kind:=⟨_,[(0,1),(1,1)],Tryd.underlying133,by simp only [List.mapM_cons,List.mapM_nil,i131]; rfl,fun i off ft sz h=>match i,h with
  | 0,h=>by cases h; exact ⟨rfl,by decide,_,rfl,rfl,rfl,_,i131,rfl⟩
  | 1,h=>by cases h; exact ⟨rfl,by decide,_,rfl,rfl,rfl,_,i131,rfl⟩
  | n+2,h=>by cases h⟩
def y134:TyI S:=⟨1,[.nilf],.func⟩
theorem k134:TyOk Tryd.prog 134 y134 where
 info:=⟨_,_,i134,rfl,rfl,fun _ _=>⟨.flat rfl (.nil _),.flat rfl (.nil _)⟩⟩
 kind:=⟨_,_,_,Tryd.underlying134⟩
def y135:TyI S:=⟨1,[.nilf],.func⟩
theorem k135:TyOk Tryd.prog 135 y135 where
 info:=⟨_,_,i135,rfl,rfl,fun _ _=>⟨.flat rfl (.nil _),.flat rfl (.nil _)⟩⟩
 kind:=⟨_,_,_,Tryd.underlying135⟩
def y137:TyI S:=⟨4,[.arr (S:=S) U.int 4 [0,0,0,0]],.array U.int 4⟩
theorem k137:TyOk Tryd.prog 137 y137 where
 info:=⟨_,_,i137,rfl,rfl,fun _ _=>⟨Reps.arr (ws:=[.int .i64 0,.int .i64 0,.int .i64 0,.int .i64 0]) rfl (.flat rfl (.flat rfl (.flat rfl (.flat rfl (.nil _))))) (.nil _),Reps.arr (ws:=[.int .i64 0,.int .i64 0,.int .i64 0,.int .i64 0]) rfl (.flat rfl (.flat rfl (.flat rfl (.flat rfl (.nil _))))) (.nil _)⟩⟩
 kind:=⟨_,_,Tryd.underlying137,i3,rfl,by decide⟩
def y138:TyI S:=⟨4,[.arr (S:=S) U.int 4 [0,0,0,0]],.array U.int 4⟩
theorem k138:TyOk Tryd.prog 138 y138 where
 info:=⟨_,_,i138,rfl,rfl,fun _ _=>⟨Reps.arr (ws:=[.int .i64 0,.int .i64 0,.int .i64 0,.int .i64 0]) rfl (.flat rfl (.flat rfl (.flat rfl (.flat rfl (.nil _))))) (.nil _),Reps.arr (ws:=[.int .i64 0,.int .i64 0,.int .i64 0,.int .i64 0]) rfl (.flat rfl (.flat rfl (.flat rfl (.flat rfl (.nil _))))) (.nil _)⟩⟩
 kind:=⟨_,_,Tryd.underlying138,i3,rfl,by decide⟩
def y140:TyI S:=⟨1,[.nilf],.func⟩
theorem k140:TyOk Tryd.prog 140 y140 where
 info:=⟨_,_,i140,rfl,rfl,fun _ _=>⟨.flat rfl (.nil _),.flat rfl (.nil _)⟩⟩
 kind:=⟨_,_,_,Tryd.underlying140⟩
def y141:TyI S:=⟨1,[.nilf],.func⟩
theorem k141:TyOk Tryd.prog 141 y141 where
 info:=⟨_,_,i141,rfl,rfl,fun _ _=>⟨.flat rfl (.nil _),.flat rfl (.nil _)⟩⟩
 kind:=⟨_,_,_,Tryd.underlying141⟩
def y147:TyI S:=⟨1,[.sl (S:=S) U.intss [] none],.slice U.intss 24 [.sl (S:=S) U.ints [] none]⟩
theorem k147:TyOk Tryd.prog 147 y147 where
 info:=⟨_,_,i147,rfl,rfl,fun _ _=>⟨.flat ⟨rfl,none,0,rfl⟩ (.nil _),.flat ⟨none,rfl⟩ (.nil _)⟩⟩
 kind:=⟨_,_,_,Tryd.underlying147,i41,rfl,rfl,by decide,by decide,rfl,fun _ _=>⟨.flat ⟨rfl,none,0,rfl⟩ (.nil _),.flat ⟨none,rfl⟩ (.nil _)⟩,rfl⟩
def y151:TyI S:=⟨1,[.nilf],.func⟩
theorem k151:TyOk Tryd.prog 151 y151 where
 info:=⟨_,_,i151,rfl,rfl,fun _ _=>⟨.flat rfl (.nil _),.flat rfl (.nil _)⟩⟩
 kind:=⟨_,_,_,Tryd.underlying151⟩
def y154:TyI S:=⟨1,[.sl (S:=S) U.seen [] none],.struct [(0,48,1)]⟩
theorem k154:TyOk Tryd.prog 154 y154 where
 info:=⟨_,_,i154,rfl,rfl,fun _ _=>⟨.flat ⟨rfl,none,0,rfl⟩ (.nil _),.flat ⟨none,rfl⟩ (.nil _)⟩⟩
 kind:=⟨_,[(0,1)],Tryd.underlying154,by simp only [List.mapM_cons,List.mapM_nil,i48]; rfl,fun i off ft sz h=>match i,h with
  | 0,h=>by cases h; exact ⟨rfl,by decide,_,rfl,rfl,rfl,_,i48,rfl⟩
  | n+1,h=>by cases h⟩
def y162:TyI S:=⟨1,[.nilf],.func⟩
theorem k162:TyOk Tryd.prog 162 y162 where
 info:=⟨_,_,i162,rfl,rfl,fun _ _=>⟨.flat rfl (.nil _),.flat rfl (.nil _)⟩⟩
 kind:=⟨_,_,_,Tryd.underlying162⟩
def y177:TyI S:=⟨1,[.nilf],.func⟩
theorem k177:TyOk Tryd.prog 177 y177 where
 info:=⟨_,_,i177,rfl,rfl,fun _ _=>⟨.flat rfl (.nil _),.flat rfl (.nil _)⟩⟩
 kind:=⟨_,_,_,Tryd.underlying177⟩
def y181:TyI S:=⟨3,[.arr (S:=S) U.int 3 [0,0,0]],.array U.int 3⟩
theorem k181:TyOk Tryd.prog 181 y181 where
 info:=⟨_,_,i181,rfl,rfl,fun _ _=>⟨Reps.arr (ws:=[.int .i64 0,.int .i64 0,.int .i64 0]) rfl (.flat rfl (.flat rfl (.flat rfl (.nil _)))) (.nil _),Reps.arr (ws:=[.int .i64 0,.int .i64 0,.int .i64 0]) rfl (.flat rfl (.flat rfl (.flat rfl (.nil _)))) (.nil _)⟩⟩
 kind:=⟨_,_,Tryd.underlying181,i3,rfl,by decide⟩
def y183:TyI S:=⟨1,[.int .u64 0],.int .u64⟩
theorem k183:TyOk Tryd.prog 183 y183 where
 info:=⟨_,_,i183,rfl,rfl,fun _ _=>⟨.flat rfl (.nil _),.flat rfl (.nil _)⟩⟩
 kind:=Tryd.underlying183
def y184:TyI S:=⟨1,[.nilf],.func⟩
theorem k184:TyOk Tryd.prog 184 y184 where
 info:=⟨_,_,i184,rfl,rfl,fun _ _=>⟨.flat rfl (.nil _),.flat rfl (.nil _)⟩⟩
 kind:=⟨_,_,_,Tryd.underlying184⟩
def y185:TyI S:=⟨1,[.nilf],.func⟩
theorem k185:TyOk Tryd.prog 185 y185 where
 info:=⟨_,_,i185,rfl,rfl,fun _ _=>⟨.flat rfl (.nil _),.flat rfl (.nil _)⟩⟩
 kind:=⟨_,_,_,Tryd.underlying185⟩
def y186:TyI S:=⟨1,[.nilf],.func⟩
theorem k186:TyOk Tryd.prog 186 y186 where
 info:=⟨_,_,i186,rfl,rfl,fun _ _=>⟨.flat rfl (.nil _),.flat rfl (.nil _)⟩⟩
 kind:=⟨_,_,_,Tryd.underlying186⟩
def y187:TyI S:=⟨1,[.sl (S:=S) U.fn [] none],.slice U.fn 8 [.nilf]⟩
theorem k187:TyOk Tryd.prog 187 y187 where
 info:=⟨_,_,i187,rfl,rfl,fun _ _=>⟨.flat ⟨rfl,none,0,rfl⟩ (.nil _),.flat ⟨none,rfl⟩ (.nil _)⟩⟩
 kind:=⟨_,_,_,Tryd.underlying187,i131,rfl,rfl,by decide,by decide,rfl,fun _ _=>⟨.flat rfl (.nil _),.flat rfl (.nil _)⟩,rfl⟩
def y194:TyI S:=⟨1,[.int .u32 0],.int .u32⟩
theorem k194:TyOk Tryd.prog 194 y194 where
 info:=⟨_,_,i194,rfl,rfl,fun _ _=>⟨.flat rfl (.nil _),.flat rfl (.nil _)⟩⟩
 kind:=Tryd.underlying194
def y196:TyI S:=⟨1,[.int .u64 0],.int .u64⟩
theorem k196:TyOk Tryd.prog 196 y196 where
 info:=⟨_,_,i196,rfl,rfl,fun _ _=>⟨.flat rfl (.nil _),.flat rfl (.nil _)⟩⟩
 kind:=Tryd.underlying196
def ti:List (Nat×TyI S):=[(3,y3),(4,y4),(5,y5),(9,y9),(21,y21),(22,y22),(23,y23),(25,y25),(26,y26),(27,y27),(30,y30),(32,y32),(41,y41),(46,y46),(48,y48),(57,y57),(63,y63),(64,y64),(72,y72),(82,y82),(84,y84),(86,y86),(88,y88),(94,y94),(97,y97),(98,y98),(101,y101),(102,y102),(104,y104),(107,y107),(110,y110),(112,y112),(114,y114),(124,y124),(126,y126),(128,y128),(130,y130),(131,y131),(133,y133),(134,y134),(135,y135),(137,y137),(138,y138),(140,y140),(141,y141),(147,y147),(151,y151),(154,y154),(162,y162),(177,y177),(181,y181),(183,y183),(184,y184),(185,y185),(186,y186),(187,y187),(194,y194),(196,y196)]
theorem ti_ok:TisOk Tryd.prog ti:=tis_cons k3 <| tis_cons k4 <| tis_cons k5 <| tis_cons k9 <| tis_cons k21 <| tis_cons k22 <| tis_cons k23 <| tis_cons k25 <| tis_cons k26 <| tis_cons k27 <| tis_cons k30 <| tis_cons k32 <| tis_cons k41 <| tis_cons k46 <| tis_cons k48 <| tis_cons k57 <| tis_cons k63 <| tis_cons k64 <| tis_cons k72 <| tis_cons k82 <| tis_cons k84 <| tis_cons k86 <| tis_cons k88 <| tis_cons k94 <| tis_cons k97 <| tis_cons k98 <| tis_cons k101 <| tis_cons k102 <| tis_cons k104 <| tis_cons k107 <| tis_cons k110 <| tis_cons k112 <| tis_cons k114 <| tis_cons k124 <| tis_cons k126 <| tis_cons k128 <| tis_cons k130 <| tis_cons k131 <| tis_cons k133 <| tis_cons k134 <| tis_cons k135 <| tis_cons k137 <| tis_cons k138 <| tis_cons k140 <| tis_cons k141 <| tis_cons k147 <| tis_cons k151 <| tis_cons k154 <| tis_cons k162 <| tis_cons k177 <| tis_cons k181 <| tis_cons k183 <| tis_cons k184 <| tis_cons k185 <| tis_cons k186 <| tis_cons k187 <| tis_cons k194 <| tis_cons k196 <| tis_nil
set_option maxRecDepth 100000
set_option maxHeartbeats 1000000
abbrev iv (n:Int):Value:=.int .i64 n
def ivs (l:List Int):Array Value:=(l.map iv).toArray
theorem ivs_get {l:List Int} {i:Nat} (h:i < l.length):(ivs l)[i]?=some (iv (l.getD i 0)):=by
 simp [ivs,List.getD_eq_getElem?_getD,h]
theorem items_int (d:Nat) (w:World) (xs ys:List Int):∀ (is:List Nat),(∀ i∈is,i < xs.length∧i < ys.length) →
  (Op.eqItems (d+1) 3 1 (ivs xs) (ivs ys) is).run Tryd.prog w=.ok (is.all fun i=>xs.getD i 0==ys.getD i 0) w
 | [],_=>rfl
 | i :: is,h=>by
  have hp:Tryd.prog.plainKey 3=true:=by kernel_rfl
  have hi:=h i List.mem_cons_self
  have ih:=items_int d w xs ys is fun j hj=>h j (List.mem_cons_of_mem _ hj)
  simp only [Op.eqItems,Nat.mul_one,Sem.run_bind,run_part_plain w hp (ivs_get hi.1),run_part_plain w hp (ivs_get hi.2),Result.andThen_ok,run_equalIn_int w d 3 .i64 .i64 _ _ Tryd.underlying3]
  cases hb:xs.getD i 0==ys.getD i 0 with
  | true=>simp only [Bool.not_true,Bool.false_eq_true,if_false,ih,List.all_cons,hb,Bool.true_and]
  | false=>simp only [Bool.not_false,if_true,List.all_cons,hb,Bool.false_and]; rfl
theorem all_eq {xs ys:List Int} (h:xs.length=ys.length):((List.range xs.length).all fun i=>xs.getD i 0==ys.getD i 0)=(xs==ys):=by
 rw [Bool.eq_iff_iff,List.all_eq_true,beq_iff_eq]
 constructor
 ·intro hq
  apply List.ext_getElem h
  intro i h1 h2
  have:=hq i (List.mem_range.2 h1)
  simpa [List.getD_eq_getElem?_getD,h1,h2] using this
 rintro rfl i _; simp
theorem eq126 (d:Nat) (w:World) (xs ys:List Int) (hx:xs.length=6) (hy:ys.length=6):(Op.equalIn (d+2) 126 (.agg (ivs xs)) (.agg (ivs ys))).run Tryd.prog w=.ok (xs==ys) w:=by
 rw [run_equalIn_array w (d+1) (ivs xs) (ivs ys) Tryd.underlying126 i3,show Tryd.prog.cellsOf 3=1 by kernel_rfl,items_int d w xs ys _ fun i hi=>by have:=List.mem_range.1 hi; omega,←all_eq (hx.trans hy.symm),hx]
def flat6 (xss:List (List Int)):List Int:=xss.flatMap id
theorem flat6_at:∀ {xss:List (List Int)},(∀ x∈xss,x.length=6)→∀ {i:Nat},i < xss.length→((flat6 xss).drop (i * 6)).take 6=xss.getD i []
 | [],_,i,hi=>by simp at hi
 | x :: xss,h,i,hi=>by
  have hx:=h x List.mem_cons_self
  have e:flat6 (x :: xss)=x++flat6 xss:=by simp [flat6]
  rw [e]
  cases i with
  | zero=>simp [←hx]
  | succ i =>
   have:=flat6_at (xss:=xss) (fun y hy=>h y (List.mem_cons_of_mem _ hy)) (i:=i) (by simpa using hi)
   rw [show (i+1) * 6=x.length+i * 6 by omega,←List.drop_drop,List.drop_left]
   simpa using this
theorem part_row (w:World) {xss:List (List Int)} (h:∀ x∈xss,x.length=6) {i:Nat} (hi:i < xss.length):(part 126 (ivs (flat6 xss)) (i * 6)).run Tryd.prog w=.ok (.agg (ivs (xss.getD i []))) w:=by
 have hl:(ivs (flat6 xss)).extract (i * 6) (i * 6+6)=ivs (xss.getD i []):=by
  apply Array.ext'
  rw [Array.toList_extract]
  simp only [ivs,List.extract,←flat6_at h hi,List.map_take,List.map_drop]
  congr 1; omega
 simp [part,isAgg,run_underlying Tryd.underlying126,run_sizeOf i126,hl,show Tryd.t126.size=6 from rfl]
theorem items_row (d:Nat) (w:World) {xs ys:List (List Int)} (hx:∀ x∈xs,x.length=6) (hy:∀ y∈ys,y.length=6):∀ (is:List Nat),(∀ i∈is,i < xs.length∧i < ys.length) →
  (Op.eqItems (d+2) 126 6 (ivs (flat6 xs)) (ivs (flat6 ys)) is).run Tryd.prog w=.ok (is.all fun i=>xs.getD i []==ys.getD i []) w
 | [],_=>rfl
 | i :: is,h=>by
  have hi:=h i List.mem_cons_self
  have ih:=items_row d w hx hy is fun j hj=>h j (List.mem_cons_of_mem _ hj)
  have h1:(xs.getD i []).length=6:=hx _ (by rw [List.getD_eq_getElem?_getD,List.getElem?_eq_getElem hi.1]; exact List.getElem_mem hi.1)
  have h2:(ys.getD i []).length=6:=hy _ (by rw [List.getD_eq_getElem?_getD,List.getElem?_eq_getElem hi.2]; exact List.getElem_mem hi.2)
  simp only [Op.eqItems,Sem.run_bind,part_row w hx hi.1,part_row w hy hi.2,Result.andThen_ok,eq126 d w _ _ h1 h2]
  cases hb:xs.getD i []==ys.getD i [] with
  | true=>simp only [Bool.not_true,Bool.false_eq_true,if_false,ih,List.all_cons,hb,Bool.true_and]
  | false=>simp only [Bool.not_false,if_true,List.all_cons,hb,Bool.false_and]; rfl
theorem all_eq2 {xs ys:List (List Int)} (h:xs.length=ys.length):((List.range xs.length).all fun i=>xs.getD i []==ys.getD i [])=(xs==ys):=by
 rw [Bool.eq_iff_iff,List.all_eq_true,beq_iff_eq]
 constructor
 ·intro hq
  apply List.ext_getElem h
  intro i h1 h2
  have:=hq i (List.mem_range.2 h1)
  simpa [List.getD_eq_getElem?_getD,h1,h2] using this
 rintro rfl i _; simp
theorem eq128 (d:Nat) (w:World) (xs ys:List (List Int)) (hx:∀ x∈xs,x.length=6) (hy:∀ y∈ys,y.length=6) (hxl:xs.length=4) (hyl:ys.length=4) :
  (Op.equalIn (d+3) 128 (.agg (ivs (flat6 xs))) (.agg (ivs (flat6 ys)))).run Tryd.prog w=.ok (xs==ys) w:=by
 rw [run_equalIn_array w (d+2) _ _ Tryd.underlying128 i126,show Tryd.prog.cellsOf 126=6 by kernel_rfl,items_row d w hx hy _ fun i hi=>by have:=List.mem_range.1 hi; omega,←all_eq2 (hxl.trans hyl.symm),hxl]
theorem eq57 (a b a' b':Int) (w:World):(Op.equalIn 10000 57 (.agg #[.int .i64 a,.int .i64 b]) (.agg #[.int .i64 a',.int .i64 b'])).run Tryd.prog w=.ok (a==a'&&b==b') w:=by
 have u3:=Tryd.underlying3
 have a3:=Tryd.isAgg3
 have z3:=Tryd.sizeOf3
 have hS:Tryd.prog.underlying 57=some (.struct (Tryd.prog.fieldsOf 57)):=by kernel_rfl
 have hp:Tryd.prog.stoodInHeld 57=false:=by kernel_rfl
 rw [show (10000:Nat)=9999+1 from rfl,run_equalIn_agg w 9999 57 _ _ hS hp]
 simp only [Program.fieldsOf,Tryd.underlying57]
 go_simp
 by_cases h1:a=a' <;> by_cases h2:b=b' <;> simp [h1,h2]
theorem eq114 (a b a' b':Int) (w:World):(Op.equalIn 10000 114 (.agg #[.int .i64 a,.int .i64 b]) (.agg #[.int .i64 a',.int .i64 b'])).run Tryd.prog w=.ok (a==a'&&b==b') w:=by
 have u3:=Tryd.underlying3
 have a3:=Tryd.isAgg3
 have z3:=Tryd.sizeOf3
 have hS:Tryd.prog.underlying 114=some (.struct (Tryd.prog.fieldsOf 114)):=by kernel_rfl
 have hp:Tryd.prog.stoodInHeld 114=false:=by kernel_rfl
 rw [show (10000:Nat)=9999+1 from rfl,run_equalIn_agg w 9999 114 _ _ hS hp]
 simp only [Program.fieldsOf,Tryd.underlying114]
 go_simp
 by_cases h1:a=a' <;> by_cases h2:b=b' <;> simp [h1,h2]
def twoE:List (AV S)→List (AV S)→Option Bool
 | [.int .i64 a,.int .i64 b],[.int .i64 a',.int .i64 b']=>some (a==a'&&b==b')
 | _,_=>none
def planE:List (AV S)→List (AV S)→Option Bool
 | [.arr u 4 xs],[.arr v 4 ys]=>match u,xs,v,ys with
  | .row6,xs,.row6,ys=>some (xs==ys)
  | _,_,_,_=>none
 | _,_=>none
def eqtS (t:TypeId) (xs ys:List (AV S)):Option Bool:=match Nat.beq t 57 with
 | true=>twoE xs ys
 | false=>match Nat.beq t 128 with
  | true=>planE xs ys
  | false=>none
theorem agg2 {w:World} {V:Nat→Nat→Prop} {l:Loc} {v:Value} {i j:IntKind} {a b:Int} (h:Rep w V l v (.agg [.int i a,.int j b]:AV S)):v=.agg #[.int i a,.int j b]:=by
 obtain ⟨d,rfl,h'⟩:=Rep.agg h
 obtain ⟨v1,vs,h1,h2,h3⟩:=h'.head trivial
 obtain ⟨v2,vs',rfl,h4,h5⟩:=h3.head trivial
 obtain rfl:=h5.nil_inv
 congr 1
 apply Array.ext'
 rw [h1,h2.int,h4.int]
theorem ints_of {w:World} {V:Nat→Nat→Prop} {l:Loc}:∀ {xs:List Int} {ws:List Value},Reps w V l ws (xs.flatMap (Cod.enc (S:=S) U.int))→ws=xs.map iv
 | [],ws,h=>h.nil_inv
 | x :: xs,ws,h=>by
  rw [List.flatMap_cons] at h
  obtain ⟨v,vs,rfl,h1,h2⟩:=Reps.head (c:=.int .i64 x) (cs:=xs.flatMap (Cod.enc (S:=S) U.int)) h trivial
  rw [h1.int,ints_of h2]; rfl
theorem rows_of {w:World} {V:Nat→Nat→Prop} {l:Loc}:∀ {xss:List (List Int)} {ws:List Value},Reps w V l ws (xss.flatMap (Cod.enc (S:=S) U.row6))→ws=(flat6 xss).map iv∧∀ x∈xss,x.length=6
 | [],ws,h=>⟨h.nil_inv,fun x hx=>by cases hx⟩
 | x :: xss,ws,h=>by
  rw [List.flatMap_cons] at h
  obtain ⟨va,vb,rfl,h1,h2⟩:=h.split
  obtain ⟨h3,h4⟩:=rows_of h2
  have h5:va=x.map iv∧x.length=6:=by
   have h1:Reps w V l va [AV.arr (S:=S) U.int 6 x]:=h1
   cases h1 with
   | flat h t=>exact h.elim
   | arr hx r t=>rw [t.nil_inv,List.append_nil]; exact ⟨ints_of r,hx⟩
  refine ⟨by rw [h3,h5.1,←List.map_append]; simp [flat6],fun y hy=>?_⟩
  rcases List.mem_cons.1 hy with rfl | hy
  ·exact h5.2
  exact h4 y hy
theorem agg24 {w:World} {V:Nat→Nat→Prop} {l:Loc} {v:Value} {xs:List (List Int)} (h:Rep w V l v (.agg [.arr (S:=S) U.row6 4 xs]:AV S)):v=.agg (ivs (flat6 xs))∧(∀ x∈xs,x.length=6)∧xs.length=4:=by
 obtain ⟨c,rfl,h'⟩:=Rep.agg h
 generalize hcs:c.toList=ws at h'
 cases h' with
 | flat h t=>exact h.elim
 | arr hx r t =>
  rw [t.nil_inv,List.append_nil] at hcs
  obtain ⟨h1,h2⟩:=rows_of r
  refine ⟨?_,h2,hx⟩
  congr 1
  apply Array.ext'
  rw [hcs,h1]; rfl
theorem eqtS_ok:EqtOk (S:=S) Tryd.prog eqtS:=by
 intro t xs ys b h w V l v u y z hv hu
 unfold eqtS at h
 cases ht:Nat.beq t 57 with
 | true =>
  rw [ht] at h
  simp only at h
  have:=Nat.eq_of_beq_eq_true ht
  subst this
  unfold twoE at h
  split at h
  ·cases h
   rw [agg2 hv,agg2 hu]
   have hg:∀ op x y xs ys,(eqGuard op 57 x y (.agg xs) (.agg ys)).run Tryd.prog w=.ok () w:=fun op x y xs ys=>run_eqGuard_agg w op 57 x y xs ys (by kernel_rfl)
   constructor
   ·rw [Sem.run_bind,hg]; simp only [Result.andThen_ok]; rw [run_eql_struct,eq57]; rfl
   rw [Sem.run_bind,hg]; simp only [Result.andThen_ok]; rw [run_neq_struct,eq57]; rfl
  cases h
 | false =>
  rw [ht] at h
  simp only at h
  cases ht2:Nat.beq t 128 with
  | false=>rw [ht2] at h; cases h
  | true =>
   rw [ht2] at h
   simp only at h
   have:=Nat.eq_of_beq_eq_true ht2
   subst this
   unfold planE at h
   split at h
   ·split at h
    ·cases h
     obtain ⟨rfl,h1,h2⟩:=agg24 hv
     obtain ⟨rfl,h3,h4⟩:=agg24 hu
     have hg:∀ op x y xs ys,(eqGuard op 128 x y (.agg xs) (.agg ys)).run Tryd.prog w=.ok () w:=fun op x y xs ys=>run_eqGuard_agg w op 128 x y xs ys (by kernel_rfl)
     constructor
     ·rw [Sem.run_bind,hg]; simp only [Result.andThen_ok]; rw [run_eql_struct,eq128 9997 w _ _ h1 h3 h2 h4]; rfl
     rw [Sem.run_bind,hg]; simp only [Result.andThen_ok]; rw [run_neq_struct,eq128 9997 w _ _ h1 h3 h2 h4]; rfl
    cases h
   cases h
def keqS (c c':AV S):Option Bool:=match c with
 | .agg xs=>match c' with
  | .agg ys=>twoE xs ys
  | _=>none
 | _=>none
def miS:List (Nat×MapI S):=[(110,⟨keqS,3⟩)]
theorem miS_ok:∀ t m,lookA miS t=some m→MapOk (S:=S) Tryd.prog t m:=by
 intro t m h
 simp only [miS,lookA] at h
 by_cases ht:110=t
 ·subst ht
  rw [if_pos rfl] at h
  cases h
  refine ⟨114,_,Tryd.underlying110,Tryd.underlying114,⟨_,_,i3,rfl,rfl⟩,fun k k' b hb w V V' l l' v v' hv hv'=>?_⟩
  change keqS k k'=some b at hb
  unfold keqS at hb
  split at hb
  ·split at hb
   ·unfold twoE at hb
    split at hb
    ·cases hb
     obtain rfl:=agg2 hv
     obtain rfl:=agg2 hv'
     refine ⟨fun e=>?_,?_,.inr rfl,fun hq=>?_⟩
     ·have u3:=Tryd.underlying3
      have a3:=Tryd.isAgg3
      have z3:=Tryd.sizeOf3
      rw [show (10000:Nat)=9999+1 from rfl,Instr.checkKey,Sem.run_bind,run_underlying Tryd.underlying114]
      go_simp
      have c3:∀ (i:Int) (w:World),(Instr.checkKey e 9999 3 (.int .i64 i)).run Tryd.prog w=.ok () w:=by
       intro i w
       rw [show (9999:Nat)=9998+1 from rfl,Instr.checkKey,Sem.run_bind,run_underlying u3]
       rfl
      simp only [c3,Result.andThen_ok]
     ·exact eq114 _ _ _ _ w
     rw [Bool.and_eq_true,beq_iff_eq,beq_iff_eq] at hq
     obtain ⟨rfl,rfl⟩:=hq
     exact ⟨rfl,by simp [Instr.sameBits]⟩
    cases hb
   cases hb
  cases hb
 rw [if_neg ht] at h; cases h
open Go Go.Ab Go.Ab.Pln Go.Proofs
noncomputable abbrev PR:Program:=Tryd.prog
def locB (f:FuncId):Bool:=match Nat.beq f 109 with
 | true=>true
 | false=>match Nat.beq f 133 with
  | true=>true
  | false=>Nat.beq f 135
def aiS:List (Nat×Nat):=[(26,3),(82,5),(86,5),(126,3),(137,3),(138,3),(127,126),(128,126),(181,3)]
theorem aiS_ok:∀ t e,lookA aiS t=some e→∃ n,PR.underlying t=some (.array n e):=by
 intro t e h
 simp only [aiS,lookA] at h
 by_cases h26:26=t
 ·subst h26; rw [if_pos rfl] at h; cases h; exact ⟨_,Tryd.underlying26⟩
 rw [if_neg h26] at h
 by_cases h82:82=t
 ·subst h82; rw [if_pos rfl] at h; cases h; exact ⟨_,Tryd.underlying82⟩
 rw [if_neg h82] at h
 by_cases h86:86=t
 ·subst h86; rw [if_pos rfl] at h; cases h; exact ⟨_,Tryd.underlying86⟩
 rw [if_neg h86] at h
 by_cases h126:126=t
 ·subst h126; rw [if_pos rfl] at h; cases h; exact ⟨_,Tryd.underlying126⟩
 rw [if_neg h126] at h
 by_cases h137:137=t
 ·subst h137; rw [if_pos rfl] at h; cases h; exact ⟨_,Tryd.underlying137⟩
 rw [if_neg h137] at h
 by_cases h138:138=t
 ·subst h138; rw [if_pos rfl] at h; cases h; exact ⟨_,Tryd.underlying138⟩
 rw [if_neg h138] at h
 by_cases h127:127=t
 ·subst h127; rw [if_pos rfl] at h; cases h; exact ⟨_,Tryd.underlying127⟩
 rw [if_neg h127] at h
 by_cases h128:128=t
 ·subst h128; rw [if_pos rfl] at h; cases h; exact ⟨_,Tryd.underlying128⟩
 rw [if_neg h128] at h
 by_cases h181:181=t
 ·subst h181; rw [if_pos rfl] at h; cases h; exact ⟨_,Tryd.underlying181⟩
 rw [if_neg h181] at h
 cases h
noncomputable abbrev pb (gl:Gl) (Y:Type) (B:List (AV S)→Y→(AV S→Y→Prop)→Prop):Par S Y:=stdPar PR gl ti eqtS miS aiS locB B
noncomputable abbrev par (gl:Gl):Par S Unit:=pb gl Unit noB
theorem pb_ok (gl:Gl) (Y:Type) (B:List (AV S)→Y→(AV S→Y→Prop)→Prop) (En:Env Y) (hB:CbOk PR gl En B):ParOk PR gl (pb gl Y B) En:=stdPar_ok eqtS_ok miS_ok aiS_ok ti_ok rfl hB
theorem par_ok (gl:Gl) (En:Env Unit):ParOk PR gl (par gl) En:=pb_ok gl Unit noB En noB_ok
abbrev vI (n:Int):AV S:=.int .i64 n
abbrev vB (b:Bool):AV S:=.bool b
abbrev vL (xs:List Int):AV S:=.sl (S:=S) U.int xs none
abbrev strsV (l:List ByteArray):AV S:=.sl (S:=S) U.str l none
abbrev bytesV (l:List Int):AV S:=.sl (S:=S) U.u8 l none
abbrev intsV (l:List (List Int)):AV S:=.sl (S:=S) U.ints l none
abbrev lfsV (l:List (ByteArray×Int×Int)):AV S:=.sl (S:=S) U.leaf l none
abbrev cpsV (l:List (ByteArray×List Int)):AV S:=.sl (S:=S) U.copy l none
abbrev snsV (l:List (Int×Int×Int)):AV S:=.sl (S:=S) U.seen l none
abbrev setC (p:Int) (ls:List (ByteArray×Int×Int)) (cs:List (ByteArray×List Int)):List (AV S):=[vI p,lfsV ls,cpsV cs]
abbrev setV (p:Int) (ls:List (ByteArray×Int×Int)) (cs:List (ByteArray×List Int)):AV S:=.agg (setC p ls cs)
def eachR {Y:Type} (B:List (AV S)→Y→(AV S→Y→Prop)→Prop):List (List (AV S))→Y→(Bool→Y→Prop)→Prop
 | [],y,K=>K true y
 | v :: vs,y,K=>B v y fun r y'=>match r with
  | .bool b=>match b with
   | true=>eachR B vs y' K
   | false=>K false y'
  | _=>False
def BMono {Y:Type} (B:List (AV S)→Y→(AV S→Y→Prop)→Prop):Prop:=∀ args y K K',(∀ r y,K r y→K' r y)→B args y K→B args y K'
theorem eachR_mono {Y:Type} {B:List (AV S)→Y→(AV S→Y→Prop)→Prop} (hB:BMono B):∀ (vss:List (List (AV S))) (y:Y) (K K':Bool→Y→Prop),(∀ b y,K b y→K' b y)→eachR B vss y K→eachR B vss y K'
 | [],y,K,K',h,hh=>h _ _ hh
 | v :: vss,y,K,K',h,hh=>hB _ _ _ _ (fun r y' hr=>by
  cases r with
  | bool b=>cases b with
   | true=>exact eachR_mono hB vss y' K K' h hr
   | false=>exact h _ _ hr
  | _=>exact hr.elim) hh
theorem eachR_append {Y:Type} {B:List (AV S)→Y→(AV S→Y→Prop)→Prop} (hB:BMono B):∀ (a b:List (List (AV S))) (y:Y) (K:Bool→Y→Prop),eachR B (a++b) y K→eachR B a y fun r y'=>match r with
  | true=>eachR B b y' K
  | false=>K false y'
 | [],b,y,K,h=>h
 | v :: a,b,y,K,h=>hB _ _ _ _ (fun r y' hr=>by
  cases r with
  | bool r=>cases r with
   | true=>exact eachR_append hB a b y' K hr
   | false=>exact hr
  | _=>exact hr.elim) h
theorem eachR_of_B {Y:Type} {B:List (AV S)→Y→(AV S→Y→Prop)→Prop} (hB:BMono B):∀ (vss:List (List (AV S))) (y:Y) (Q:Y→Prop),eachB B vss y Q→eachR B vss y fun _ y'=>Q y'
 | [],y,Q,h=>h
 | v :: vss,y,Q,h=>hB _ _ _ _ (fun r y' hr=>by
  cases r with
  | bool b=>cases b with
   | true=>exact eachR_of_B hB vss y' Q hr
   | false=>exact hr
  | _=>exact hr.elim) h
theorem byC {gl:Gl} {f:FuncId} {args:List (AV S)} {v:AV S} {Q:AV S→Prop} (h:PCalls PR gl f args fun r=>r=v) (ho:Opens PR f) (hQ:Q v):PCalls PR gl f args Q∧Opens PR f∧∃ r,Q r :=
 ⟨h.mono fun r e=>by rw [e]; exact hQ,ho,v,hQ⟩
theorem bitB {a i:Nat} (ha:a < 2 ^ 63) (h:i < 64):(bitsI .and .i64 (shrI .i64 (a:Int) (i:Int)) 1==1)=a.testBit i:=by
 rw [bit_eq ha h]
 cases a.testBit i <;> rfl
theorem c123 (gl:Gl) (x lo hi:Int):PCalls PR gl 123 [vI x,.ref [vI lo],.ref [vI hi]] fun r=>r=vB (outB lo hi x):=by
 refine fnW_sound (par_ok gl) Tryd.func123 ?_;conv=>whnf
 apply bc9<;>intro h
 ·conv=>whnf
  show vB _=_
  simp [outB,of_decide_eq_true h]
 conv=>whnf
 show vB _=_
 have:=of_decide_eq_false h
 simp [outB,this]
theorem op123:Opens PR 123:=⟨_,Tryd.func123,rfl,rfl⟩
theorem idx_any {α:Type} (p:α→Bool):∀ (xs:List α) (i:Nat),decide (idx p xs i≥0)=xs.any p
 | [],i=>rfl
 | x :: xs,i=>by
  simp only [idx,List.any_cons]
  by_cases h:p x=true
  ·simp [h]
  simp only [h,Bool.false_eq_true,if_false,Bool.false_or]
  exact idx_any p xs (i+1)
def fr142 (xs:List Int) (f:AV S) (m:Int) (i:Nat):St S:={ tmps:=[vL xs,f,J,J,J,J,J,vI m,vI i,J,J,J,J,J,J,J,J,J,J],seg:=[],up:=[] }
theorem c142 (gl:Gl) (xs:List Int) (hx:xs.length≤9223372036854775807) (lo hi:Int):PCalls PR gl 142 [vL xs,.clo (.func 123) [] [.ref [vI lo],.ref [vI hi]]] fun r=>r=vI (idx (outB lo hi) xs 0):=by
 refine fnW_sound (par_ok gl) Tryd.func142 ?_;conv=>whnf
 refine ⟨⟨387,[],[]⟩,?_⟩
 refine LoopW_ind _ (fun i:Nat=>fr142 xs (.clo (.func 123) [] [.ref [vI lo],.ref [vI hi]]) xs.length i) (fun i=>i≤xs.length∧idx (outB lo hi) (xs.drop i) i=idx (outB lo hi) xs 0) (fun i=>xs.length - i) () ?_ 0 ⟨Nat.zero_le _,rfl⟩
 rintro i ⟨hi',h⟩ Z hZ
 conv=>whnf
 apply bc9<;>intro h1
 ·have hlt:i < xs.length:=by have:=of_decide_eq_true h1; omega
  have hw:=wrap_nat (n:=i) (by omega)
  rw [List.drop_eq_getElem_cons hlt,idx] at h
  conv=>whnf
  refine ⟨_,getI_nat hlt,?_⟩;conv=>whnf
  refine byC (c123 gl _ lo hi) op123 ?_;conv=>whnf
  apply bc9<;>intro h2
  ·rw [if_pos h2] at h
   conv=>whnf
   rw [←h]
  rw [if_neg (by rw [h2]; simp)] at h
  conv=>whnf
  refine ⟨⟨387,[],[]⟩,?_⟩
  have:=hZ (i+1) ⟨hlt,h⟩ (by omega)
  unfold fr142 at this
  rw [←hw] at this
  exact this
 have hge:i=xs.length:=by have:=of_decide_eq_false h1; omega
 rw [List.drop_eq_nil_of_le (by omega),idx] at h
 conv=>whnf
 rw [←h]
theorem op142:Opens PR 142:=⟨_,Tryd.func142,rfl,rfl⟩
theorem c122 (gl:Gl) (xs:List Int) (hx:xs.length≤9223372036854775807) (lo hi:Int):PCalls PR gl 122 [vL xs,.clo (.func 123) [] [.ref [vI lo],.ref [vI hi]]] fun r=>r=vB (xs.any (outB lo hi)):=by
 refine fnW_sound (par_ok gl) Tryd.func122 ?_;conv=>whnf
 refine byC (c142 gl xs hx lo hi) op142 ?_;conv=>whnf
 show vB (decide (idx (outB lo hi) xs 0≥0))=_
 rw [idx_any]
theorem op122:Opens PR 122:=⟨_,Tryd.func122,rfl,rfl⟩
def fr60 (xs:List Int) (n:Int) (i:Nat):St S:={ tmps:=[vL xs,vI n,J,J,J,vI i,J,J,J,J,J,J,J,J,J,J,J,J],seg:=[],up:=[] }
theorem c143 (gl:Gl) (b:Int):PCalls PR gl 143 [.int .u8 b] fun r=>r=vB (letterB b):=by
 refine fnW_sound (par_ok gl) Tryd.func143 ?_;conv=>whnf
 apply bc9<;>intro h
 ·conv=>whnf
  show vB _=_
  simp only [letterB,h,Bool.true_and]
  rfl
 conv=>whnf
 show vB _=_
 simp only [letterB,h,Bool.false_and]
theorem c144 (gl:Gl) (b:Int):PCalls PR gl 144 [.int .u8 b] fun r=>r=vB (digitB b):=by
 refine fnW_sound (par_ok gl) Tryd.func144 ?_;conv=>whnf
 apply bc9<;>intro h
 ·conv=>whnf
  show vB _=_
  simp only [digitB,h,Bool.true_and]
  rfl
 conv=>whnf
 show vB _=_
 simp only [digitB,h,Bool.false_and]
theorem op143:Opens PR 143:=⟨_,Tryd.func143,rfl,rfl⟩
theorem op144:Opens PR 144:=⟨_,Tryd.func144,rfl,rfl⟩
def fr127 (s:ByteArray) (i:Nat):St S:={ tmps:=[.str s,J,J,vI i,J,J,J,J,J,J,J,J,J,J,J,J,J,J,J,J,J,J,J,J,J,J,J,J,J,J,J,J,J,J,J,J,J,J,J,J],seg:=[],up:=[] }
theorem c127 (gl:Gl) (s:ByteArray) (hs:s.size≤9223372036854775807):PCalls PR gl 127 [.str s] fun r=>r=vB (nameB s):=by
 have hlen:s.data.toList.length=s.size:=rfl
 refine fnW_sound (par_ok gl) Tryd.func127 ?_;conv=>whnf
 apply bc9<;>intro h
 ·conv=>whnf
  have h:s.size=0:=by have:((s.size:Int)==0)=true:=h; simpa using this
  show vB false=_
  simp [nameB,h]
 have h:s.size≠0:=by have:((s.size:Int)==0)=false:=h; simpa using this
 conv=>whnf
 apply bc9<;>intro h2
 ·have h2:s.size > 16:=by have:decide ((s.size:Int) > 16)=true:=h2; have:=of_decide_eq_true this; omega
  conv=>whnf
  show vB false=_
  simp [nameB,h2]
 have h2:¬ s.size > 16:=by have:decide ((s.size:Int) > 16)=false:=h2; have:=of_decide_eq_false this; omega
 have hn:nameB s=namesFrom s.data.toList 0:=by simp [nameB,h,h2]
 conv=>whnf
 refine ⟨⟨9,[],[]⟩,?_⟩
 refine LoopW_ind _ (fun i:Nat=>fr127 s i) (fun i=>i≤s.size∧namesFrom (s.data.toList.drop i) i=nameB s) (fun i=>s.size - i) () ?_ 0 ⟨Nat.zero_le _,hn.symm⟩
 rintro i ⟨hi,h3⟩ Z hZ
 conv=>whnf
 apply bc9<;>intro h4
 ·have hlt:i < s.data.toList.length:=by have:=of_decide_eq_true h4; omega
  have hw:=wrap_nat (n:=i) (by omega)
  rw [List.drop_eq_getElem_cons hlt,namesFrom] at h3
  have hg:getI s.data.toList (i:Int)=some (s.data.toList[i]):=getI_nat hlt
  generalize s.data.toList[i]=b at hg h3
  have hno:chB i b.toNat=false→vB false=vB (nameB s):=fun hc=>by rw [hc,Bool.false_and] at h3; rw [h3]
  have hyes:chB i b.toNat=true→Z (fr127 s (i+1)) ():=fun hc=>by
   rw [hc,Bool.true_and] at h3
   exact hZ (i+1) ⟨by omega,h3⟩ (by omega)
  conv=>whnf
  refine ⟨b,hg,?_⟩;conv=>whnf
  refine byC (c143 gl _) op143 ?_;conv=>whnf
  apply bc9<;>intro h5
  ·have h5:letterB b.toNat=false:=by simpa using h5
   conv=>whnf
   apply bc9<;>intro h6
   ·have h6:i=0:=by have:((i:Int)==0)=true:=h6; simpa using this
    conv=>whnf
    exact hno (by simp [chB,h5,h6])
   have h6:i≠0:=by have:((i:Int)==0)=false:=h6; simpa using this
   conv=>whnf
   refine ⟨b,hg,?_⟩;conv=>whnf
   refine byC (c144 gl _) op144 ?_;conv=>whnf
   apply bc9<;>intro h7
   ·have h7:digitB b.toNat=false:=by simpa using h7
    conv=>whnf
    refine ⟨b,hg,?_⟩;conv=>whnf
    apply bc9<;>intro h8
    ·have h8:((b.toNat:Int) != 46)=true:=h8
     conv=>whnf
     have h8':((b.toNat:Int)==46)=false:=by simpa [bne] using h8
     exact hno (by simp [chB,h5,h6,h7]; simpa using h8')
    have h8:((b.toNat:Int) != 46)=false:=h8
    have h8':((b.toNat:Int)==46)=true:=by simpa [bne] using h8
    conv=>whnf
    refine ⟨⟨9,[],[]⟩,?_⟩
    have:=hyes (by simp only [chB,h5,h7,h8']; simp [h6])
    unfold fr127 at this
    rw [←hw] at this
    exact this
   have h7:digitB b.toNat=true:=by simpa using h7
   conv=>whnf
   refine ⟨⟨9,[],[]⟩,?_⟩
   have:=hyes (by simp [chB,h5,h6,h7])
   unfold fr127 at this
   rw [←hw] at this
   exact this
  have h5:letterB b.toNat=true:=by simpa using h5
  conv=>whnf
  refine ⟨⟨9,[],[]⟩,?_⟩
  have:=hyes (by simp [chB,h5])
  unfold fr127 at this
  rw [←hw] at this
  exact this
 have hge:i=s.size:=by have:=of_decide_eq_false h4; omega
 rw [List.drop_eq_nil_of_le (by omega),namesFrom] at h3
 conv=>whnf
 rw [←h3]
def chR (i c:Int):Bool:=(decide (c≥97)&&decide (c≤122))||(decide (i > 0)&&((decide (c≥48)&&decide (c≤57))||c==46))
def nmR (s:ByteArray):Nat→Nat→Bool
 | 0,_=>true
 | b+1,pos=>if pos < s.size then chR pos (Utf8.decode s pos).1&&nmR s b (pos+(Utf8.decode s pos).2) else true
def nameR (s:ByteArray):Bool:=nmR s s.size 0&&(!(s.size==0)&&decide (s.size≤16))
theorem width_pos (s:ByteArray) (pos:Nat) (h:pos < s.size):1≤(Utf8.decode s pos).2:=by
 by_cases ha:(s[pos]'h).toNat < 128
 ·rw [decode_ascii s pos h ha]
  exact Nat.le_refl _
 exact (decode_high s pos h (by omega)).2
theorem nm_end (s:ByteArray) (b pos:Nat) (h:¬ pos < s.size):nmR s b pos=true:=by
 cases b with
 | zero=>rfl
 | succ b=>simp [nmR,h]
theorem size_zero_iff (s:ByteArray):s.toList=[]↔s.size=0:=by
 rw [ByteArray.toList_eq]
 have h:s.data.toList.length=s.size:=rfl
 constructor
 ·intro e; rw [←h,e]; rfl
 intro e; exact List.eq_nil_of_length_eq_zero (h.trans e)
def R65 (s:ByteArray) (w:World) (e:Ending) (w':World):Prop:=e=.returned (.bool (nameR s))∧∃ pos,w'=w.iter s pos
theorem walk65 (s:ByteArray) (w:World) :
  Calls Tryd.prog 65 #[.string s] w (R65 s w):=by
 go_enter Tryd.func65,Tryd.ntmps65
 go_wp2
 go_loopw [] (fun w'=>∃ (pos b:Nat),w'=w.iter s pos∧nmR s b pos=nmR s s.size 0∧s.size≤pos+b) (fun w'=>s.size - w'.iterPos w.heap.size)
 case atStart=>exact ⟨0,s.size,rfl,rfl,by omega⟩
 case round =>
  obtain ⟨pos,b,rfl,hc,hb⟩:=hrel
  by_cases hp:pos < s.size
  ·have hnx:∀ ty,(Instr.next (.pointer (some ⟨w.heap.size,0,none⟩)) true ty).run Tryd.prog (w.iter s pos)=_:=fun ty=>run_next_any w s pos ty hp
   have hwd:=width_pos s pos hp
   cases b with
   | zero=>omega
   | succ b =>
    simp only [nmR,hp,if_true] at hc
    go_wp2
    all_goals first
     | (refine ⟨⟨pos+(Utf8.decode s pos).2,b,rfl,?_,by omega⟩,by simp; omega⟩
        have hq:chR pos (Utf8.decode s pos).1=true:=by
         clear hc hnx
         simp only [chR,Bool.or_eq_true,Bool.and_eq_true,decide_eq_true_eq,beq_iff_eq] at *
         omega
        rw [hq,Bool.true_and] at hc
        exact hc)
     | (have hq:chR pos (Utf8.decode s pos).1=false:=by
          clear hc hnx
          rw [Bool.eq_false_iff]
          intro hf
          simp only [chR,Bool.or_eq_true,Bool.and_eq_true,decide_eq_true_eq,beq_iff_eq,beq_eq_false_iff_ne,ne_eq] at *
          omega
        rw [hq,Bool.false_and] at hc
        go_ret
        have hn:nameR s=false:=by rw [nameR,←hc,Bool.false_and]
        exact ⟨by rw [hn]; rfl,_,rfl⟩)
  have hnx:∀ ty,(Instr.next (.pointer (some ⟨w.heap.size,0,none⟩)) true ty).run Tryd.prog (w.iter s pos)=_:=fun ty=>run_next_end w s pos ty hp
  rw [nm_end s b pos hp] at hc
  replace hc:=hc.symm
  go_wp2
  ·rename_i h
   have h0:s.size=0:=(size_zero_iff s).1 h
   have hn:nameR s=false:=by simp [nameR,h0]
   go_ret
   exact ⟨by rw [hn]; rfl,_,rfl⟩
  rename_i h
  have h0:s.size≠0:=fun e=>h ((size_zero_iff s).2 e)
  have h1:s.toList.isEmpty=false:=by
   cases hl:s.toList with
   | nil=>exact absurd hl h
   | cons a b=>rfl
  have hn:nameR s=(!s.toList.isEmpty&&decide ((s.size:Int)≤16)):=by
   rw [nameR,hc,h1,Bool.true_and,Bool.not_false]
   have:(s.size==0)=false:=by simpa using h0
   rw [this,Bool.not_false,Bool.true_and,Bool.true_and]
   exact decide_eq_decide.2 (by omega)
  go_ret
  exact ⟨by rw [hn]; rfl,_,rfl⟩
theorem nmR_eq (s:ByteArray):∀ (b pos:Nat),s.size≤pos+b→nmR s b pos=namesFrom (s.data.toList.drop pos) pos
 | 0,pos,h=>by
  have hl:s.data.toList.length=s.size:=rfl
  rw [List.drop_eq_nil_of_le (by omega)]; rfl
 | b+1,pos,h=>by
  have hl:s.data.toList.length=s.size:=rfl
  by_cases hp:pos < s.size
  ·rw [List.drop_eq_getElem_cons (by omega:pos < s.data.toList.length)]
   simp only [nmR,hp,if_true,namesFrom]
   have hb:s.data.toList[pos]=s[pos]'hp:=rfl
   rw [hb]
   by_cases ha:(s[pos]'hp).toNat < 128
   ·rw [decode_ascii s pos hp ha]
    simp only
    rw [nmR_eq s b (pos+1) (by omega)]
    congr 1
    rw [Bool.eq_iff_iff]
    simp only [chR,chB,letterB,digitB,Bool.or_eq_true,Bool.and_eq_true,decide_eq_true_eq,beq_iff_eq,Bool.not_eq_true',beq_eq_false_iff_ne,ne_eq]
    omega
   obtain ⟨h1,h2⟩:=decode_high s pos hp (by omega)
   have hf:chR pos (Utf8.decode s pos).1=false:=by
    rw [Bool.eq_false_iff]
    simp only [chR,ne_eq,Bool.or_eq_true,Bool.and_eq_true,decide_eq_true_eq,beq_iff_eq]
    omega
   have hg:chB pos (s[pos]'hp).toNat=false:=by
    rw [Bool.eq_false_iff]
    simp only [chB,letterB,digitB,ne_eq,Bool.or_eq_true,Bool.and_eq_true,decide_eq_true_eq,beq_iff_eq,Bool.not_eq_true',beq_eq_false_iff_ne]
    omega
   rw [hf,hg,Bool.false_and,Bool.false_and]
  rw [nm_end s _ pos hp,List.drop_eq_nil_of_le (by omega)]; rfl
theorem nameR_eq (s:ByteArray):nameR s=nameB s:=by
 rw [nameR,nameB,nmR_eq s s.size 0 (by omega),List.drop_zero]
 have:decide (s.size≤16)=!decide (s.size > 16):=by
  rw [Bool.eq_iff_iff]; simp
 rw [this,Bool.and_comm]
theorem c65 (gl:Gl) (s:ByteArray):PCalls PR gl 65 [.str s] fun r=>r=vB (nameB s):=by
 intro w V vs hG hlt hr
 have hvs:vs=[.string s]:=by
  cases hr with
  | flat h t=>rw [t.nil_inv,show _=_ from h]
 rw [hvs]
 refine (walk65 s w).mono ?_
 rintro e w' ⟨he,pos,rfl⟩
 refine ⟨_,he,_,rfl,Grow.alloc _ _,?_⟩
 rw [nameR_eq]
 exact Rep.flat1 rfl
theorem op65:Opens PR 65:=⟨_,Tryd.func65,rfl,rfl⟩
def TabAt (g:Nat) (tab:List Nat) (w:World):Prop:=∀ j,j < tab.length→w.cell? ⟨g,j,none⟩=some (.int .u8 (tab.getD j 0))
def glT:Gl where
 g0:=2
 G w:=2≤w.heap.size∧TabAt 1 Lib.deBruijn64tab w
 le _ h:=h.1
 st w w' h hs hc:=⟨Nat.le_trans h.1 hs,fun j hj=>(eye_cell (hc 1 (by decide) j)).trans (h.2 j hj)⟩
theorem tz_core (x k idx:Nat) (w:World) (hx0:((x:Int)==0)=false)
  (key:IntKind.u64.wrap (bits BinOp.and IntKind.u64 (x:Int) (IntKind.u64.wrap (-(x:Int))) * 285870213051353865) / 288230376151711744=(idx:Int))
  (hi:idx < 64) (hk:k < 64) (hcell:w.cell? ⟨1,idx,none⟩=some (.int .u8 k)) :
  Calls Tryd.prog 146 #[.int .u64 x] w fun e w'=>e=.returned (.int .i64 k)∧w'=w:=by
 go_enter Tryd.func146,Tryd.ntmps146
 go_wp2_with (simp only [key])
 go_ret
 exact ⟨rfl,rfl⟩
theorem tz_zero (w:World):Calls Tryd.prog 146 #[.int .u64 0] w fun e w'=>e=.returned (.int .i64 64)∧w'=w:=by
 go_enter Tryd.func146,Tryd.ntmps146
 go_wp2
 go_ret
 exact ⟨rfl,rfl⟩
theorem tz_key (x a:Nat) (hx:x < 18446744073709551616) (hx0:x≠0) (hlow:x &&& (18446744073709551616 - x)=a) :
  IntKind.u64.wrap (bits BinOp.and IntKind.u64 (x:Int) (IntKind.u64.wrap (-(x:Int))) * 285870213051353865) / 288230376151711744=((a * 285870213051353865 % 18446744073709551616 / 288230376151711744:Nat):Int):=by
 have e1:IntKind.u64.wrap (-(x:Int))=((18446744073709551616 - x:Nat):Int):=by rw [IntKind.wrap_u64]; omega
 rw [e1,bits_and_u64_nat x _ hx (by omega),hlow,IntKind.wrap_u64]
 omega
theorem c146 (x:Nat) (hx:x < 18446744073709551616):PCalls PR glT 146 [.int .u64 x] fun r=>r=vI (Lib.ctz 64 x):=by
 intro w V vs hG hlt hr
 have hvs:vs=[.int .u64 x]:=by
  cases hr with
  | flat h t=>rw [t.nil_inv,show _=_ from h]
 rw [hvs]
 have h:Calls Tryd.prog 146 #[.int .u64 x] w fun e w'=>e=.returned (.int .i64 (Lib.ctz 64 x))∧w'=w:=by
  by_cases hx0:x=0
  ·subst hx0; exact tz_zero w
  obtain ⟨hlow,hk⟩:=Lib.lowest_bit 64 x hx0 hx
  obtain ⟨hi,htab⟩:=Lib.deBruijn64_at _ hk
  have hcell:=hG.2 _ hi
  rw [htab] at hcell
  exact tz_core x _ _ w (by simp; omega) (tz_key x _ hx hx0 hlow) hi hk hcell
 refine h.mono ?_
 rintro e w' ⟨he,rfl⟩
 exact ⟨_,he,_,rfl,Keep.refl _ _,Rep.flat1 rfl⟩
theorem op146:Opens PR 146:=⟨_,Tryd.func146,rfl,rfl⟩
theorem c130 (x:Nat) (hx:x < 18446744073709551616):PCalls PR glT 130 [.int .u64 x] fun r=>r=vI (Lib.ctz 64 x):=by
 refine fnW_sound (par_ok glT) Tryd.func130 ?_;conv=>whnf
 refine byC (c146 x hx) op146 ?_;conv=>whnf
theorem op130:Opens PR 130:=⟨_,Tryd.func130,rfl,rfl⟩
theorem c149 (gl:Gl) (x:Int):PCalls PR gl 149 [vI x] fun r=>r=vB false:=by
 refine fnW_sound (par_ok gl) Tryd.func149 ?_;conv=>whnf
 have:(x != x)=false:=by simp
 rw [this]
theorem op149:Opens PR 149:=⟨_,Tryd.func149,rfl,rfl⟩
theorem c138 (gl:Gl) (a b:Int):PCalls PR gl 138 [vI a,vI b] fun r=>r=vI (cmpI a b):=by
 refine fnW_sound (par_ok gl) Tryd.func138 ?_;conv=>whnf
 refine byC (c149 gl a) op149 ?_;conv=>whnf
 refine byC (c149 gl b) op149 ?_;conv=>whnf
 apply bc9<;>intro h
 ·have h:a < b:=of_decide_eq_true h
  conv=>whnf
  unfold cmpI; rw [if_pos h]
 have h:¬ a < b:=of_decide_eq_false h
 conv=>whnf
 apply bc9<;>intro h2
 ·have h2:a > b:=of_decide_eq_true h2
  conv=>whnf
  unfold cmpI; rw [if_neg h,if_pos h2]
 have h2:¬ a > b:=of_decide_eq_false h2
 conv=>whnf
 unfold cmpI; rw [if_neg h,if_neg h2]
theorem op138:Opens PR 138:=⟨_,Tryd.func138,rfl,rfl⟩
def fr106 (xs ys:List Int) (m:Int) (i:Nat):St S:={ tmps:=[vL xs,vL ys,J,J,J,J,J,J,J,vL xs,vI m,vI i,J,J,J,J,J,J,J,J,J,J,J,J,J,J,J,J,J,J,J,J,J,J,J,J],seg:=[],up:=[] }
theorem c106 (gl:Gl) (xs ys:List Int) (hx:xs.length≤9223372036854775807) (_hy:ys.length≤9223372036854775807):PCalls PR gl 106 [vL xs,vL ys] fun r=>r=vI (cmpL cmpI xs ys):=by
 refine fnW_sound (par_ok gl) Tryd.func106 ?_;conv=>whnf
 refine ⟨⟨3587,[],[]⟩,?_⟩
 refine LoopW_ind _ (fun i:Nat=>fr106 xs ys xs.length i) (fun i=>i≤xs.length∧i≤ys.length∧cmpL cmpI (xs.drop i) (ys.drop i)=cmpL cmpI xs ys) (fun i=>xs.length - i) () ?_ 0 ⟨Nat.zero_le _,Nat.zero_le _,rfl⟩
 rintro i ⟨hi,hiy,h⟩ Z hZ
 conv=>whnf
 apply bc9<;>intro h1
 ·have hlt:i < xs.length:=by have:=of_decide_eq_true h1; omega
  have hw:=wrap_nat (n:=i) (by omega)
  rw [List.drop_eq_getElem_cons hlt] at h
  conv=>whnf
  refine ⟨_,getI_nat hlt,?_⟩;conv=>whnf
  apply bc9<;>intro h2
  ·have h2:i≥ys.length:=by have:=of_decide_eq_true h2; omega
   rw [List.drop_eq_nil_of_le h2,cmpL] at h
   conv=>whnf
   rw [←h]
  have h2:i < ys.length:=by have:=of_decide_eq_false h2; omega
  rw [List.drop_eq_getElem_cons h2,cmpL] at h
  conv=>whnf
  refine ⟨_,getI_nat h2,?_⟩;conv=>whnf
  refine byC (c138 gl xs[i] ys[i]) op138 ?_;conv=>whnf
  apply bc9<;>intro h3
  ·have h3:cmpI xs[i] ys[i]≠0:=by
    have:(cmpI xs[i] ys[i] != 0)=true:=h3
    simpa using this
   rw [if_pos h3] at h
   conv=>whnf
   rw [←h]
  have h3:cmpI xs[i] ys[i]=0:=by
   have:(cmpI xs[i] ys[i] != 0)=false:=h3
   simpa using this
  rw [if_neg (by rw [h3]; simp)] at h
  conv=>whnf
  refine ⟨⟨3587,[],[]⟩,?_⟩
  have:=hZ (i+1) ⟨hlt,h2,h⟩ (by omega)
  unfold fr106 at this
  rw [←hw] at this
  exact this
 have hge:i=xs.length:=by have:=of_decide_eq_false h1; omega
 rw [List.drop_eq_nil_of_le (by omega)] at h
 conv=>whnf
 apply bc9<;>intro h2
 ·have h2:xs.length < ys.length:=by have:=of_decide_eq_true h2; omega
  rw [List.drop_eq_getElem_cons (by omega:i < ys.length),cmpL] at h
  conv=>whnf
  rw [←h]
 have h2:¬ xs.length < ys.length:=by have:=of_decide_eq_false h2; omega
 rw [List.drop_eq_nil_of_le (by omega),cmpL] at h
 conv=>whnf
 rw [←h]
theorem op106:Opens PR 106:=⟨_,Tryd.func106,rfl,rfl⟩
def eqUp (xs ys:List Int):Nat→Bool
 | 0=>(xs.length:Int)==ys.length
 | i+1=>xs.getD i 0==ys.getD i 0
theorem getD_el {α:Type} {xs:List α} {d:α} {i:Nat} (h:i < xs.length):xs.getD i d=xs[i]:=by
 rw [List.getD_eq_getElem?_getD,List.getElem?_eq_getElem h]; rfl
theorem eqUp_all {xs ys:List Int} (hl:xs.length=ys.length):∀ i,i≤xs.length→(∀ j,j≤i→eqUp xs ys j=true)→xs.take i=ys.take i
 | 0,_,_=>by simp
 | i+1,hi,h=>by
  have h1:=eqUp_all hl i (by omega) fun j hj=>h j (by omega)
  have h2:xs.getD i 0=ys.getD i 0:=by simpa [eqUp] using h (i+1) (Nat.le_refl _)
  have hx:i < xs.length:=by omega
  have hy:i < ys.length:=by omega
  rw [getD_el hx,getD_el hy] at h2
  rw [List.take_succ_eq_append_getElem hx,List.take_succ_eq_append_getElem hy,h1,h2]
abbrev fr20 (xs ys:List Int) (i:Nat):St S:={ tmps:=[vL xs,vL ys,J,J,J,vB (eqUp xs ys i),vI i,J,J,J,J,J,J,J,J,J,J,J,J,J,J,J,J,J,J,J,J,J,J,J,J],seg:=[],up:=[] }
theorem c20 (gl:Gl) (xs ys:List Int) (hx:xs.length≤9223372036854775807):PCalls PR gl 20 [vL xs,vL ys] fun r=>r=vB (decide (xs=ys)):=by
 refine fnW_sound (par_ok gl) Tryd.func20 ?_;conv=>whnf
 refine ⟨⟨99,[],[]⟩,?_⟩
 refine LoopW_ind _ (fun i:Nat=>fr20 xs ys i) (fun i=>i≤xs.length∧∀ j,j < i→eqUp xs ys j=true) (fun i=>xs.length - i) () ?_ 0 ⟨Nat.zero_le _,fun j hj=>absurd hj (Nat.not_lt_zero _)⟩
 rintro i ⟨hi,h⟩ Z hZ
 conv=>whnf
 have fin:(eqUp xs ys i&&decide ((i:Int) < xs.length))=false→eqUp xs ys i=decide (xs=ys):=fun h1=>by
  by_cases he:eqUp xs ys i=true
  ·rw [he,Bool.true_and] at h1
   have h1:=of_decide_eq_false h1
   have hi2:i=xs.length:=by omega
   have h':∀ j,j≤i→eqUp xs ys j=true:=fun j hj=>by
    by_cases hji:j=i
    ·rw [hji]; exact he
    exact h j (by omega)
   have hl:xs.length=ys.length:=by simpa [eqUp,Int.natCast_inj] using h' 0 (by omega)
   have:=eqUp_all hl i hi h'
   rw [hi2,List.take_length,hl,List.take_length] at this
   rw [he,this]; simp
  have he:eqUp xs ys i=false:=by simpa using he
  have:xs≠ys:=fun hxy=>by
   subst hxy
   cases i <;> simp [eqUp] at he
  rw [he]; simp [this]
 apply bc9<;>intro h0
 ·have h0:eqUp xs ys i=true:=h0
  conv=>whnf
  apply bc9<;>intro h1
  ·have h1:=of_decide_eq_true h1
   have hlt:i < xs.length:=by omega
   have h':∀ j,j < i+1→eqUp xs ys j=true:=fun j hj=>by
    by_cases hji:j=i
    ·rw [hji]; exact h0
    exact h j (by omega)
   have hl:xs.length=ys.length:=by simpa [eqUp,Int.natCast_inj] using h' 0 (by omega)
   have hw:=wrap_nat (n:=i) (by omega)
   have he:eqUp xs ys (i+1)=(xs[i]==(ys[i]'(by omega))):=by show (xs.getD i 0==ys.getD i 0)=_; rw [getD_el hlt,getD_el]
   conv=>whnf
   refine ⟨[0,1,2,3,4,5,6,7,8,9],[],[],[],⟨2147483647,[],[]⟩,by decide +kernel,?_⟩;conv=>whnf
   refine ⟨_,getI_nat hlt,?_⟩;conv=>whnf
   refine ⟨_,getI_nat (show i < ys.length by omega),?_⟩;conv=>whnf
   refine ⟨⟨99,[],[]⟩,?_⟩
   have:=hZ (i+1) ⟨hlt,h'⟩ (by omega)
   unfold fr20 at this
   rw [←hw,he] at this
   exact this
  have h1:decide ((i:Int) < xs.length)=false:=h1
  have:=fin (by rw [h0,h1]; rfl)
  conv=>whnf
  rw [this]
 have h0:eqUp xs ys i=false:=h0
 have:=fin (by rw [h0]; rfl)
 conv=>whnf
 rw [this]
theorem op20:Opens PR 20:=⟨_,Tryd.func20,rfl,rfl⟩
theorem to {gl:Gl} {f:FuncId} {args:List (AV S)} {v w:AV S} (h:PCalls PR gl f args fun r=>r=v) (e:v=w):PCalls PR gl f args fun r=>r=w:=e ▸ h
theorem c126 (gl:Gl) (l:List ByteArray) (hl:l.length≤9223372036854775807) (w:ByteArray):PCalls PR gl 126 [strsV l,.str w] fun r=>r=vI (idx (fun x=>strEq x w) l 0):=by
 refine fnW_sound (par_ok gl) Tryd.func126 ?_;conv=>whnf
 rw [wrap_m1 hl]
 refine ⟨⟨35,[],[]⟩,?_⟩
 refine LoopW_ind _ (fun m:Nat=>(({ tmps:=[strsV l,.str w,J,J,J,vI ((m:Int) - 1),J,J,J,J,J,J,J,J,J,J,J,J,J,J,J,J,J,J,J,J,J,J,J,J,J,J,J,J,J],seg:=[],up:=[] }:St S))) (fun m:Nat=>(m≤l.length∧∀ j (hj:j < l.length),m≤j→strEq l[j] w=false)) (fun m:Nat=>(m)) () ?_ l.length ⟨Nat.le_refl _,fun j hj h=>absurd h (by omega)⟩
 intro m hinv Z1 hZ1
 obtain ⟨hm,hj⟩:=hinv
 conv=>whnf
 apply bc9<;>intro g2_2
 ·have hm1:1≤m:=by have:=of_decide_eq_true g2_2; omega
  conv=>whnf
  refine ⟨l[m - 1]'(by omega),(by rw [show ((m:Int) - 1)=((m - 1:Nat):Int) by omega]; exact getI_nat (show m - 1 < l.length by omega)),?_⟩;conv=>whnf
  apply bc9<;>intro h2
  ·have h2:strEq (l[m - 1]'(by omega)) w=false:=by have h2:(!strEq (l[m - 1]'(by omega)) w)=true:=h2; simpa using h2
   conv=>whnf
   refine ⟨⟨35,[],[]⟩,?_⟩;conv=>whnf
   rw [show IntKind.i64.wrap ((m:Int) - 1 - 1)=((m - 1:Nat):Int) - 1 by rw [wrap_int (by omega) (by omega)]; omega]
   exact hZ1 (m - 1) ⟨by omega,fun j hj2 h=>by
    by_cases e:j=m - 1
    ·subst e; exact h2
    exact hj j hj2 (by omega)⟩ (by omega)
  have h2:strEq (l[m - 1]'(by omega)) w=true:=by have h2:(!strEq (l[m - 1]'(by omega)) w)=false:=h2; simpa using h2
  have hR:(∀ j (hj:j < l.length),(j:Int) < (m:Int) - 1→strEq l[j] w=false)→idx (fun x=>strEq x w) l 0=(m:Int) - 1:=fun hn=>by
   rw [idx_at _ l (m - 1) 0 (by omega) (fun j hj2=>hn j (by omega) (by omega)) h2]
   omega
  conv=>whnf
  refine ⟨⟨99,[],[]⟩,?_⟩
  refine LoopW_ind _ (fun i:Nat=>(({ tmps:=[strsV l,.str w,J,J,J,vI ((m:Int) - 1),vI i,J,J,J,J,J,J,J,J,J,J,J,J,J,J,J,J,J,J,J,J,J,J,J,J,J,J,J,J],seg:=[],up:=[] }:St S))) (fun i:Nat=>(i≤l.length∧∀ j (hj:j < l.length),j < i→strEq l[j] w=false)) (fun i:Nat=>(l.length - i)) () ?_ 0 ⟨Nat.zero_le _,fun j hj h=>absurd h (by omega)⟩
  intro i hinv Z2 hZ2
  obtain ⟨hi,hn⟩:=hinv
  conv=>whnf
  apply bc9<;>intro h5
  ·have hlt:(i:Int) < (m:Int) - 1:=of_decide_eq_true h5
   have hil:i < l.length:=by omega
   have hw:=wrap_nat (n:=i) (by omega)
   conv=>whnf
   refine ⟨_,getI_nat hil,?_⟩;conv=>whnf
   apply bc9<;>intro h7
   ·have h7:strEq l[i] w=true:=h7
    conv=>whnf
    rw [idx_at _ l i 0 hil (fun j hj2=>hn j (by omega) hj2) h7,Nat.zero_add]
   have h7:strEq l[i] w=false:=h7
   conv=>whnf
   refine ⟨⟨99,[],[]⟩,?_⟩;conv=>whnf
   rw [hw]
   exact hZ2 (i+1) ⟨hil,fun j hj2 h=>by
    by_cases e:j=i
    ·subst e; exact h7
    exact hn j hj2 (by omega)⟩ (by omega)
  have hge:¬ (i:Int) < (m:Int) - 1:=of_decide_eq_false h5
  conv=>whnf
  rw [hR fun j hj2 h=>hn j hj2 (by omega)]
 have hm0:m=0:=by have:=of_decide_eq_false g2_2; omega
 have hR:(∀ j (hj:j < l.length),(j:Int) < (m:Int) - 1→strEq l[j] w=false)→idx (fun x=>strEq x w) l 0=(m:Int) - 1:=fun _=>by
  rw [idx_no _ _ _ fun x hx=>?_,hm0]
  ·rfl
  obtain ⟨j,hj2,rfl⟩:=List.mem_iff_getElem.1 hx
  exact hj j hj2 (by omega)
 conv=>whnf
 refine ⟨⟨99,[],[]⟩,?_⟩
 refine LoopW_ind _ (fun i:Nat=>(({ tmps:=[strsV l,.str w,J,J,J,vI ((m:Int) - 1),vI i,J,J,J,J,J,J,J,J,J,J,J,J,J,J,J,J,J,J,J,J,J,J,J,J,J,J,J,J],seg:=[],up:=[] }:St S))) (fun i:Nat=>(i≤l.length∧∀ j (hj:j < l.length),j < i→strEq l[j] w=false)) (fun i:Nat=>(l.length - i)) () ?_ 0 ⟨Nat.zero_le _,fun j hj h=>absurd h (by omega)⟩
 intro i hinv Z2 hZ2
 obtain ⟨hi,hn⟩:=hinv
 conv=>whnf
 apply bc9<;>intro h5
 ·have hlt:(i:Int) < (m:Int) - 1:=of_decide_eq_true h5
  have hil:i < l.length:=by omega
  have hw:=wrap_nat (n:=i) (by omega)
  conv=>whnf
  refine ⟨_,getI_nat hil,?_⟩;conv=>whnf
  apply bc9<;>intro h7
  ·have h7:strEq l[i] w=true:=h7
   conv=>whnf
   rw [idx_at _ l i 0 hil (fun j hj2=>hn j (by omega) hj2) h7,Nat.zero_add]
  have h7:strEq l[i] w=false:=h7
  conv=>whnf
  refine ⟨⟨99,[],[]⟩,?_⟩;conv=>whnf
  rw [hw]
  exact hZ2 (i+1) ⟨hil,fun j hj2 h=>by
   by_cases e:j=i
   ·subst e; exact h7
   exact hn j hj2 (by omega)⟩ (by omega)
 have hge:¬ (i:Int) < (m:Int) - 1:=of_decide_eq_false h5
 conv=>whnf
 rw [hR fun j hj2 h=>hn j hj2 (by omega)]
theorem op126:Opens PR 126:=⟨_,Tryd.func126,rfl,rfl⟩
theorem op127:Opens PR 127:=⟨_,Tryd.func127,rfl,rfl⟩
def freE (w:ByteArray) (l:List ByteArray):Int:=if !nameB w then 6 else if l.any fun x=>strEq x w then 5 else 0
theorem c73 (gl:Gl) (w:ByteArray) (hw1:w.size≤9223372036854775807) (l:List ByteArray) (hl:l.length≤9223372036854775807):PCalls PR gl 73 [.str w,strsV l] fun r=>r=vI (freE w l):=by
 refine fnW_sound (par_ok gl) Tryd.func73 ?_;conv=>whnf
 refine byC (c126 gl l hl w) op126 ?_;conv=>whnf
 apply bc9<;>intro h2
 ·have h2:l.any (fun x=>strEq x w)=true:=by rw [←idx_any]; exact h2
  conv=>whnf
  refine byC (c127 gl w hw1) op127 ?_;conv=>whnf
  apply bc9<;>intro h4
  ·have h4:(!nameB w)=true:=h4
   conv=>whnf
   unfold freE; rw [h4]; rfl
  have h4:(!nameB w)=false:=h4
  conv=>whnf
  unfold freE; rw [h4,h2]; rfl
 have h2:l.any (fun x=>strEq x w)=false:=by rw [←idx_any]; exact h2
 conv=>whnf
 refine byC (c127 gl w hw1) op127 ?_;conv=>whnf
 apply bc9<;>intro h4
 ·have h4:(!nameB w)=true:=h4
  conv=>whnf
  unfold freE; rw [h4]; rfl
 have h4:(!nameB w)=false:=h4
 conv=>whnf
 unfold freE; rw [h4,h2]; rfl
theorem op73:Opens PR 73:=⟨_,Tryd.func73,rfl,rfl⟩
theorem loop_q {P:Par S Unit} {body:Code} {pin:Bool×List Nat} {Q:AExit→St S→Unit→Prop} {st:St S} {x:Unit}
  (h:∀ Q':AExit→St S→Unit→Prop,(∀ e s y,Q' e s y=Q e s y)→∃ m,wkR P.rs pin m st fun st0=>LoopW (fun Z s y=>aWp P body pin (fun e s' y'=>match e with
   | .normal=>∃ m,wkR P.rs pin m s' fun s''=>Z s'' y'
   | e=>Q' e s' y') s y) st0 x):∃ m,wkR P.rs pin m st fun st0=>LoopW (fun Z s y=>aWp P body pin (fun e s' y'=>match e with
   | .normal=>∃ m,wkR P.rs pin m s' fun s''=>Z s'' y'
   | e=>Q e s' y') s y) st0 x:=h Q fun _ _ _=>rfl
open Go Go.Ab Go.Ab.Pln
abbrev Lf:=ByteArray×Int×Int
abbrev Cp:=ByteArray×List Int
abbrev Sn:=Int×Int×Int
abbrev lf0:Lf:=(ByteArray.empty,0,0)
abbrev cp0:Cp:=(ByteArray.empty,[])
abbrev sn0:Sn:=(0,0,0)
abbrev lfC (x:Lf):List (AV S):=[.str x.1,vI x.2.1,vI x.2.2]
abbrev cpC (x:Cp):List (AV S):=[.str x.1,vL x.2]
abbrev snC (x:Sn):List (AV S):=[vI x.1,vI x.2.1,vI x.2.2]
theorem getD_at {α:Type} {xs:List α} {i:Nat} {d:α} (h:i < xs.length):xs.getD i d=xs[i]:=by simp [List.getD_eq_getElem?_getD,h]
theorem find_range {n:Nat} {p:Nat→Bool} {k:Nat}:(List.range n).find? p=some k↔k < n∧p k=true∧∀ j,j < k→p j=false:=by
 rw [List.find?_range_eq_some]
 constructor
 ·rintro ⟨h1,h2,h3⟩
  exact ⟨List.mem_range.1 h2,h1,fun j hj=>by simpa using h3 j hj⟩
 rintro ⟨h1,h2,h3⟩
 exact ⟨h2,List.mem_range.2 h1,fun j hj=>by simpa using h3 j hj⟩
def firstR (e:Nat→Int) (n:Nat):Int×Int:=match (List.range n).find? fun i=>e i != 0 with
 | some i=>(i,e i)
 | none=>(0,0)
theorem firstR_at {e:Nat→Int} {n i:Nat} (hi:i < n) (h:∀ j,j < i→e j=0) (he:e i≠0):firstR e n=((i:Int),e i):=by
 unfold firstR
 rw [find_range.2 ⟨hi,by simpa using he,fun j hj=>by simpa using h j hj⟩]
theorem firstR_no {e:Nat→Int} {n:Nat} (h:∀ j,j < n→e j=0):firstR e n=(0,0):=by
 unfold firstR
 rw [List.find?_eq_none.2 fun i hi=>by simpa using h i (List.mem_range.1 hi)]
theorem firstR_zero {e:Nat→Int} {n:Nat} (h:(firstR e n).2=0):∀ j,j < n→e j=0:=by
 unfold firstR at h
 split at h
 ·rename_i i hi
  have:=(find_range.1 hi).2.1
  simp only at h
  rw [h] at this; cases this
 rename_i hn
 intro j hj
 have:=List.find?_eq_none.1 hn j (List.mem_range.2 hj)
 simpa using this
def lfE (ls:List Lf) (i:Nat) (x:Lf):Int :=
 if !nameB x.1 then 6 else if (ls.take i).any (fun y=>strEq y.1 x.1) then 5 else if [x.2.1].any (outB (-1) ((ls.length:Int) - 1)) then 4
 else if x.2.1==(i:Int)||(decide (x.2.1≥0)&&(ls.getD x.2.1.toNat lf0).2.1 != (i:Int)) then 2 else if [x.2.2].any (outB 0 1000) then 7 else 0
def lfF (ls:List Lf) (i:Nat):Int:=lfE ls i (ls.getD i lf0)
def cpE (n:Nat) (pre:List Cp) (x:Cp):Int :=
 if !nameB x.1 then 6 else if pre.any (fun y=>strEq y.1 x.1) then 5 else if x.2.length≠n then 3 else if x.2.any (outB 0 2) then 7 else 0
def cpF (n:Nat) (cs:List Cp) (i:Nat):Int:=cpE n (cs.take i) (cs.getD i cp0)
def chk2 (n:Nat) (cs:List Cp):Int×Int×Int:=if [(cs.length:Int)].any (outB 1 4) then (3,0,3) else
 if (firstR (cpF n cs) cs.length).2≠0 then (3,(firstR (cpF n cs) cs.length).1,(firstR (cpF n cs) cs.length).2) else (0,0,0)
def chk1 (ls:List Lf) (cs:List Cp):Int×Int×Int:=if [(ls.length:Int)].any (outB 1 6) then (2,0,3) else
 if (firstR (lfF ls) ls.length).2≠0 then (2,(firstR (lfF ls) ls.length).1,(firstR (lfF ls) ls.length).2) else chk2 ls.length cs
def chk (p:Int) (ls:List Lf) (cs:List Cp):Int×Int×Int:=if [p].any (outB 0 1000000) then (1,0,7) else chk1 ls cs
abbrev chE (p:Int) (ls:List Lf) (cs:List Cp):Int:=(chk p ls cs).2.2
structure Valid (p:Int) (ls:List Lf) (cs:List Cp):Prop where
 price:0≤p∧p≤1000000
 n1:1≤ls.length
 n6:ls.length≤6
 leaf:∀ i,i < ls.length→lfF ls i=0
 m1:1≤cs.length
 m4:cs.length≤4
 copy:∀ i,i < cs.length→cpF ls.length cs i=0
theorem any_one {lo hi x:Int}:[x].any (outB lo hi)=false↔lo≤x∧x≤hi:=by
 simp [outB]
theorem chk_valid {p:Int} {ls:List Lf} {cs:List Cp}:chE p ls cs=0↔Valid p ls cs:=by
 unfold chE chk chk1 chk2
 constructor
 ·intro h
  by_cases h1:[p].any (outB 0 1000000)=true
  ·rw [if_pos h1] at h; cases h
  rw [if_neg h1] at h
  by_cases h2:[(ls.length:Int)].any (outB 1 6)=true
  ·rw [if_pos h2] at h; cases h
  rw [if_neg h2] at h
  by_cases h3:(firstR (lfF ls) ls.length).2≠0
  ·rw [if_pos h3] at h; exact absurd h h3
  rw [if_neg h3] at h
  by_cases h4:[(cs.length:Int)].any (outB 1 4)=true
  ·rw [if_pos h4] at h; cases h
  rw [if_neg h4] at h
  by_cases h5:(firstR (cpF ls.length cs) cs.length).2≠0
  ·rw [if_pos h5] at h; exact absurd h h5
  have h1:=any_one.1 (by simpa using h1)
  have h2:=any_one.1 (by simpa using h2)
  have h4:=any_one.1 (by simpa using h4)
  exact ⟨h1,by omega,by omega,firstR_zero (by simpa using h3),by omega,by omega,firstR_zero (by simpa using h5)⟩
 rintro ⟨h1,h2,h3,h4,h5,h6,h7⟩
 rw [if_neg (by rw [any_one.2 h1]; simp),if_neg (by rw [any_one.2 (by omega)]; simp),firstR_no h4,if_neg (by simp),if_neg (by rw [any_one.2 (by omega)]; simp),firstR_no h7,if_neg (by simp)]
theorem Valid.lf {p:Int} {ls:List Lf} {cs:List Cp} (h:Valid p ls cs) {i:Nat} (hi:i < ls.length):nameB ls[i].1=true∧(-1≤ls[i].2.1∧ls[i].2.1≤(ls.length:Int) - 1)∧ls[i].2.1≠(i:Int) ∧
  (0≤ls[i].2.1→(ls.getD ls[i].2.1.toNat lf0).2.1=(i:Int))∧0≤ls[i].2.2∧ls[i].2.2≤1000∧(ls.take i).any (fun y=>strEq y.1 ls[i].1)=false:=by
 have h1:=h.leaf i hi
 unfold lfF lfE at h1
 rw [getD_at hi] at h1
 split at h1
 ·cases h1
 split at h1
 ·cases h1
 split at h1
 ·cases h1
 split at h1
 ·cases h1
 split at h1
 ·cases h1
 rename_i h2 h3 h4 h5 h6
 have h4:=any_one.1 (by simpa using h4)
 have h6:=any_one.1 (by simpa using h6)
 simp only [Bool.or_eq_true,beq_iff_eq,Bool.and_eq_true,decide_eq_true_eq,bne_iff_ne,not_or,not_and,Decidable.not_not] at h5
 exact ⟨by simpa using h2,h4,h5.1,h5.2,h6.1,h6.2,by simpa using h3⟩
theorem Valid.cp {p:Int} {ls:List Lf} {cs:List Cp} (h:Valid p ls cs) {i:Nat} (hi:i < cs.length):nameB cs[i].1=true∧cs[i].2.length=ls.length∧(∀ x∈cs[i].2,0≤x∧x≤2)∧(cs.take i).any (fun y=>strEq y.1 cs[i].1)=false:=by
 have h1:=h.copy i hi
 unfold cpF cpE at h1
 rw [getD_at hi] at h1
 split at h1
 ·cases h1
 split at h1
 ·cases h1
 split at h1
 ·cases h1
 split at h1
 ·cases h1
 rename_i h2 h3 h4 h5
 refine ⟨by simpa using h2,by simpa using h4,fun x hx=>?_,by simpa using h3⟩
 have h5:cs[i].2.any (outB 0 2)=false:=by simpa using h5
 have:=List.any_eq_false.1 h5 x hx
 simp [outB] at this
 exact this
def hasI (cs:List Cp) (i l:Nat):Int:=(cs.getD i cp0).2.getD l 0
theorem Valid.has {p:Int} {ls:List Lf} {cs:List Cp} (h:Valid p ls cs) {i l:Nat} (hi:i < cs.length) (hl:l < ls.length):0≤hasI cs i l∧hasI cs i l≤2:=by
 obtain ⟨_,h2,h3,_⟩:=h.cp hi
 unfold hasI
 rw [getD_at hi,getD_at (by omega)]
 exact h3 _ (List.getElem_mem _)
theorem Valid.len {p:Int} {ls:List Lf} {cs:List Cp} (h:Valid p ls cs) {i:Nat} (hi:i < cs.length):(cs.getD i cp0).2.length=ls.length:=by
 rw [getD_at hi]; exact (h.cp hi).2.1
def havN (cs:List Cp) (l:Nat) (k:Int):Nat:=bitsO ((List.range cs.length).filter fun i=>hasI cs i l==k)
theorem havN_test (cs:List Cp) (l:Nat) (k:Int) (i:Nat):(havN cs l k).testBit i=(decide (i < cs.length)&&hasI cs i l==k):=by
 rw [havN,bitsO_test]
 rw [Bool.eq_iff_iff,List.contains_iff_mem]
 simp
theorem havN_lt {cs:List Cp} (h:cs.length≤4) (l:Nat) (k:Int):havN cs l k < 2 ^ 4:=bitsO_lt fun x hx=>by
 have:=List.mem_range.1 (List.mem_filter.1 hx).1; omega
abbrev Hv:=List ((Nat×Int)×Nat)
def getL:Hv→Nat×Int→Option Nat
 | [],_=>none
 | (k',v) :: L,k=>if k=k' then some v else getL L k
def putL:Hv→Nat×Int→Nat→Hv
 | [],k,v=>[(k,v)]
 | (k',v') :: L,k,v=>if k=k' then (k',v) :: L else (k',v') :: putL L k v
theorem getL_putL (L:Hv) (k k':Nat×Int) (v:Nat):getL (putL L k v) k'=if k'=k then some v else getL L k':=by
 induction L with
 | nil=>simp [putL,getL]
 | cons p L ih =>
  obtain ⟨q,u⟩:=p
  simp only [putL]
  by_cases h:k=q
  ·subst h; rw [if_pos rfl]; simp only [getL]; by_cases h2:k'=k
   ·simp [h2]
   simp [h2]
  rw [if_neg h]; simp only [getL,ih]
  by_cases h2:k'=q
  ·subst h2; rw [if_pos rfl,if_pos rfl,if_neg (Ne.symm h)]
  rw [if_neg h2,if_neg h2]
def orL (cs:List Cp) (L:Hv) (i l:Nat):Hv:=putL L (l,hasI cs i l) ((getL L (l,hasI cs i l)).getD 0 ||| 2 ^ i)
def rowL (cs:List Cp) (L:Hv) (i:Nat):Nat→Hv
 | 0=>L
 | l+1=>orL cs (rowL cs L i l) i l
def opnL (n:Nat) (cs:List Cp):Nat→Hv
 | 0=>[]
 | i+1=>rowL cs (opnL n cs i) i n
def gotN (L:Hv) (k:Nat×Int):Nat:=(getL L k).getD 0
theorem bitsO_snoc (p:List Nat) (k:Nat):bitsO (p++[k])=bitsO p ||| 2 ^ k:=by simp [bitsO]
theorem rowL_got {cs:List Cp} {i:Nat} {L:Hv} (hL:∀ l k,gotN L (l,k)=bitsO ((List.range i).filter fun a=>hasI cs a l==k)∨True) (l:Nat) (k:Int):∀ j,gotN (rowL cs L i j) (l,k)=if l < j∧hasI cs i l=k then gotN L (l,k) ||| 2 ^ i else gotN L (l,k)
 | 0=>by simp [rowL]
 | j+1=>by
  have ih:=rowL_got hL l k j
  show gotN (orL cs (rowL cs L i j) i j) (l,k)=_
  unfold orL
  by_cases h:l=j∧hasI cs i j=k
  ·obtain ⟨rfl,rfl⟩:=h
   unfold gotN
   rw [getL_putL,if_pos rfl,if_pos ⟨by omega,rfl⟩]
   show gotN (rowL cs L i l) (l,hasI cs i l) ||| 2 ^ i=_
   rw [ih,if_neg (by omega)]; rfl
  unfold gotN
  rw [getL_putL,if_neg (by rintro h2; apply h; simp at h2; exact ⟨h2.1,h2.2.symm⟩)]
  show gotN (rowL cs L i j) (l,k)=_
  rw [ih]
  by_cases h2:l < j∧hasI cs i l=k
  ·rw [if_pos h2,if_pos ⟨by omega,h2.2⟩]; rfl
  rw [if_neg h2,if_neg]; · rfl
  rintro ⟨h3,h4⟩
  rcases Nat.lt_or_ge l j with h5 | h5
  ·exact h2 ⟨h5,h4⟩
  obtain rfl:l=j:=by omega
  exact h ⟨rfl,h4⟩
theorem opnL_got {n:Nat} {cs:List Cp} {l:Nat} (hl:l < n) (k:Int):∀ i,gotN (opnL n cs i) (l,k)=bitsO ((List.range i).filter fun a=>hasI cs a l==k)
 | 0=>rfl
 | i+1=>by
  show gotN (rowL cs (opnL n cs i) i n) (l,k)=_
  rw [rowL_got (fun _ _=>.inr trivial),opnL_got hl k i,List.range_succ,List.filter_append]
  by_cases h:hasI cs i l=k
  ·rw [if_pos ⟨hl,h⟩]; simp [h,bitsO_snoc]
  rw [if_neg (fun h2=>h h2.2)]; simp [h]
abbrev havL (n:Nat) (cs:List Cp):Hv:=opnL n cs cs.length
theorem havL_got {n:Nat} {cs:List Cp} {l:Nat} (hl:l < n) (k:Int):gotN (havL n cs) (l,k)=havN cs l k:=opnL_got hl k cs.length
theorem gotN_lt {n:Nat} {cs:List Cp} {l:Nat} (hl:l < n) (k:Int) {i:Nat} (hi:i≤4):gotN (opnL n cs i) (l,k) < 2 ^ 4:=by
 rw [opnL_got hl]
 exact bitsO_lt fun x hx=>by have:=List.mem_range.1 (List.mem_filter.1 hx).1; omega
def cntI (xs:List Int) (k:Int):Nat:=(xs.filter fun x=>x==k).length
def kindI (xs:List Int):Int:=if cntI xs 2 > cntI xs 1 then 2 else 1
theorem kindI_mem (xs:List Int):kindI xs=1∨kindI xs=2:=by unfold kindI; split <;> simp
def onesN (n:Nat):Nat:=((List.range 8).filter n.testBit).length
theorem idx_step {α:Type} {p:α→Bool} {xs:List α} {i:Nat} (h:i < xs.length):idx p (xs.drop i) i=if p xs[i] then (i:Int) else idx p (xs.drop (i+1)) (i+1):=by
 rw [List.drop_eq_getElem_cons h,idx]
theorem idx_end {α:Type} {p:α→Bool} {xs:List α} {i:Nat} (h:i=xs.length):idx p (xs.drop i) i=-1:=by
 rw [List.drop_eq_nil_of_le (by omega),idx]
theorem c62 (gl:Gl) (xs:List Int) (hx:xs.length≤9223372036854775807) (lo hi:Int):PCalls PR gl 62 [vI lo,vI hi,vL xs] fun r=>r=vB (xs.any (outB lo hi)):=by
 refine fnW_sound (par_ok gl) Tryd.func62 ?_;conv=>whnf
 refine byC (c122 gl xs hx lo hi) op122 ?_;conv=>whnf
theorem op62:Opens PR 62:=⟨_,Tryd.func62,rfl,rfl⟩
theorem c67 (gl:Gl) (p q:Lf):PCalls PR gl 67 [.agg [.str p.1,vI p.2.1,vI p.2.2],.ref (lfC q)] fun r=>r=vB (strEq p.1 q.1):=by
 refine fnW_sound (par_ok gl) Tryd.func67 ?_;conv=>whnf
theorem op67:Opens PR 67:=⟨_,Tryd.func67,rfl,rfl⟩
theorem c124 (gl:Gl) (xs:List Lf) (hx:xs.length≤9223372036854775807) (q:Lf):PCalls PR gl 124 [lfsV xs,.clo (.func 67) [] [.ref (lfC q)]] fun r=>r=vI (idx (fun p:Lf=>strEq p.1 q.1) xs 0):=by
 refine fnW_sound (par_ok gl) Tryd.func124 ?_;conv=>whnf
 refine ⟨⟨387,[],[]⟩,?_⟩
 refine LoopW_ind _ (fun i:Nat=>(({ tmps:=[lfsV xs,.clo (.func 67) [] [.ref (lfC q)],J,J,J,J,J,vI xs.length,vI i,J,J,J,J,J,J,J,J,J,J],seg:=[],up:=[] }:St S))) (fun i:Nat=>(i≤xs.length∧idx (fun p:Lf=>strEq p.1 q.1) (xs.drop i) i=idx (fun p:Lf=>strEq p.1 q.1) xs 0)) (fun i:Nat=>(xs.length - i)) () ?_ 0 ⟨Nat.zero_le _,rfl⟩
 intro i hinv Z1 hZ1
 obtain ⟨hi,hd⟩:=hinv
 conv=>whnf
 apply bc9<;>intro h2
 ·have hlt:i < xs.length:=by have:=of_decide_eq_true h2; omega
  have hw:=wrap_nat (n:=i) (by omega)
  conv=>whnf
  refine ⟨_,getI_nat hlt,?_⟩;conv=>whnf
  refine byC (c67 gl xs[i] q) op67 ?_;conv=>whnf
  apply bc9<;>intro h4
  ·have h4:strEq xs[i].1 q.1=true:=h4
   rw [idx_step hlt,if_pos h4] at hd
   conv=>whnf
   rw [←hd]
  have h4:strEq xs[i].1 q.1=false:=h4
  rw [idx_step hlt,h4,if_neg (by simp)] at hd
  conv=>whnf
  refine ⟨⟨387,[],[]⟩,?_⟩;conv=>whnf
  rw [hw]
  exact hZ1 (i+1) ⟨hlt,hd⟩ (by omega)
 have hge:i=xs.length:=by have:=of_decide_eq_false h2; omega
 conv=>whnf
 rw [idx_end hge] at hd
 rw [←hd]
theorem op124:Opens PR 124:=⟨_,Tryd.func124,rfl,rfl⟩
theorem c66 (gl:Gl) (xs:List Lf) (hx:xs.length≤9223372036854775807) (q:Lf):PCalls PR gl 66 [lfsV xs,.clo (.func 67) [] [.ref (lfC q)]] fun r=>r=vB (xs.any (fun p:Lf=>strEq p.1 q.1)):=by
 refine fnW_sound (par_ok gl) Tryd.func66 ?_;conv=>whnf
 refine byC (c124 gl xs hx q) op124 ?_;conv=>whnf
 show vB (decide (idx _ xs 0≥0))=_
 rw [idx_any]
theorem op66:Opens PR 66:=⟨_,Tryd.func66,rfl,rfl⟩
theorem c71 (gl:Gl) (p q:Cp):PCalls PR gl 71 [.agg [.str p.1,vL p.2],.ref (cpC q)] fun r=>r=vB (strEq p.1 q.1):=by
 refine fnW_sound (par_ok gl) Tryd.func71 ?_;conv=>whnf
theorem op71:Opens PR 71:=⟨_,Tryd.func71,rfl,rfl⟩
theorem c125 (gl:Gl) (xs:List Cp) (hx:xs.length≤9223372036854775807) (q:Cp):PCalls PR gl 125 [cpsV xs,.clo (.func 71) [] [.ref (cpC q)]] fun r=>r=vI (idx (fun p:Cp=>strEq p.1 q.1) xs 0):=by
 refine fnW_sound (par_ok gl) Tryd.func125 ?_;conv=>whnf
 refine ⟨⟨387,[],[]⟩,?_⟩
 refine LoopW_ind _ (fun i:Nat=>(({ tmps:=[cpsV xs,.clo (.func 71) [] [.ref (cpC q)],J,J,J,J,J,vI xs.length,vI i,J,J,J,J,J,J,J,J,J,J],seg:=[],up:=[] }:St S))) (fun i:Nat=>(i≤xs.length∧idx (fun p:Cp=>strEq p.1 q.1) (xs.drop i) i=idx (fun p:Cp=>strEq p.1 q.1) xs 0)) (fun i:Nat=>(xs.length - i)) () ?_ 0 ⟨Nat.zero_le _,rfl⟩
 intro i hinv Z1 hZ1
 obtain ⟨hi,hd⟩:=hinv
 conv=>whnf
 apply bc9<;>intro h2
 ·have hlt:i < xs.length:=by have:=of_decide_eq_true h2; omega
  have hw:=wrap_nat (n:=i) (by omega)
  conv=>whnf
  refine ⟨_,getI_nat hlt,?_⟩;conv=>whnf
  refine byC (c71 gl xs[i] q) op71 ?_;conv=>whnf
  apply bc9<;>intro h4
  ·have h4:strEq xs[i].1 q.1=true:=h4
   rw [idx_step hlt,if_pos h4] at hd
   conv=>whnf
   rw [←hd]
  have h4:strEq xs[i].1 q.1=false:=h4
  rw [idx_step hlt,h4,if_neg (by simp)] at hd
  conv=>whnf
  refine ⟨⟨387,[],[]⟩,?_⟩;conv=>whnf
  rw [hw]
  exact hZ1 (i+1) ⟨hlt,hd⟩ (by omega)
 have hge:i=xs.length:=by have:=of_decide_eq_false h2; omega
 conv=>whnf
 rw [idx_end hge] at hd
 rw [←hd]
theorem op125:Opens PR 125:=⟨_,Tryd.func125,rfl,rfl⟩
theorem c70 (gl:Gl) (xs:List Cp) (hx:xs.length≤9223372036854775807) (q:Cp):PCalls PR gl 70 [cpsV xs,.clo (.func 71) [] [.ref (cpC q)]] fun r=>r=vB (xs.any (fun p:Cp=>strEq p.1 q.1)):=by
 refine fnW_sound (par_ok gl) Tryd.func70 ?_;conv=>whnf
 refine byC (c125 gl xs hx q) op125 ?_;conv=>whnf
 show vB (decide (idx _ xs 0≥0))=_
 rw [idx_any]
theorem op70:Opens PR 70:=⟨_,Tryd.func70,rfl,rfl⟩
theorem c64 (gl:Gl) (p:Int) (ls:List (ByteArray×Int×Int)) (cs:List (ByteArray×List Int)) (i:Nat) (hi:i≤ls.length) (hl:ls.length≤9223372036854775807∧cs.length≤9223372036854775807) (x:Lf) (hx:0≤x.2.1→x.2.1≤(ls.length:Int) - 1→x.2.1.toNat < ls.length):PCalls PR gl 64 [vI i,.agg [.str x.1,vI x.2.1,vI x.2.2],.ref (setC p ls cs)] fun r=>r=vI (lfE ls i x):=by
 obtain ⟨hl1,hl2⟩:=hl
 have hw1:IntKind.i64.wrap ((ls.length:Int) - 1)=(ls.length:Int) - 1:=wrap_int (by omega) (by omega)
 refine fnW_sound (par_ok gl) Tryd.func64 ?_;conv=>whnf
 refine byC (c65 gl _) op65 ?_;conv=>whnf
 apply bc9<;>intro h1
 ·have h1:(!nameB x.1)=true:=h1
  conv=>whnf
  unfold lfE
  rw [if_pos h1]
 have h1:(!nameB x.1)=false:=h1
 conv=>whnf
 refine ⟨Int.natCast_nonneg _,?_⟩;conv=>whnf
 refine ⟨Nat.zero_le _,hi,?_⟩;conv=>whnf
 refine byC (c66 gl (ls.take i) (by simp; omega) x) op66 ?_;conv=>whnf
 apply bc9<;>intro h3
 ·have h3:((ls.take i).any fun p=>strEq p.1 x.1)=true:=h3
  conv=>whnf
  unfold lfE
  rw [h1,if_neg (by simp),if_pos h3]
 have h3:((ls.take i).any fun p=>strEq p.1 x.1)=false:=h3
 conv=>whnf
 refine ⟨_,rfl,?_⟩;conv=>whnf
 refine byC (c62 gl [x.2.1] (by simp) (-1) _) op62 ?_;conv=>whnf
 apply bc9<;>intro h5
 ·have h5:[x.2.1].any (outB (-1) (IntKind.i64.wrap ((ls.length:Int) - 1)))=true:=h5
  rw [hw1] at h5
  conv=>whnf
  unfold lfE
  rw [h1,if_neg (by simp),h3,if_neg (by simp),if_pos h5]
 have h5:[x.2.1].any (outB (-1) (IntKind.i64.wrap ((ls.length:Int) - 1)))=false:=h5
 rw [hw1] at h5
 conv=>whnf
 apply bc9<;>intro g7_4
 ·have g4:(x.2.1==(i:Int))=true:=g7_4
  conv=>whnf
  unfold lfE
  rw [h1,if_neg (by simp),h3,if_neg (by simp),h5,if_neg (by simp),g4,Bool.true_or,if_pos rfl]
 have g4:(x.2.1==(i:Int))=false:=g7_4
 conv=>whnf
 apply bc9<;>intro g7_8
 ·have g8:decide (x.2.1≥0)=true:=g7_8
  have hge:=of_decide_eq_true g8
  have h5b:=any_one.1 h5
  have hlx:=hx hge h5b.2
  obtain ⟨m,hm⟩:∃ m:Nat,x.2.1=(m:Int):=⟨x.2.1.toNat,by omega⟩
  have hlm:m < ls.length:=by rw [hm] at hlx; simpa using hlx
  conv=>whnf
  refine ⟨ls[m],by rw [hm]; exact getI_nat hlm,?_⟩;conv=>whnf
  apply bc9<;>intro h7
  ·have h7:(ls[m].2.1 != (i:Int))=true:=h7
   rw [show ls[m]=ls.getD x.2.1.toNat lf0 by rw [hm,Int.toNat_natCast,getD_at hlm]] at h7
   conv=>whnf
   unfold lfE
   rw [h1,if_neg (by simp),h3,if_neg (by simp),h5,if_neg (by simp),g4,g8,h7,if_pos (by simp)]
  have h7:(ls[m].2.1 != (i:Int))=false:=h7
  rw [show ls[m]=ls.getD x.2.1.toNat lf0 by rw [hm,Int.toNat_natCast,getD_at hlm]] at h7
  conv=>whnf
  refine ⟨_,rfl,?_⟩;conv=>whnf
  refine byC (c62 gl [x.2.2] (by simp) 0 1000) op62 ?_;conv=>whnf
  apply bc9<;>intro h9
  ·have h9:[x.2.2].any (outB 0 1000)=true:=h9
   conv=>whnf
   unfold lfE
   rw [h1,if_neg (by simp),h3,if_neg (by simp),h5,if_neg (by simp),g4,g8,h7,if_neg (by simp),if_pos h9]
  have h9:[x.2.2].any (outB 0 1000)=false:=h9
  conv=>whnf
  unfold lfE
  rw [h1,if_neg (by simp),h3,if_neg (by simp),h5,if_neg (by simp),g4,g8,h7,if_neg (by simp),h9,if_neg (by simp)]
 have g8:decide (x.2.1≥0)=false:=g7_8
 conv=>whnf
 refine ⟨_,rfl,?_⟩;conv=>whnf
 refine byC (c62 gl [x.2.2] (by simp) 0 1000) op62 ?_;conv=>whnf
 apply bc9<;>intro h9
 ·have h9:[x.2.2].any (outB 0 1000)=true:=h9
  conv=>whnf
  unfold lfE
  rw [h1,if_neg (by simp),h3,if_neg (by simp),h5,if_neg (by simp),g4,g8,if_neg (by simp),if_pos h9]
 have h9:[x.2.2].any (outB 0 1000)=false:=h9
 conv=>whnf
 unfold lfE
 rw [h1,if_neg (by simp),h3,if_neg (by simp),h5,if_neg (by simp),g4,g8,if_neg (by simp),h9,if_neg (by simp)]
theorem op64:Opens PR 64:=⟨_,Tryd.func64,rfl,rfl⟩
theorem c69 (gl:Gl) (p:Int) (ls:List (ByteArray×Int×Int)) (cs:List (ByteArray×List Int)) (i:Nat) (hi:i≤cs.length) (hl:ls.length≤9223372036854775807∧cs.length≤9223372036854775807) (x:Cp) (hx:x.2.length≤9223372036854775807):PCalls PR gl 69 [vI i,.agg [.str x.1,vL x.2],.ref (setC p ls cs)] fun r=>r=vI (cpE ls.length (cs.take i) x):=by
 obtain ⟨hl1,hl2⟩:=hl
 refine fnW_sound (par_ok gl) Tryd.func69 ?_;conv=>whnf
 refine byC (c65 gl _) op65 ?_;conv=>whnf
 apply bc9<;>intro h1
 ·have h1:(!nameB x.1)=true:=h1
  conv=>whnf
  unfold cpE
  rw [if_pos h1]
 have h1:(!nameB x.1)=false:=h1
 conv=>whnf
 refine ⟨Int.natCast_nonneg _,?_⟩;conv=>whnf
 refine ⟨Nat.zero_le _,hi,?_⟩;conv=>whnf
 refine byC (c70 gl (cs.take i) (by simp; omega) x) op70 ?_;conv=>whnf
 apply bc9<;>intro h3
 ·have h3:((cs.take i).any fun p=>strEq p.1 x.1)=true:=h3
  conv=>whnf
  unfold cpE
  rw [h1,if_neg (by simp),if_pos h3]
 have h3:((cs.take i).any fun p=>strEq p.1 x.1)=false:=h3
 conv=>whnf
 apply bc9<;>intro h5
 ·have h5:x.2.length≠ls.length:=by have h5:((x.2.length:Int) != (ls.length:Int))=true:=h5; intro e; rw [e] at h5; simp at h5
  conv=>whnf
  unfold cpE
  rw [h1,if_neg (by simp),h3,if_neg (by simp),if_pos h5]
 have h5:x.2.length=ls.length:=by have h5:((x.2.length:Int) != (ls.length:Int))=false:=h5; simp at h5; omega
 conv=>whnf
 refine byC (c62 gl x.2 hx 0 2) op62 ?_;conv=>whnf
 apply bc9<;>intro h7
 ·have h7:x.2.any (outB 0 2)=true:=h7
  conv=>whnf
  unfold cpE
  rw [h1,if_neg (by simp),h3,if_neg (by simp),if_neg (fun h=>h h5),if_pos h7]
 have h7:x.2.any (outB 0 2)=false:=h7
 conv=>whnf
 unfold cpE
 rw [h1,if_neg (by simp),h3,if_neg (by simp),if_neg (fun h=>h h5),h7,if_neg (by simp)]
theorem op69:Opens PR 69:=⟨_,Tryd.func69,rfl,rfl⟩
theorem c63 (gl:Gl) (p:Int) (ls:List (ByteArray×Int×Int)) (cs:List (ByteArray×List Int)) (hl:ls.length≤9223372036854775807∧cs.length≤9223372036854775807):PCalls PR gl 63 [lfsV ls,.clo (.func 64) [] [.ref (setC p ls cs)]] fun r=>r=.tup [vI (firstR (lfF ls) ls.length).1,vI (firstR (lfF ls) ls.length).2]:=by
 refine fnW_sound (par_ok gl) Tryd.func63 ?_;conv=>whnf
 refine ⟨⟨3586,[],[]⟩,?_⟩
 refine LoopW_ind _ (fun i:Nat=>(({ tmps:=[J,.clo (.func 64) [] [.ref (setC p ls cs)],J,J,J,J,J,J,J,lfsV ls,vI ls.length,vI i,J,J,J,J,J,J,J,J,J,J,J,J,J],seg:=[],up:=[] }:St S))) (fun i:Nat=>(i≤ls.length∧∀ j,j < i→(lfF ls) j=0)) (fun i:Nat=>(ls.length - i)) () ?_ 0 ⟨Nat.zero_le _,fun j h=>absurd h (Nat.not_lt_zero j)⟩
 intro i hinv Z1 hZ1
 obtain ⟨hi,hd⟩:=hinv
 conv=>whnf
 apply bc9<;>intro h2
 ·have hlt:i < ls.length:=by have:=of_decide_eq_true h2; omega
  have hw:=wrap_nat (n:=i) (by omega)
  conv=>whnf
  refine ⟨_,getI_nat hlt,?_⟩;conv=>whnf
  refine byC (to (c64 gl p ls cs i hi hl ls[i] (fun h1 h2=>by omega)) (show _=vI ((lfF ls) i) by unfold lfF; rw [getD_at hlt])) op64 ?_;conv=>whnf
  apply bc9<;>intro h5
  ·have h5:(lfF ls) i≠0:=by have h5:((lfF ls) i != 0)=true:=h5; simpa using h5
   conv=>whnf
   rw [firstR_at hlt hd h5]
  have h5:(lfF ls) i=0:=by have h5:((lfF ls) i != 0)=false:=h5; simpa using h5
  conv=>whnf
  refine ⟨⟨3586,[7,1007,2007,3007,4007],[]⟩,?_⟩;conv=>whnf
  rw [hw]
  exact hZ1 (i+1) ⟨hlt,up_succ hd h5⟩ (by omega)
 have hge:i=ls.length:=by have:=of_decide_eq_false h2; omega
 conv=>whnf
 subst hge
 rw [firstR_no hd]
theorem op63:Opens PR 63:=⟨_,Tryd.func63,rfl,rfl⟩
theorem c68 (gl:Gl) (p:Int) (ls:List (ByteArray×Int×Int)) (cs:List (ByteArray×List Int)) (hl:ls.length≤9223372036854775807∧cs.length≤9223372036854775807) (hc:∀ x∈cs,x.2.length≤9223372036854775807):PCalls PR gl 68 [cpsV cs,.clo (.func 69) [] [.ref (setC p ls cs)]] fun r=>r=.tup [vI (firstR (cpF ls.length cs) cs.length).1,vI (firstR (cpF ls.length cs) cs.length).2]:=by
 refine fnW_sound (par_ok gl) Tryd.func68 ?_;conv=>whnf
 refine ⟨⟨3586,[],[]⟩,?_⟩
 refine LoopW_ind _ (fun i:Nat=>(({ tmps:=[J,.clo (.func 69) [] [.ref (setC p ls cs)],J,J,J,J,J,J,J,cpsV cs,vI cs.length,vI i,J,J,J,J,J,J,J,J,J,J,J,J,J],seg:=[],up:=[] }:St S))) (fun i:Nat=>(i≤cs.length∧∀ j,j < i→(cpF ls.length cs) j=0)) (fun i:Nat=>(cs.length - i)) () ?_ 0 ⟨Nat.zero_le _,fun j h=>absurd h (Nat.not_lt_zero j)⟩
 intro i hinv Z1 hZ1
 obtain ⟨hi,hd⟩:=hinv
 conv=>whnf
 apply bc9<;>intro h2
 ·have hlt:i < cs.length:=by have:=of_decide_eq_true h2; omega
  have hw:=wrap_nat (n:=i) (by omega)
  conv=>whnf
  refine ⟨_,getI_nat hlt,?_⟩;conv=>whnf
  refine byC (to (c69 gl p ls cs i hi hl cs[i] (hc _ (List.getElem_mem hlt))) (show _=vI ((cpF ls.length cs) i) by unfold cpF; rw [getD_at hlt])) op69 ?_;conv=>whnf
  apply bc9<;>intro h5
  ·have h5:(cpF ls.length cs) i≠0:=by have h5:((cpF ls.length cs) i != 0)=true:=h5; simpa using h5
   conv=>whnf
   rw [firstR_at hlt hd h5]
  have h5:(cpF ls.length cs) i=0:=by have h5:((cpF ls.length cs) i != 0)=false:=h5; simpa using h5
  conv=>whnf
  refine ⟨⟨3586,[7,1007,2007,3007,4007],[2007]⟩,?_⟩;conv=>whnf
  rw [hw]
  exact hZ1 (i+1) ⟨hlt,up_succ hd h5⟩ (by omega)
 have hge:i=cs.length:=by have:=of_decide_eq_false h2; omega
 conv=>whnf
 subst hge
 rw [firstR_no hd]
theorem op68:Opens PR 68:=⟨_,Tryd.func68,rfl,rfl⟩
theorem c16 (gl:Gl) (p:Int) (ls:List (ByteArray×Int×Int)) (cs:List (ByteArray×List Int)) (hl:ls.length≤9223372036854775807∧cs.length≤9223372036854775807) (hc:∀ x∈cs,x.2.length≤9223372036854775807):PCalls PR gl 16 [.agg [vI p,lfsV ls,cpsV cs]] fun r=>r=.tup [vI (chk p ls cs).1,vI (chk p ls cs).2.1,vI (chk p ls cs).2.2]:=by
 refine fnW_sound (par_ok gl) Tryd.func16 ?_;conv=>whnf
 refine ⟨_,rfl,?_⟩;conv=>whnf
 refine byC (c62 gl [p] (by simp) 0 1000000) op62 ?_;conv=>whnf
 apply bc9<;>intro h1
 ·have h1:[p].any (outB 0 1000000)=true:=h1
  have hq:chk p ls cs=(1,0,7):=by unfold chk; rw [if_pos h1]
  conv=>whnf
  rw [hq]
 have h1:[p].any (outB 0 1000000)=false:=h1
 have hq:chk p ls cs=chk1 ls cs:=by unfold chk; rw [h1,if_neg (by simp)]
 conv=>whnf
 refine ⟨_,rfl,?_⟩;conv=>whnf
 refine byC (c62 gl [(ls.length:Int)] (by simp) 1 6) op62 ?_;conv=>whnf
 apply bc9<;>intro h3
 ·have h3:[(ls.length:Int)].any (outB 1 6)=true:=h3
  conv=>whnf
  rw [hq]
  unfold chk1
  rw [if_pos h3]
 have h3:[(ls.length:Int)].any (outB 1 6)=false:=h3
 conv=>whnf
 refine byC (c63 gl p ls cs hl) op63 ?_;conv=>whnf
 apply bc9<;>intro h6
 ·have h6:(firstR (lfF ls) ls.length).2≠0:=by have h6:((firstR (lfF ls) ls.length).2 != 0)=true:=h6; simpa using h6
  conv=>whnf
  rw [hq]
  unfold chk1
  rw [h3,if_neg (by simp),if_pos h6]
 have h6:(firstR (lfF ls) ls.length).2=0:=by have h6:((firstR (lfF ls) ls.length).2 != 0)=false:=h6; simpa using h6
 have hq2:chk p ls cs=chk2 ls.length cs:=by rw [hq]; unfold chk1; rw [h3,if_neg (by simp),if_neg (fun h=>h h6)]
 conv=>whnf
 refine ⟨_,rfl,?_⟩;conv=>whnf
 refine byC (c62 gl [(cs.length:Int)] (by simp) 1 4) op62 ?_;conv=>whnf
 apply bc9<;>intro h8
 ·have h8:[(cs.length:Int)].any (outB 1 4)=true:=h8
  conv=>whnf
  rw [hq2]
  unfold chk2
  rw [if_pos h8]
 have h8:[(cs.length:Int)].any (outB 1 4)=false:=h8
 conv=>whnf
 refine byC (c68 gl p ls cs hl hc) op68 ?_;conv=>whnf
 apply bc9<;>intro h11
 ·have h11:(firstR (cpF ls.length cs) cs.length).2≠0:=by have h11:((firstR (cpF ls.length cs) cs.length).2 != 0)=true:=h11; simpa using h11
  conv=>whnf
  rw [hq2]
  unfold chk2
  rw [h8,if_neg (by simp),if_pos h11]
 have h11:(firstR (cpF ls.length cs) cs.length).2=0:=by have h11:((firstR (cpF ls.length cs) cs.length).2 != 0)=false:=h11; simpa using h11
 conv=>whnf
 rw [hq2]
 unfold chk2
 rw [h8,if_neg (by simp),if_neg (fun h=>h h11)]
theorem op16:Opens PR 16:=⟨_,Tryd.func16,rfl,rfl⟩
variable {w w':World} {V:Nat→Nat→Prop}
def shapeE:List (Option Nat×Op×Option (Nat×Bool)) :=
 [(some 41,.move (.tmp 7),none),(some 42,.nilCheck (.tmp 41),none),(some 43,.fieldAddr 112 (.tmp 42) 1,none),(some 44,.load 110 (.tmp 43),none),(some 45,.move (.tmp 10),none),(some 46,.move (.tmp 11),none),
  (some 47,.build 114 #[(0,.tmp 45),(1,.tmp 46)],none),(some 48,.lookup 110 (.tmp 44) (.tmp 47) false,none),(some 49,.move (.tmp 8),none),(some 50,.binOp .shl 3 (.const (.int .i64 1)) (.tmp 49) 3,none),
  (some 51,.binOp .or 3 (.tmp 48) (.tmp 50) 3,none),(some 52,.mapEntry 110 (.tmp 44) (.tmp 47),none),(some 53,.extract (.tmp 52) 1,none),(none,.entryStore 110 (.tmp 44) (.tmp 53) (.tmp 51),none)]
def needE:List (Nat×Nat):=[(1,0),(2,1),(3,2),(6,4),(6,5),(7,3),(7,6),(9,8),(10,7),(10,9),(11,3),(11,6),(12,11),(13,3),(13,12),(13,10)]
def rulE (ops:Array Oper):Prop:=ops.toList.map (fun o=>(o.dst,o.op,o.guard))=shapeE∧(needE.all fun p=>edgeB p.1 p.2 ops)=true
def hideF:Nat→List (AV S)→List (AV S)
 | _,[]=>[]
 | i,v :: l=>(if 41≤i∧i≤53 then .undef else v) :: hideF (i+1) l
abbrev keyE (l k:Int):AV S:=.agg [vI l,vI k]
abbrev keyW (l k:Int):Value:=.agg #[.int .i64 l,.int .i64 k]
def entE (kvs:List (AV S×AV S)) (l k:Int) (o:Option Int) (new:Int):List (AV S×AV S):=match o with
 | some _=>setM keqS (keyE l k) (vI new) kvs
 | none=>kvs++[(keyE l k,vI new)]
theorem key_rep {l k:Int}:Rep w V Loc.none (keyW l k) (keyE l k):=Reps.agg (c:=#[.int .i64 l,.int .i64 k]) (ds:=[vI l,vI k]) (.flat rfl (.flat rfl (.nil _))) (.nil _)
theorem key_val {L:Loc} {v:Value} {l k:Int} (h:Rep w V L v (keyE l k)):v=keyW l k:=agg2 h
theorem mi110:∃ kd,Tryd.prog.underlying 114=some kd∧∀ k k' b,keqS k k'=some b→∀ (w:World) V V' l l' v v',Rep w V l v k→Rep w V' l' v' k' →
  (∀ e,(Instr.checkKey e 10000 114 v).run Tryd.prog w=.ok () w)∧(Op.equal 114 v v').run Tryd.prog w=.ok b w∧(Instr.sameNow kd v v'=some b∨Instr.sameNow kd v v'=none)∧(b=true→v'=v∧Instr.sameBits 10000 v' v=true):=by
 obtain ⟨key,kd,h1,h2,_,h3⟩:=miS_ok 110 ⟨keqS,3⟩ rfl
 rw [Tryd.underlying110] at h1
 cases h1
 exact ⟨kd,h2,h3⟩
theorem find_key {es:Array MapEntry} {kvs:List (AV S×AV S)} (h:All2 (EntR w V) es.toList kvs) {l k:Int} {r:Option (AV S)} (hr:lookM keqS (keyE l k) kvs=some r) :
  (∀ e,(Instr.checkKey e 10000 114 (keyW l k)).run Tryd.prog w=.ok () w)∧∃ r',(Instr.findKey 114 (keyW l k) es.toList).run Tryd.prog w=.ok r' w∧FoundR w V keqS (keyE l k) (keyW l k) 0 es.toList kvs r r':=by
 obtain ⟨kd,huk,hkeq⟩:=mi110
 obtain ⟨h4,h5⟩:=find_run (P:=Tryd.prog) (m:=⟨keqS,3⟩) hkeq (key_rep (w:=w) (V:=V) (l:=l) (k:=k)) h hr
 obtain ⟨r',h6,h7⟩:=findKey_run (R:=FoundR w V keqS (keyE l k) (keyW l k) 0 es.toList kvs r) huk fun i=>⟨(h5 i).1.imp id fun ⟨r',h8,h9⟩=>⟨r',h8,fun e=>by subst e; exact h9⟩,by
  obtain ⟨r',h8,h9⟩:=(h5 i).2
  exact ⟨r',h8,fun e=>by subst e; exact h9⟩⟩
 exact ⟨h4,r',h6,h7⟩
theorem run_look {bm:Nat} {es:Array MapEntry} {ck:Nat} (hb:w.heap[bm]?=some (.map es ck)) {kvs:List (AV S×AV S)} (h:All2 (EntR w V) es.toList kvs) {l k:Int} {o:Option Int} (hr:lookM keqS (keyE l k) kvs=some (o.map vI)) :
  (Instr.lookup 110 (.map (some bm)) (keyW l k) false).run Tryd.prog w=.ok (.int .i64 (o.getD 0)) w:=by
 obtain ⟨h4,r',h6,h7⟩:=find_key h hr
 have hget:(getObj bm).run Tryd.prog w=.ok (.map es ck) w:=by simp [getObj,Sem.run,hb]
 simp only [Instr.lookup,Sem.run_bind,run_underlying Tryd.underlying110,Result.andThen,hget]
 simp only [Pure.pure,Sem.run,h4,h6]
 cases o with
 | some c =>
  cases r' with
  | none=>exact h7.elim
  | some p =>
   obtain ⟨j,u⟩:=p
   have h7:Rep w V Loc.none u (vI c):=h7.1
   rw [h7.int]; rfl
 | none =>
  cases r' with
  | some p=>exact h7.elim
  | none=>simp only [Sem.run_bind,run_zeroValue i3 rfl,Result.andThen]; rfl
theorem entR_world {es:List MapEntry} {kvs:List (AV S×AV S)} (hk:∀ p∈kvs,(∃ l k,p.1=keyE l k)∧∃ n,p.2=vI n) (h:All2 (EntR w V) es kvs) {w':World} {V':Nat→Nat→Prop}:All2 (EntR w' V') es kvs:=by
 induction h with
 | nil=>exact .nil
 | @cons e p es kvs h _ ih =>
  obtain ⟨⟨l,k,h1⟩,n,h2⟩:=hk p List.mem_cons_self
  refine .cons ⟨?_,?_⟩ (ih fun q hq=>hk q (List.mem_cons_of_mem _ hq))
  ·have:=h.1; rw [h1] at this ⊢; rw [key_val this]; exact key_rep
  have:=h.2; rw [h2] at this ⊢; rw [this.int]; exact Rep.flat1 rfl
theorem findIdx_born {l:List MapEntry} (hn:(l.map (·.born)).Nodup) {j:Nat} {e0:MapEntry} (h:l[j]?=some e0):l.findIdx? (fun e=>((e.born:Nat):Int)==((e0.born:Nat):Int))=some j:=by
 induction l generalizing j with
 | nil=>simp at h
 | cons a r ih =>
  simp only [List.map_cons,List.nodup_cons] at hn
  cases j with
  | zero=>simp only [List.getElem?_cons_zero,Option.some.injEq] at h; subst h; simp [List.findIdx?_cons]
  | succ j =>
   simp only [List.getElem?_cons_succ] at h
   have hne:a.born≠e0.born:=fun e1=>hn.1 (List.mem_map.2 ⟨e0,List.mem_of_getElem? h,e1.symm⟩)
   have hb:(((a.born:Nat):Int)==((e0.born:Nat):Int))=false:=by
    simp only [beq_eq_false_iff_ne,ne_eq,Int.natCast_inj]; exact hne
   rw [List.findIdx?_cons,hb]
   simp [ih hn.2 h]
theorem findIdx_arr (xs:Array MapEntry) (p:MapEntry→Bool):xs.findIdx? p=xs.toList.findIdx? p:=by
 cases xs
 simp
theorem modify_id {α:Type} {f:α→α}:∀ {l:List α} {j:Nat} {a:α},l[j]?=some a→f a=a→l.modify j f=l
 | [],_,_,h,_=>by simp at h
 | b :: l,0,a,h,hf=>by simp at h; subst h; simp [hf]
 | b :: l,j+1,a,h,hf=>by simp only [List.getElem?_cons_succ] at h; simp [List.modify_succ_cons,modify_id h hf]
theorem modify_eq {α:Type} {f g:α→α}:∀ {l:List α} {j:Nat} {a:α},l[j]?=some a→f a=g a→l.modify j f=l.modify j g
 | [],_,_,h,_=>by simp at h
 | b :: l,0,a,h,hf=>by simp at h; subst h; simp [hf]
 | b :: l,j+1,a,h,hf=>by simp only [List.getElem?_cons_succ] at h; simp [List.modify_succ_cons,modify_eq h hf]
theorem modify_last {α:Type} (f:α→α) (a:α):∀ l:List α,(l++[a]).modify l.length f=l++[f a]
 | []=>rfl
 | b :: r=>by simp [List.modify_succ_cons,modify_last f a r]
theorem all2_snoc {α β:Type} {R:α→β→Prop} {l:List α} {m:List β} (h:All2 R l m) {a:α} {b:β} (hab:R a b):All2 R (l++[a]) (m++[b]):=by
 induction h with
 | nil=>exact .cons hab .nil
 | cons h _ ih=>exact .cons h ih
theorem lookM_snoc {l k:Int} {v:AV S}:∀ {kvs:List (AV S×AV S)},lookM keqS (keyE l k) kvs=some none→lookM keqS (keyE l k) (kvs++[(keyE l k,v)])=some (some v)
 | [],_=>by
  have:keqS (keyE l k) (keyE l k)=some true:=by simp [keqS,twoE]
  simp [lookM,this]
 | (k',u) :: kvs,h=>by
  simp only [lookM] at h
  simp only [List.cons_append,lookM]
  cases hq:keqS (keyE l k) k' with
  | none=>rw [hq] at h; cases h
  | some b =>
   rw [hq] at h
   cases b with
   | true=>cases h
   | false=>exact lookM_snoc h
theorem entry_facts {bm:Nat} {es:Array MapEntry} {ck:Nat} (hb:w.heap[bm]?=some (.map es ck)) {kvs:List (AV S×AV S)} (hk:∀ p∈kvs,(∃ l k,p.1=keyE l k)∧∃ n,p.2=vI n) (h:All2 (EntR w V) es.toList kvs) (hst:Stamps es ck) {l k:Int} {o:Option Int}
  (hr:lookM keqS (keyE l k) kvs=some (o.map vI)):∃ (es1:Array MapEntry) (ck1 st:Nat) (kvs1:List (AV S×AV S)),
   (Instr.mapEntry 110 (.map (some bm)) (keyW l k)).run Tryd.prog w=.ok (.tuple #[.int .i64 (o.getD 0),goInt st]) (w.putObj bm (.map es1 ck1)) ∧
   (∀ p∈kvs1,(∃ l k,p.1=keyE l k)∧∃ n,p.2=vI n)∧All2 (EntR w V) es1.toList kvs1∧lookM keqS (keyE l k) kvs1=some ((some (o.getD 0)).map vI) ∧
   ∀ new:Int,∃ es2,(∀ w2:World,w2.heap[bm]?=some (.map es1 ck1)→(Instr.entryStore 110 (.map (some bm)) (goInt st) (.int .i64 new)).run Tryd.prog w2=.ok () (w2.putObj bm (.map es2 ck1))) ∧
    All2 (EntR w V) es2.toList (entE kvs l k o new)∧Stamps es2 ck1:=by
 obtain ⟨h4,r',h6,h7⟩:=find_key h hr
 have hget:∀ {w:World} {es:Array MapEntry} {ck:Nat},w.heap[bm]?=some (.map es ck)→(getObj bm).run Tryd.prog w=.ok (.map es ck) w:=fun hb=>by simp [getObj,Sem.run,hb]
 have hset:∀ {w:World} {es:Array MapEntry} {ck:Nat},w.heap[bm]?=some (.map es ck)→∀ (o:Go.Obj),(setObj bm o).run Tryd.prog w=.ok () (w.putObj bm o):=fun hb o=>by simp [setObj,Sem.run,hb,World.putObj]
 have hstore:∀ {es1:Array MapEntry} {ck1 st j:Nat} {e0:MapEntry},Stamps es1 ck1→es1.toList[j]?=some e0→e0.born=st→∀ (new:Int) (w2:World),w2.heap[bm]?=some (.map es1 ck1) →
   (Instr.entryStore 110 (.map (some bm)) (goInt st) (.int .i64 new)).run Tryd.prog w2=.ok () (w2.putObj bm (.map (es1.modify j fun e=>{ e with val:=.int .i64 new }) ck1)):=fun {es1 ck1 st j e0} hs1 hj he new w2 hb2=>by
  have hidx:es1.findIdx? (fun e=>((e.born:Nat):Int)==((st:Nat):Int))=some j:=by
   subst he
   rw [findIdx_arr]
   exact findIdx_born hs1.2 hj
  simp [Instr.entryStore,Sem.run_bind,hget hb2,Result.andThen,asInt,asIntOf,goInt,hidx,hset hb2,Pure.pure]
 cases o with
 | some c =>
  cases r' with
  | none=>exact h7.elim
  | some q =>
   obtain ⟨j,u⟩:=q
   obtain ⟨hu,n,e0,hj,hn,hke,hbt,hmod⟩:=h7
   obtain rfl:j=n:=by omega
   obtain rfl:=Rep.int (show Rep w V Loc.none u (vI c) from hu)
   have hold:((es[j]?.map fun e=>e.key).getD (keyW l k))=e0.key:=by
    have:es[j]?=some e0:=by simpa using hn
    rw [this]; rfl
   have hsame:es.modify j (fun e=>{ e with key:=keyW l k })=es:=by
    apply Array.ext'
    rw [Array.toList_modify]
    exact modify_id hn (by rw [←hke])
   refine ⟨es,ck,e0.born,kvs,?_,hk,h,hr,fun new=>⟨_,hstore hst hn rfl new,?_,hst.modify fun _=>rfl⟩⟩
   ·simp only [Instr.mapEntry,Sem.run_bind,run_underlying Tryd.underlying110,Result.andThen,hget hb]
    simp only [h4,h6,Sem.run_bind,Instr.keyThatStays,hold,hbt,if_true,Pure.pure,Sem.run,Result.andThen,hsame]
    rw [hset hb]
    have:((es[j]?.map fun e=>((e.born:Nat):Int)).getD 0)=(e0.born:Int):=by
     have:es[j]?=some e0:=by simpa using hn
     rw [this]; rfl
    simp only [this]; rfl
   have:=hmod (.int .i64 new) (vI new) (Rep.flat1 rfl)
   rw [Array.toList_modify]
   rw [modify_eq (f:=fun e=>{ e with val:=Value.int .i64 new }) (g:=fun e=>{ e with key:=keyW l k,val:=.int .i64 new }) hn (by rw [←hke])]
   exact this
 | none =>
  cases r' with
  | some q=>exact h7.elim
  | none =>
   have hs1:=hst.push (e:={ key:=keyW l k,val:=.int .i64 0,born:=ck }) rfl
   have hn:(es.push { key:=keyW l k,val:=.int .i64 0,born:=ck }).toList[es.toList.length]?=some { key:=keyW l k,val:=.int .i64 0,born:=ck }:=by simp
   have hx:∀ n:Int,All2 (EntR w V) (es.toList++[{ key:=keyW l k,val:=.int .i64 n,born:=ck }]) (kvs++[(keyE l k,vI n)]):=fun n=>all2_snoc h ⟨key_rep,Rep.flat1 rfl⟩
   refine ⟨es.push { key:=keyW l k,val:=.int .i64 0,born:=ck },ck+1,ck,kvs++[(keyE l k,vI 0)],?_,?_,by rw [Array.toList_push]; exact hx 0,lookM_snoc hr,fun new=>⟨_,hstore hs1 hn rfl new,?_,hs1.modify fun _=>rfl⟩⟩
   ·simp only [Instr.mapEntry,Sem.run_bind,run_underlying Tryd.underlying110,Result.andThen,hget hb]
    simp only [h4,h6,Sem.run_bind,run_zeroValue i3 rfl,Pure.pure,Sem.run,Result.andThen]
    rw [hset hb]
    rfl
   ·intro p hp
    rcases List.mem_append.1 hp with hp | hp
    ·exact hk p hp
    rw [List.mem_singleton] at hp; subst hp; exact ⟨⟨l,k,rfl⟩,0,rfl⟩
   rw [Array.toList_modify,Array.toList_push,modify_last]
   exact hx new
def maskF (m:Nat):Nat→List (AV S)→List (AV S)
 | _,[]=>[]
 | i,v :: l=>(match Nat.testBit m i with | true=>v | false=>.undef) :: maskF m (i+1) l
theorem maskK_eq (m:Nat):∀ (i:Nat) (l:List (AV S)) (K:List (AV S)→Prop),maskK i m l K=K (maskF m i l)
 | _,[],K=>rfl
 | i,v :: l,K=>by
  simp only [maskK,maskF]
  cases Nat.testBit m i <;> simp only [maskK_eq m (i+1) l]
theorem maskF_length (m:Nat):∀ (i:Nat) (l:List (AV S)),(maskF m i l).length=l.length
 | _,[]=>rfl
 | i,v :: l=>by simp [maskF,maskF_length m (i+1) l]
theorem maskF_get (m:Nat):∀ (i:Nat) (l:List (AV S)) (j:Nat) (c:AV S),(maskF m i l)[j]?=some c→c=.undef∨(Nat.testBit m (i+j)=true∧l[j]?=some c)
 | i,[],j,c,h=>by simp [maskF] at h
 | i,v :: l,0,c,h=>by
  simp only [maskF,List.getElem?_cons_zero,Option.some.injEq] at h
  cases hb:Nat.testBit m i with
  | true=>rw [hb] at h; exact .inr ⟨rfl,by simpa using h⟩
  | false=>rw [hb] at h; exact .inl h.symm
 | i,v :: l,j+1,c,h=>by
  simp only [maskF,List.getElem?_cons_succ] at h
  have:=maskF_get m (i+1) l j c h
  rw [show i+1+j=i+(j+1) by omega] at this
  simpa using this
def keepE:Nat:=2 ^ 41 - 1+(2 ^ 200 - 2 ^ 54)
theorem keepE_test {i:Nat} (h:Nat.testBit keepE i=true):¬ (41≤i∧i≤53):=by
 rintro ⟨h1,h2⟩
 have:∀ j,j < 13→Nat.testBit keepE (41+j)=false:=by decide +kernel
 have:=this (i - 41) (by omega)
 rw [show 41+(i - 41)=i by omega,h] at this; cases this
def lowE (ops:Array Oper):Bool:=(List.range 14).all fun i=>match ops[i]? with
 | some o=>o.after.toList.all fun e=>!Region.binds .any e||Nat.blt e.on i
 | none=>false
def rgS {Y:Type} (ops:Array Oper) (st:St S) (x:Y) (K:St S→Y→Prop):Prop :=
 rulE ops∧lowE ops=true∧54≤st.tmps.length∧∃ (l k:Int) (i e e2:Nat) (c0 c1 c2:AV S) (kvs:List (AV S×AV S)) (o:Option Int),
  (st.tmps.getD 7 .undef=.own e []∧st.tmps.getD 10 .undef=vI l∧st.tmps.getD 11 .undef=vI k∧st.tmps.getD 8 .undef=vI i)∧lookA st.seg e=some (.cells [c0,c1,c2,.mpv e2])∧(NotArr c0∧NotArr c1∧NotArr c2) ∧
  lookA st.seg e2=some (.mp kvs)∧(∀ p∈kvs,(∃ l k,p.1=keyE l k)∧∃ n,p.2=vI n)∧lookM keqS (keyE l k) kvs=some (o.map vI) ∧
  maskK 0 keepE st.tmps fun ts=>putK st.seg e2 (.mp (entE kvs l k o (bitsI .or .i64 (o.getD 0) (shlI .i64 1 (i:Int))))) fun sg=>K { tmps:=ts,seg:=sg,up:=st.up } x
theorem put_getD {a:Act} {d:Nat} {v:Value} {t:Nat} (hd:d < a.tmps.size):(a.put (some d) v).tmps.getD t undef=if d=t then v else a.tmps.getD t undef:=by
 simp only [Act.put,Array.getD_eq_getD_getElem?,Array.getElem?_setIfInBounds]
 by_cases h:d=t
 ·subst h; simp [hd]
 simp [h]
theorem run_load1 {u:World} {b bm:Nat} (h:u.cell? ⟨b,3,none⟩=some (.map (some bm))):(Instr.loadAt 110 (.pointer (some ⟨b,3,none⟩))).run Tryd.prog u=.ok (.map (some bm)) u:=by
 obtain ⟨ty,h110⟩:∃ ty,lookA ti 110=some ty:=⟨_,rfl⟩
 have hty:=ti_ok _ _ h110
 cases h110
 obtain ⟨c,hK,h1⟩:=valK_load (K:=fun c=>c=.mpv 0) hty (show valK _ [(.mpv 0:AV S)] _ from rfl)
 obtain ⟨v,h2,h3⟩:=h1 u (fun _ _=>False) ⟨fun _=>some bm,fun _=>none,fun _=>none,none⟩ [.map (some bm)] b 3 (.flat ⟨bm,rfl,rfl⟩ (.nil _)) (fun k v hk=>by
  cases k with
  | zero=>simp at hk; subst hk; exact h
  | succ k=>simp at hk)
 subst hK
 obtain ⟨b',hb',rfl⟩:=Rep.mpv h3
 cases hb'
 simp [Instr.loadAt,Instr.sureAddr,Sem.run_bind,Result.andThen,pure,h2]
theorem run_field1 {u:World} {b:Nat}:(Instr.fieldAt 112 (.pointer (some ⟨b,0,none⟩)) 1).run Tryd.prog u=.ok (.pointer (some ⟨b,3,none⟩)) u:=by
 have h1:=Tryd.underlying112
 simp [Instr.fieldAt,Sem.run_bind,run_underlying h1,Result.andThen,Instr.sureAddr,Pure.pure,fieldPlace,run_sizeOf i110,show Tryd.t110.size=1 from rfl]
 rfl
theorem run_key {u:World} {a:Act} {l k:Int} (h1:a.eval (.tmp 45)=.int .i64 l) (h2:a.eval (.tmp 46)=.int .i64 k):(Instr.build 114 ((#[(0,.tmp 45),(1,.tmp 46)]:Array (Nat×Operand)).map fun (i,y)=>(i,a.eval y))).run Tryd.prog u=.ok (keyW l k) u:=by
 obtain ⟨ty,h114⟩:∃ ty,lookA ti 114=some ty:=⟨_,rfl⟩
 have hty:=ti_ok _ _ h114
 cases h114
 obtain ⟨v,c,h3,h4,h5⟩:=build_ok (w:=u) (V:=fun _ _=>False) (l:=Loc.none) hty (a:=a) (ps:=#[(0,.tmp 45),(1,.tmp 46)]) (vs:=[(0,vI l),(1,vI k)]) (K:=fun c=>c=keyE l k)
  (.cons ⟨rfl,by show Rep _ _ _ (a.eval (.tmp 45)) _; rw [h1]; exact Rep.flat1 rfl⟩ (.cons ⟨rfl,by show Rep _ _ _ (a.eval (.tmp 46)) _; rw [h2]; exact Rep.flat1 rfl⟩ .nil)) rfl
 subst h4
 rw [key_val h5] at h3
 exact h3
def bE (listed:Array Bool) (j:Nat):Nat:=if listed.getD j false=true then 0 else 1
def mE (l:Array Bool):Nat:=bE l 0+bE l 1+bE l 2+bE l 3+bE l 4+bE l 5+bE l 6+bE l 7+bE l 8+bE l 9+bE l 10+bE l 11+bE l 12+bE l 13
theorem set_getD {l:Array Bool} {i j:Nat} {d:Bool} (h:i < l.size):(l.setIfInBounds i true).getD j d=if i=j then true else l.getD j d:=by
 simp only [Array.getD_eq_getD_getElem?,Array.getElem?_setIfInBounds]
 by_cases e:i=j
 ·subst e; simp [h]
 simp [e]
theorem bE_set {l:Array Bool} {i j:Nat} (h:i < l.size):bE (l.setIfInBounds i true) j=if i=j then 0 else bE l j:=by
 unfold bE; rw [set_getD h]
 by_cases e:i=j
 ·simp [e]
 simp [e]
theorem cases14 {j:Nat} (h:j < 14):j=0∨j=1∨j=2∨j=3∨j=4∨j=5∨j=6∨j=7∨j=8∨j=9∨j=10∨j=11∨j=12∨j=13:=by omega
theorem mE_set {l:Array Bool} {j:Nat} (hj:j < 14) (hs:l.size=14) (hn:l.getD j false=false):mE l=mE (l.setIfInBounds j true)+1:=by
 have hb:bE l j=1:=by unfold bE; rw [hn]; rfl
 have hjs:j < l.size:=by omega
 unfold mE
 simp only [bE_set hjs]
 rcases cases14 hj with rfl | rfl | rfl | rfl | rfl | rfl | rfl | rfl | rfl | rfl | rfl | rfl | rfl | rfl <;> simp <;> omega
theorem mE_zero {l:Array Bool} (h:mE l=0) {j:Nat} (hj:j < 14):l.getD j false=true:=by
 have hb:∀ j,bE l j=0→l.getD j false=true:=fun j hb=>by
  unfold bE at hb
  split at hb
  ·assumption
  cases hb
 apply hb
 unfold mE at h
 rcases cases14 hj with rfl | rfl | rfl | rfl | rfl | rfl | rfl | rfl | rfl | rfl | rfl | rfl | rfl | rfl <;> omega
structure InvE (ops:Array Oper) (vals:List (Nat×Nat×Value)) (w0 w1 w2:World) (a:Act) (listed:Array Bool) (a':Act) (u:World):Prop where
 sz:listed.size=14
 tm:∀ t,¬ (41≤t∧t≤53)→a'.tmps.getD t undef=a.tmps.getD t undef
 tsz:a'.tmps.size=a.tmps.size
 df:a'.defers=a.defers
 val:∀ p∈vals,listed.getD p.1 false=true→a'.tmps.getD p.2.1 undef=p.2.2
 wd:u=if listed.getD 13 false=true then w2 else if listed.getD 11 false=true then w1 else w0
 cl:∀ p∈needE,listed.getD p.1 false=true→listed.getD p.2 false=true
theorem rgS_ok {gl:Gl} {Y:Type}:RgOk PR gl (rgS (Y:=Y)):=by
 intro ops st x K ⟨⟨hsh,hneed⟩,hlow,hlen,l,k,i,e,e2,c0,c1,c2,kvs,o,⟨h7,h10,h11,h8⟩,hcell,⟨hn0,hn1,hn2⟩,hmap,hkv,hlook,hK⟩ En ro n id a w V lc Q hs hQ
 rw [maskK_eq,putK_eq] at hK
 refine wpIn_region_any (by rfl) ?_
 have hs0:=hs.grow (w':={ w with drawn:=w.drawn+1 }) ⟨rfl,rfl,rfl,Nat.le_refl _,fun _ _=>rfl⟩ (fun _ _ h=>h) fun _ _ h=>.inl h
 generalize hw0:({ w with drawn:=w.drawn+1 }:World)=w0 at hs0
 clear hw0 hs
 have r7:=hs0.tmp 7; rw [h7] at r7
 obtain ⟨b,hb,r7⟩:=r7.own
 have r10:=hs0.tmp 10; rw [h10] at r10; have r10:=r10.int
 have r11:=hs0.tmp 11; rw [h11] at r11; have r11:=r11.int
 have r8:=hs0.tmp 8; rw [h8] at r8; have r8:=r8.int
 obtain ⟨b',hb',c,el,hheap,hreps,hnb⟩:=hs0.seg e _ hcell
 rw [hb] at hb'; cases hb'
 obtain ⟨v0,vs0,e0,_,hr0⟩:=hreps.head hn0
 obtain ⟨v1,vs1,rfl,_,hr1⟩:=hr0.head hn1
 obtain ⟨v2,vs2,rfl,_,hr2⟩:=hr1.head hn2
 obtain ⟨v3,vs3,rfl,hr3,hr4⟩:=hr2.head trivial
 obtain rfl:=hr4.nil_inv
 obtain ⟨bm,hbm,rfl⟩:=Rep.mpv hr3
 obtain ⟨bm',hbm',es,ck,hheapm,⟨hall,hstp⟩,hnm⟩:=hs0.seg e2 _ hmap
 rw [hbm] at hbm'; cases hbm'
 have hne:b≠bm:=fun he=>by rw [he,hheapm] at hheap; cases hheap
 obtain ⟨es1,ck1,st0,kvs1,hme,hkv1,hall1,hlook1,hst2⟩:=entry_facts hheapm hkv hall hstp hlook
 obtain ⟨es2,hstore,hall2,hstp2⟩:=hst2 (bitsI .or .i64 (o.getD 0) (shlI .i64 1 (i:Int)))
 have hltm:=lt_of_heap hheapm
 generalize hnew:bitsI .or .i64 (o.getD 0) (shlI .i64 1 (i:Int))=new at *
 obtain ⟨w1,hw1⟩:∃ w1,w1=w0.putObj bm (.map es1 ck1):=⟨_,rfl⟩
 obtain ⟨w2,hw2⟩:∃ w2,w2=w1.putObj bm (.map es2 ck1):=⟨_,rfl⟩
 have h1m:w1.heap[bm]?=some (.map es1 ck1):=by rw [hw1]; exact World.putObj_heap_same hltm
 have hcell3:∀ u:World,u=w0∨u=w1∨u=w2→u.cell? ⟨b,3,none⟩=some (.map (some bm)):=fun u hu=>by
  have hc0:w0.heap[b]?=some (.cells c el (0,0)):=hheap
  have hc:u.heap[b]?=some (.cells c el (0,0)):=by
   rcases hu with rfl | rfl | rfl
   ·exact hc0
   ·rw [hw1,World.putObj_heap_other hne]; exact hc0
   rw [hw2,World.putObj_heap_other hne,hw1,World.putObj_heap_other hne]; exact hc0
  simp only [World.cell?,hc]
  have:c[3]?=some (.map (some bm)):=by rw [←Array.getElem?_toList,e0]; rfl
  exact this
 obtain ⟨vals,hvals⟩:∃ vals:List (Nat×Nat×Value),vals=[(0,41,.pointer (some ⟨b,0,none⟩)),(1,42,.pointer (some ⟨b,0,none⟩)),(2,43,.pointer (some ⟨b,3,none⟩)),(3,44,.map (some bm)),(4,45,.int .i64 l),(5,46,.int .i64 k),
  (6,47,keyW l k),(7,48,.int .i64 (o.getD 0)),(8,49,.int .i64 i),(9,50,.int .i64 (shlI .i64 1 (i:Int))),(10,51,.int .i64 new),(11,52,.tuple #[.int .i64 (o.getD 0),goInt st0]),(12,53,goInt st0)]:=⟨_,rfl⟩
 have hsize:ops.size=14:=by
  have:=congrArg List.length hsh
  simpa [shapeE] using this
 have hop:∀ (j:Nat) (d:Option Nat) (q:Op) (g:Option (Nat×Bool)),shapeE[j]?=some (d,q,g)→∃ o:Oper,ops[j]?=some o∧o.dst=d∧o.op=q∧o.guard=g:=fun j d q g h=>by
  rw [←hsh,List.getElem?_map,Array.getElem?_toList] at h
  cases ho:ops[j]? with
  | none=>rw [ho] at h; cases h
  | some o=>rw [ho] at h; simp only [Option.map_some,Option.some.injEq,Prod.mk.injEq] at h; exact ⟨o,rfl,h.1,h.2.1,h.2.2⟩
 have hidx:∀ p∈vals,vals[p.1]?=some p∧p.2.1=41+p.1:=by
  rw [hvals]
  intro p hp
  simp only [List.mem_cons,List.not_mem_nil,or_false] at hp
  rcases hp with rfl | rfl | rfl | rfl | rfl | rfl | rfl | rfl | rfl | rfl | rfl | rfl | rfl <;> exact ⟨rfl,rfl⟩
 have hasz:54≤a.tmps.size:=by rw [hs0.sz]; exact hlen
 have hend:∀ listed a' u,InvE ops vals w0 w1 w2 a listed a' u→(∀ j,j < 14→listed.getD j false=true)→Q .normal a' u:=fun listed a' u hi hall'=>by
  have hu:u=w0.putObj bm (.map es2 ck1):=by
   rw [hi.wd,if_pos (hall' 13 (by omega)),hw2,hw1]
   simp [World.putObj]
  have hsr:=SR.mapWrite hs0 hmap hbm (es:=es2) (ck:=ck1) hall2 hstp2
  refine hQ a' u V lc _ x hi.df hK ?_
  rw [hu]
  refine ⟨hsr.le,hsr.cb,hsr.inv,hsr.g,hsr.vlt,hsr.vem,?_,fun j c hj=>?_,hsr.seg,hsr.up,hsr.rego,hsr.regt,hsr.mine,hsr.dis⟩
  ·rw [hi.tsz,hs0.sz]; exact (maskF_length _ _ _).symm
  rcases maskF_get _ _ _ _ _ hj with rfl | ⟨hbit,hj⟩
  ·exact Rep.flat1 trivial
  rw [Nat.zero_add] at hbit
  rw [hi.tm j (keepE_test hbit)]
  exact hsr.tmps j c hj
 have hfin:∀ {listed a' u j d v u'},InvE ops vals w0 w1 w2 a listed a' u→j < 14→(j,d,v)∈vals→(∀ p∈needE,p.1=j→listed.getD p.2 false=true) →
   u'=(if (listed.setIfInBounds j true).getD 13 false=true then w2 else if (listed.setIfInBounds j true).getD 11 false=true then w1 else w0)→InvE ops vals w0 w1 w2 a (listed.setIfInBounds j true) (a'.put (some d) v) u':=fun {listed a' u j d v u'} hi hj hp hnd hu=>by
  have hjs:j < listed.size:=by rw [hi.sz]; exact hj
  have hd:41≤d∧d≤53:=by
   have h3:=(hidx _ hp).2
   simp only at h3
   have:j≤12:=by
    have h4:=(hidx _ hp).1
    rw [hvals] at h4
    have:=(List.getElem?_eq_some_iff.1 h4).1
    simp at this; omega
   omega
  have hda:d < a'.tmps.size:=by rw [hi.tsz]; omega
  refine ⟨by simp [hi.sz],fun t ht=>?_,by simp [Act.put,hi.tsz],hi.df,fun p hp' hl=>?_,hu,fun p hp' hl=>?_⟩
  ·rw [put_getD hda,if_neg (by rintro rfl; exact ht hd)]; exact hi.tm t ht
  ·rw [put_getD hda]
   rw [set_getD hjs] at hl
   obtain ⟨h3,h4⟩:=hidx _ hp
   obtain ⟨h5,h6⟩:=hidx _ hp'
   simp only at h3 h4
   by_cases e1:j=p.1
   ·rw [←e1,h3] at h5; cases h5; rw [if_pos rfl]
   rw [if_neg e1] at hl
   rw [if_neg (by omega)]
   exact hi.val p hp' hl
  rw [set_getD hjs] at hl ⊢
  by_cases e1:j=p.2
  ·rw [if_pos e1]
  rw [if_neg e1]
  by_cases e2:j=p.1
  ·exact hnd p hp' e2.symm
  rw [if_neg e2] at hl; exact hi.cl p hp' hl
 have hmain:∀ f listed a' u,InvE ops vals w0 w1 w2 a listed a' u→mE listed=f→wpAnyIn (Fo ro) n PR .any ops Q f listed a' u:=fun f=>by
  induction f with
  | zero =>
   intro listed a' u hi hm
   refine ⟨?_,hend listed a' u hi fun j hj=>mE_zero hm hj⟩
   apply List.eq_nil_iff_forall_not_mem.2
   intro p hp
   obtain ⟨h3,h4,_⟩:=mem_ready.1 hp
   rw [getD_tf (by rw [hi.sz,←hsize]; exact h3),mE_zero hm (by rw [←hsize]; exact h3)] at h4
   cases h4
  | succ f ih =>
   intro listed a' u hi hm
   refine ⟨fun hr=>?_,fun j hj=>?_⟩
   ·exfalso
    have hex:∃ j,j < 14∧listed.getD j false=false:=by
     apply Classical.byContradiction
     intro hno
     have hall':∀ j,j < 14→listed.getD j false=true:=fun j hj=>by
      cases hb:listed.getD j false with
      | true=>rfl
      | false=>exact absurd ⟨j,hj,hb⟩ hno
     have hz:∀ j,j < 14→bE listed j=0:=fun j hj=>by unfold bE; rw [hall' j hj]; rfl
     unfold mE at hm
     rw [hz 0 (by omega),hz 1 (by omega),hz 2 (by omega),hz 3 (by omega),hz 4 (by omega),hz 5 (by omega),hz 6 (by omega),hz 7 (by omega),hz 8 (by omega),hz 9 (by omega),hz 10 (by omega),hz 11 (by omega),hz 12 (by omega),hz 13 (by omega)] at hm
     omega
    have hmin:∀ m,m < 14→listed.getD m false=false→∃ j,j < 14∧listed.getD j false=false∧∀ q,q < j→listed.getD q false=true:=fun m=>by
     induction m using Nat.strongRecOn with
     | _ m ihm =>
      intro hm hp
      by_cases hq:∃ q,q < m∧listed.getD q false=false
      ·obtain ⟨q,h1,h2⟩:=hq; exact ihm q h1 (by omega) h2
      refine ⟨m,hm,hp,fun q hqm=>?_⟩
      cases hb:listed.getD q false with
      | true=>rfl
      | false=>exact absurd ⟨q,hqm,hb⟩ hq
    obtain ⟨j0,hj0,hb0⟩:=hex
    obtain ⟨j,hj,hbj,hbelow⟩:=hmin j0 hj0 hb0
    have hl:=List.all_eq_true.1 hlow j (List.mem_range.2 hj)
    cases ho:ops[j]? with
    | none=>rw [ho] at hl; cases hl
    | some oj =>
     rw [ho] at hl
     have hmem:j∈Region.ready .any ops listed:=mem_ready.2 ⟨by rw [hsize]; exact hj,by rw [getD_tf (by rw [hi.sz]; exact hj)]; exact hbj,oj,ho,fun ed hed hbd=>by
      have:=List.all_eq_true.1 hl ed hed
      rw [hbd] at this
      exact hbelow _ (by simpa using this)⟩
     rw [hr] at hmem
     simp at hmem
   obtain ⟨hjs,hnl,oj,hoj,hed⟩:=mem_ready.1 hj
   rw [hsize] at hjs
   rw [getD_tf (by rw [hi.sz]; exact hjs)] at hnl
   have hnd:∀ p∈needE,p.1=j→listed.getD p.2 false=true:=fun p hp hpj=>by
    have h3:=List.all_eq_true.1 hneed p hp
    unfold edgeB at h3
    rw [hpj,hoj] at h3
    obtain ⟨ed,he1,he2⟩:=List.any_eq_true.1 h3
    simp only [Bool.and_eq_true] at he2
    rw [←Nat.eq_of_beq_eq_true he2.2]
    exact hed ed he1 he2.1
   have hgot:∀ q d v,(q,d,v)∈vals→(j,q)∈needE→a'.tmps.getD d undef=v:=fun q d v h3 h4=>hi.val _ h3 (hnd _ h4 rfl)
   have hslot:∀ t,¬ (41≤t∧t≤53)→a'.tmps.getD t undef=a.tmps.getD t undef:=hi.tm
   have hm':=mE_set hjs hi.sz hnl
   have hstep:∀ {d v u'},oj.dst=some d→oj.guard=none→(∀ c,oj.op≠.defer c)→(execOp a'.eval oj).run PR u=.ok (.value v) u'→(j,d,v)∈vals →
     u'=(if (listed.setIfInBounds j true).getD 13 false=true then w2 else if (listed.setIfInBounds j true).getD 11 false=true then w1 else w0)→wpOpIn (Fo ro) n PR ops Q j (wpAnyIn (Fo ro) n PR .any ops Q f (listed.setIfInBounds j true)) a' u:=fun {d v u'} h1 h2 h3 h4 h5 h6=>by
    unfold wpOpIn
    rw [hoj]
    simp only [Region.wanted,h2,if_true]
    refine OpOK.value (R:=fun v' w'=>v'=v∧w'=u') h3 h4 ⟨rfl,rfl⟩ _ Q ?_
    rintro v' w' ⟨rfl,rfl⟩
    rw [h1]
    exact ih _ _ _ (hfin hi hjs h5 hnd h6) (by omega)
   have hsame:j≠13→j≠11→u=(if (listed.setIfInBounds j true).getD 13 false=true then w2 else if (listed.setIfInBounds j true).getD 11 false=true then w1 else w0):=fun h1 h2=>by
    rw [set_getD (by rw [hi.sz]; exact hjs),set_getD (by rw [hi.sz]; exact hjs),if_neg h1,if_neg h2]; exact hi.wd
   have hworld:u=w0∨u=w1∨u=w2:=by
    have:=hi.wd
    split at this
    ·exact .inr (.inr this)
    split at this
    ·exact .inr (.inl this)
    exact .inl this
   have hcl:∀ p q,(p,q)∈needE→listed.getD p false=true→listed.getD q false=true:=fun p q h=>hi.cl _ h
   have hev:∀ t,a'.eval (.tmp t)=a'.tmps.getD t undef:=fun _=>rfl
   rcases cases14 hjs with rfl | rfl | rfl | rfl | rfl | rfl | rfl | rfl | rfl | rfl | rfl | rfl | rfl | rfl
   ·obtain ⟨o',ho',hd,hq,hg⟩:=hop 0 _ _ _ rfl
    rw [hoj] at ho'; cases ho'
    exact hstep hd hg (fun c=>by rw [hq]; exact fun h=>by cases h) (by simp only [execOp,hq,hev,hslot 7 (by omega),r7]; rfl) (by rw [hvals]; simp [poff]) (hsame (by omega) (by omega))
   ·obtain ⟨o',ho',hd,hq,hg⟩:=hop 1 _ _ _ rfl
    rw [hoj] at ho'; cases ho'
    have g:=hgot 0 _ _ (by rw [hvals]; exact List.mem_cons_self) (by decide)
    exact hstep hd hg (fun c=>by rw [hq]; exact fun h=>by cases h) (by simp only [execOp,hq,hev,g]; rfl) (by rw [hvals]; simp) (hsame (by omega) (by omega))
   ·obtain ⟨o',ho',hd,hq,hg⟩:=hop 2 _ _ _ rfl
    rw [hoj] at ho'; cases ho'
    have g:=hgot 1 42 _ (by rw [hvals]; simp; rfl) (by decide)
    exact hstep hd hg (fun c=>by rw [hq]; exact fun h=>by cases h) (by simp only [execOp,hq,hev,g]; exact run_v run_field1) (by rw [hvals]; simp) (hsame (by omega) (by omega))
   ·obtain ⟨o',ho',hd,hq,hg⟩:=hop 3 _ _ _ rfl
    rw [hoj] at ho'; cases ho'
    have g:=hgot 2 43 _ (by rw [hvals]; simp; rfl) (by decide)
    exact hstep hd hg (fun c=>by rw [hq]; exact fun h=>by cases h) (by simp only [execOp,hq,hev,g]; exact run_v (run_load1 (hcell3 u hworld))) (by rw [hvals]; simp) (hsame (by omega) (by omega))
   ·obtain ⟨o',ho',hd,hq,hg⟩:=hop 4 _ _ _ rfl
    rw [hoj] at ho'; cases ho'
    exact hstep hd hg (fun c=>by rw [hq]; exact fun h=>by cases h) (by simp only [execOp,hq,hev,hslot 10 (by omega),r10]; rfl) (by rw [hvals]; simp) (hsame (by omega) (by omega))
   ·obtain ⟨o',ho',hd,hq,hg⟩:=hop 5 _ _ _ rfl
    rw [hoj] at ho'; cases ho'
    exact hstep hd hg (fun c=>by rw [hq]; exact fun h=>by cases h) (by simp only [execOp,hq,hev,hslot 11 (by omega),r11]; rfl) (by rw [hvals]; simp) (hsame (by omega) (by omega))
   ·obtain ⟨o',ho',hd,hq,hg⟩:=hop 6 _ _ _ rfl
    rw [hoj] at ho'; cases ho'
    have g:=hgot 4 45 _ (by rw [hvals]; simp; rfl) (by decide)
    have g':=hgot 5 46 _ (by rw [hvals]; simp; rfl) (by decide)
    exact hstep hd hg (fun c=>by rw [hq]; exact fun h=>by cases h) (by simp only [execOp,hq]; exact run_v (run_key g g')) (by rw [hvals]; simp) (hsame (by omega) (by omega))
   ·obtain ⟨o',ho',hd,hq,hg⟩:=hop 7 _ _ _ rfl
    rw [hoj] at ho'; cases ho'
    have g:=hgot 3 44 _ (by rw [hvals]; simp; rfl) (by decide)
    have g':=hgot 6 47 _ (by rw [hvals]; simp; rfl) (by decide)
    have h13:listed.getD 13 false=false:=by
     cases h13:listed.getD 13 false with
     | false=>rfl
     | true=>rw [hcl 10 7 (by decide) (hcl 13 10 (by decide) h13)] at hnl; cases hnl
    have hw:=hi.wd
    rw [h13,if_neg (by simp)] at hw
    have hrun:(Instr.lookup 110 (.map (some bm)) (keyW l k) false).run PR u=.ok (.int .i64 (o.getD 0)) u:=by
     split at hw
     ·rw [hw]; exact run_look (o:=some (o.getD 0)) h1m (entR_world (V':=fun _ _=>False) hkv1 hall1) hlook1
     rw [hw]; exact run_look hheapm hall hlook
    exact hstep hd hg (fun c=>by rw [hq]; exact fun h=>by cases h) (by simp only [execOp,hq,hev,g,g']; exact run_v hrun) (by rw [hvals]; simp) (hsame (by omega) (by omega))
   ·obtain ⟨o',ho',hd,hq,hg⟩:=hop 8 _ _ _ rfl
    rw [hoj] at ho'; cases ho'
    exact hstep hd hg (fun c=>by rw [hq]; exact fun h=>by cases h) (by simp only [execOp,hq,hev,hslot 8 (by omega),r8]; rfl) (by rw [hvals]; simp) (hsame (by omega) (by omega))
   ·obtain ⟨o',ho',hd,hq,hg⟩:=hop 9 _ _ _ rfl
    rw [hoj] at ho'; cases ho'
    have g:=hgot 8 49 _ (by rw [hvals]; simp; rfl) (by decide)
    obtain ⟨e3,r3,h3,h4,h5⟩:=binK_run (P:=PR) (w:=u) (V:=fun _ _=>False) (l:=Loc.none) (op:=.shl) (t:=3) (y:=.const (.int .i64 1)) (z:=.tmp 49) (c:=vI 1) (d:=vI i) (v:=.int .i64 1) (u:=.int .i64 i) (K:=fun c=>c=vI (shlI .i64 1 (i:Int))) ⟨Int.natCast_nonneg _,rfl⟩ (Rep.flat1 rfl) (Rep.flat1 rfl)
    subst h3
    rw [h4.int] at h5
    exact hstep hd hg (fun c=>by rw [hq]; exact fun h=>by cases h) (by simp only [execOp,hq,hev,g]; exact run_v h5) (by rw [hvals]; simp) (hsame (by omega) (by omega))
   ·obtain ⟨o',ho',hd,hq,hg⟩:=hop 10 _ _ _ rfl
    rw [hoj] at ho'; cases ho'
    have g:=hgot 7 48 _ (by rw [hvals]; simp; rfl) (by decide)
    have g':=hgot 9 50 _ (by rw [hvals]; simp; rfl) (by decide)
    obtain ⟨e3,r3,h3,h4,h5⟩:=binK_run (P:=PR) (w:=u) (V:=fun _ _=>False) (l:=Loc.none) (op:=.or) (t:=3) (y:=.tmp 48) (z:=.tmp 50) (c:=vI (o.getD 0)) (d:=vI (shlI .i64 1 (i:Int))) (v:=.int .i64 (o.getD 0)) (u:=.int .i64 (shlI .i64 1 (i:Int))) (K:=fun c=>c=vI new) (by rw [←hnew]; rfl) (Rep.flat1 rfl) (Rep.flat1 rfl)
    subst h3
    rw [h4.int] at h5
    exact hstep hd hg (fun c=>by rw [hq]; exact fun h=>by cases h) (by simp only [execOp,hq,hev,g,g']; exact run_v h5) (by rw [hvals]; simp) (hsame (by omega) (by omega))
   ·obtain ⟨o',ho',hd,hq,hg⟩:=hop 11 _ _ _ rfl
    rw [hoj] at ho'; cases ho'
    have g:=hgot 3 44 _ (by rw [hvals]; simp; rfl) (by decide)
    have g':=hgot 6 47 _ (by rw [hvals]; simp; rfl) (by decide)
    have h13:listed.getD 13 false=false:=by
     cases h13:listed.getD 13 false with
     | false=>rfl
     | true=>rw [hcl 12 11 (by decide) (hcl 13 12 (by decide) h13)] at hnl; cases hnl
    have hw:=hi.wd
    rw [h13,if_neg (by simp),hnl,if_neg (by simp)] at hw
    subst hw
    rw [←hw1] at hme
    exact hstep hd hg (fun c=>by rw [hq]; exact fun h=>by cases h) (by simp only [execOp,hq,hev,g,g']; exact run_v hme) (by rw [hvals]; simp) (by simp [set_getD (show 11 < listed.size by rw [hi.sz]; omega),h13])
   ·obtain ⟨o',ho',hd,hq,hg⟩:=hop 12 _ _ _ rfl
    rw [hoj] at ho'; cases ho'
    have g:=hgot 11 52 _ (by rw [hvals]; simp; rfl) (by decide)
    exact hstep hd hg (fun c=>by rw [hq]; exact fun h=>by cases h) (by simp only [execOp,hq,hev,g]; exact run_v (v:=goInt st0) rfl) (by rw [hvals]; simp) (hsame (by omega) (by omega))
   obtain ⟨o',ho',hd,hq,hg⟩:=hop 13 _ _ _ rfl
   rw [hoj] at ho'; cases ho'
   have g:=hgot 3 44 _ (by rw [hvals]; simp; rfl) (by decide)
   have g':=hgot 12 53 _ (by rw [hvals]; simp; rfl) (by decide)
   have g'':=hgot 10 51 _ (by rw [hvals]; simp; rfl) (by decide)
   have h11:=hcl 12 11 (by decide) (hnd (13,12) (by decide) rfl)
   have hw:=hi.wd
   rw [hnl,if_neg (by simp),h11,if_pos rfl] at hw
   have hrun:=hstore u (by rw [hw]; exact h1m)
   unfold wpOpIn
   rw [hoj]
   simp only [Region.wanted,hg,if_true]
   refine OpOK.skip (R:=fun _ w'=>w'=w2) (fun c=>by rw [hq]; exact fun h=>by cases h) (w':=w2) (by simp only [execOp,hq,hev,g,g',g'']; refine run_u ?_; rw [hw2,←hw]; exact hrun) rfl _ Q ?_
   rintro v' w' rfl
   rw [hd]
   refine ih _ _ _ ⟨by simp [hi.sz],hi.tm,hi.tsz,hi.df,fun p hp hl=>?_,by rw [set_getD (by rw [hi.sz]; omega),if_pos rfl,if_pos rfl],fun p hp hl=>?_⟩ (by omega)
   ·rw [set_getD (by rw [hi.sz]; omega)] at hl
    have h5:=(hidx _ hp).1
    rw [hvals] at h5
    have h6:=(List.getElem?_eq_some_iff.1 h5).1
    simp at h6
    rw [if_neg (by omega)] at hl
    exact hi.val p hp hl
   rw [set_getD (by rw [hi.sz]; omega)] at hl ⊢
   by_cases e1:13=p.2
   ·rw [if_pos e1]
   rw [if_neg e1]
   by_cases e2:13=p.1
   ·exact hnd p hp e2.symm
   rw [if_neg e2] at hl; exact hi.cl p hp hl
 rw [hsize]
 refine hmain 14 _ a w0 ⟨by simp,fun _ _=>rfl,rfl,rfl,fun p _ hl=>?_,?_,fun p _ hl=>?_⟩ (by decide +kernel)
 ·exfalso
  by_cases hj':p.1 < 14 <;> simp [Array.getD,hj'] at hl
 ·simp [Array.getD]
 exfalso
 by_cases hj':p.1 < 14 <;> simp [Array.getD,hj'] at hl
noncomputable abbrev parE (gl:Gl):Par S Unit:={ par gl with rg:=rgS }
theorem parE_ok (gl:Gl) (En:Env Unit):ParOk PR gl (parE gl) En:={ par_ok gl En with rg:=rgS_ok }
abbrev KV (L:Hv):List (AV S×AV S):=L.map fun e=>(keyE e.1.1 e.1.2,vI e.2)
theorem keq_KV (l l':Nat) (k k':Int):keqS (keyE l k) (keyE l' k')=some (decide ((l,k)=(l',k'))):=by
 show some ((l:Int)==(l':Int)&&k==k')=_
 congr 1
 rw [Bool.eq_iff_iff,Bool.and_eq_true,beq_iff_eq,beq_iff_eq,decide_eq_true_eq,Prod.mk.injEq]
 omega
theorem look_KV (l:Nat) (k:Int):∀ L:Hv,lookM keqS (keyE l k) (KV L)=some (((getL L (l,k)).map fun n:Nat=>(n:Int)).map vI)
 | []=>by
  show (match keqS (keyE l k) (keyE l k) with | none=>none | some _=>some none)=_
  rw [keq_KV]; rfl
 | ((l',k'),v) :: L=>by
  show (match keqS (keyE l k) (keyE l' k') with | none=>none | some true=>some (some (vI v)) | some false=>lookM keqS (keyE l k) (KV L))=_
  rw [keq_KV]
  simp only [getL]
  by_cases h:(l,k)=(l',k')
  ·rw [decide_eq_true h,if_pos h]; rfl
  rw [decide_eq_false h,if_neg h]; exact look_KV l k L
theorem set_KV (l:Nat) (k:Int) (v:Nat):∀ L:Hv,getL L (l,k)≠none→setM keqS (keyE l k) (vI v) (KV L)=KV (putL L (l,k) v)
 | [],h=>absurd rfl h
 | ((l',k'),u) :: L,hn=>by
  simp only [getL] at hn
  simp only [putL]
  show (match keqS (keyE l k) (keyE l' k') with | some true=>(keyE l' k',vI v) :: KV L | _=>(keyE l' k',vI u) :: setM keqS (keyE l k) (vI v) (KV L))=_
  rw [keq_KV]
  by_cases h:(l,k)=(l',k')
  ·rw [decide_eq_true h,if_pos h]; cases h; rfl
  rw [decide_eq_false h,if_neg h]; rw [if_neg h] at hn
  show (keyE l' k',vI u) :: setM keqS (keyE l k) (vI v) (KV L)=_
  rw [set_KV l k v L hn]; rfl
theorem put_KV (l:Nat) (k:Int) (v:Nat):∀ L:Hv,getL L (l,k)=none→KV L++[(keyE l k,vI v)]=KV (putL L (l,k) v)
 | [],_=>rfl
 | ((l',k'),u) :: L,hn=>by
  simp only [getL] at hn
  simp only [putL]
  by_cases h:(l,k)=(l',k')
  ·rw [if_pos h] at hn; cases hn
  rw [if_neg h] at hn; rw [if_neg h]
  show (keyE l' k',vI u) :: (KV L++[(keyE l k,vI v)])=_
  rw [put_KV l k v L hn]; rfl
theorem ent_KV (l:Nat) (k:Int) (v:Nat) (L:Hv):entE (KV L) l k ((getL L (l,k)).map fun n:Nat=>(n:Int)) v=KV (putL L (l,k) v):=by
 unfold entE
 cases h:getL L (l,k) with
 | none=>exact put_KV l k v L h
 | some u=>exact set_KV l k v L (by rw [h]; simp)
theorem KV_keys (L:Hv):∀ p∈KV L,(∃ l k,p.1=keyE l k)∧∃ n,p.2=vI n:=fun p hp=>by
 obtain ⟨e,_,rfl⟩:=List.mem_map.1 hp
 exact ⟨⟨_,_,rfl⟩,_,rfl⟩
theorem KV_zip (L:Hv):((KV L).map fun p=>p.1).zip ((KV L).map fun p=>p.2)=KV L:=by
 induction L with
 | nil=>rfl
 | cons e L ih=>simp only [List.map_cons,List.zip_cons_cons]; exact congrArg (List.cons _) ih
theorem KV_bare1:∀ L:Hv,bareB ((KV L).map fun p=>p.1)=true
 | []=>rfl
 | _ :: L=>KV_bare1 L
theorem KV_bare2:∀ L:Hv,bareB ((KV L).map fun p=>p.2)=true
 | []=>rfl
 | _ :: L=>KV_bare2 L
theorem gotI (L:Hv) (q:Nat×Int):((getL L q).map fun n:Nat=>(n:Int)).getD 0=(gotN L q:Int):=by
 unfold gotN; cases getL L q <;> rfl
abbrev mapR (L:Hv):AV S:=.mpf ((KV L).map fun p=>p.1) ((KV L).map fun p=>p.2)
abbrev setQ (p:Int) (ls:List Lf) (cs:List Cp):List (AV S):=[vI p,lfsV ls,cpsV cs,mapR (havL ls.length cs)]
abbrev setR (p:Int) (ls:List Lf) (cs:List Cp):AV S:=.ref (setQ p ls cs)
def openV (p:Int) (ls:List Lf) (cs:List Cp):AV S:=if chE p ls cs=0 then .tup [setR p ls cs,vI 0] else .tup [.nilp,vI (chE p ls cs)]
theorem openV_ok {p:Int} {ls:List Lf} {cs:List Cp} (h:chE p ls cs=0):openV p ls cs=.tup [setR p ls cs,vI 0]:=if_pos h
theorem openV_no {p:Int} {ls:List Lf} {cs:List Cp} (h:¬ chE p ls cs=0):openV p ls cs=.tup [.nilp,vI (chE p ls cs)]:=if_neg h
def LensS (ls:List Lf) (cs:List Cp):Prop:=(ls.length≤9223372036854775807∧cs.length≤9223372036854775807)∧∀ x∈cs,x.2.length≤9223372036854775807
theorem lkR (L:Hv) (q:Nat×Int):lkv (((getL L q).map fun n:Nat=>(n:Int)).map vI) (vI 0)=vI (gotN L q):=by
 unfold gotN
 cases getL L q <;> rfl
theorem lkE (l:Nat) (k:Int) (L:Hv):lookM keqS (keyE l k) (((KV L).map fun p=>p.1).zip ((KV L).map fun p=>p.2))=some (((getL L (l,k)).map fun n:Nat=>(n:Int)).map vI):=by rw [KV_zip]; exact look_KV l k L
theorem c80 (gl:Gl) (p:Int) (ls:List (ByteArray×Int×Int)) (cs:List (ByteArray×List Int)) (hL:LensS ls cs):PCalls PR gl 80 [.agg [vI p,lfsV ls,cpsV cs]] fun r=>r=openV p ls cs:=by
 refine fnW_sound (parE_ok gl) Tryd.func80 ?_;conv=>whnf
 refine byC (c16 gl p ls cs hL.1 hL.2) op16 ?_;conv=>whnf
 apply bc9<;>intro h2
 ·have h2:¬ chE p ls cs=0:=by have h2:(chE p ls cs != 0)=true:=h2; simpa using h2
  conv=>whnf
  rw [openV_no h2]
 have h2:chE p ls cs=0:=by have h2:(chE p ls cs != 0)=false:=h2; simpa using h2
 have hV:=chk_valid.1 h2
 have hm4:=hV.m4
 have hn6:=hV.n6
 conv=>whnf
 refine loop_q fun Q1 hQ1=>?_
 refine ⟨⟨469762176,[1],[]⟩,?_⟩
 refine LoopW_ind _ (fun i:Nat=>(({ tmps:=[J,J,J,J,J,J,J,.own 24 [],J,J,J,J,J,J,J,J,J,J,J,J,J,J,J,J,J,J,cpsV cs,vI cs.length,vI i,J,J,J,J,J,J,J,J,J,J,J,J,J,J,J,J,J,J,J,J,J,J,J,J,J,J,J,J],seg:=[(22,.mp (KV (opnL ls.length cs i))),(24,.cells (setC p ls cs++[.mpv 22]))],up:=[] }:St S))) (fun i:Nat=>(i≤cs.length)) (fun i:Nat=>(cs.length - i)) () ?_ 0 (Nat.zero_le _)
 intro i hi Z1 hZ1
 conv=>whnf
 apply bc9<;>intro h6
 ·have hlt:i < cs.length:=by have:=of_decide_eq_true h6; omega
  have hw:=wrap_nat (n:=i) (by omega)
  conv=>whnf
  refine ⟨_,getI_nat hlt,?_⟩;conv=>whnf
  have hlen:=(hV.cp hlt).2.1
  refine ⟨⟨120728846720,[9,2009],[2009]⟩,?_⟩
  refine LoopW_ind _ (fun l:Nat=>(({ tmps:=[J,J,J,J,J,J,J,.own 24 [],vI i,J,J,J,J,J,J,J,J,J,J,J,J,J,J,J,J,J,cpsV cs,vI cs.length,vI i,J,J,J,J,J,vL cs[i].2,vI cs[i].2.length,vI l,J,J,J,J,J,J,J,J,J,J,J,J,J,J,J,J,J,J,J,J],seg:=[(22,.mp (KV (rowL cs (opnL ls.length cs i) i l))),(24,.cells (setC p ls cs++[.mpv 22]))],up:=[] }:St S))) (fun l:Nat=>(l≤cs[i].2.length)) (fun l:Nat=>(cs[i].2.length - l)) () ?_ 0 (Nat.zero_le _)
  intro l hl Z2 hZ2
  conv=>whnf
  apply bc9<;>intro h9
  ·have hltl:l < cs[i].2.length:=by have:=of_decide_eq_true h9; omega
   have hwl:=wrap_nat (n:=l) (by omega)
   conv=>whnf
   refine ⟨_,getI_nat hltl,?_⟩;conv=>whnf
   refine ⟨[],[],[],[],⟨0,[],[]⟩,?_⟩;conv=>whnf
   have hk:cs[i].2[l]=hasI cs i l:=by unfold hasI; rw [getD_at hlt,getD_at hltl]
   have hgl:gotN (rowL cs (opnL ls.length cs i) i l) (l,hasI cs i l) < 2 ^ 63:=by
    have h1:gotN (rowL cs (opnL ls.length cs i) i l) (l,hasI cs i l)=gotN (opnL ls.length cs i) (l,hasI cs i l):=by
     rw [rowL_got (fun _ _=>.inr trivial),if_neg (by omega)]
    rw [h1]
    exact Nat.lt_of_lt_of_le (gotN_lt (by omega) _ (by omega)) (by decide)
   refine ⟨⟨rfl,rfl⟩,rfl,Nat.le_of_ble_eq_true rfl,(l:Int),cs[i].2[l],i,24,22,_,_,_,_,_,⟨rfl,rfl,rfl,rfl⟩,rfl,⟨trivial,trivial,trivial⟩,rfl,KV_keys _,look_KV l _ _,?_⟩
   rw [gotI,shl_one (by omega),hk,or_nat hgl (Nat.pow_lt_pow_right (by omega) (by omega)),ent_KV]
   conv=>whnf
   refine ⟨⟨120728846720,[],[]⟩,?_⟩;conv=>whnf
   rw [hwl]
   exact hZ2 (l+1) hltl (by omega)
  have hgl:l=cs[i].2.length:=by have:=of_decide_eq_false h9; omega
  conv=>whnf
  refine ⟨⟨469762176,[9,1009,2009,3009,4009],[]⟩,?_⟩;conv=>whnf
  rw [hw]
  have hz:=hZ1 (i+1) hlt (by omega)
  rw [hgl,hlen]
  exact hz
 have hge:i=cs.length:=by have:=of_decide_eq_false h6; omega
 conv=>whnf
 refine (hQ1 _ _ _).mpr ?_;conv=>whnf
 rw [KV_bare1,KV_bare2]
 conv=>whnf
 rw [openV_ok h2,hge]
theorem op80:Opens PR 80:=⟨_,Tryd.func80,rfl,rfl⟩
theorem wrap_sub1 {n:Nat} (h1:1≤n) (h2:n < 2 ^ 62):IntKind.i64.wrap ((n:Int) - 1)=((n - 1:Nat):Int):=by
 rw [wrap_int (by omega) (by have:(2:Nat) ^ 62=4611686018427387904:=rfl; omega)]; omega
def fr79 (n:Nat) (l:List Int):St S:={ tmps:=[vI n,J,.sl (S:=S) U.int l (some 2),J,J,J,J,J,J,J,J,J,J,J,J,J],seg:=[(2,.row U.int false)],up:=[] }
theorem c79 (n:Nat) (hn:n < 1099511627776):PCalls PR glT 79 [vI n] fun r=>r=vL (natsV (bitsL n)):=by
 refine fnW_sound (par_ok glT) Tryd.func79 ?_;conv=>whnf
 refine ⟨⟨5,[],[2]⟩,?_⟩
 refine LoopW_ind _ (fun s:Nat×List Int=>fr79 s.1 s.2) (fun s=>s.1≤n∧s.2.length+s.1≤n∧s.2++natsV (bitsL s.1)=natsV (bitsL n)) (fun s=>s.1) () ?_ (n,[]) ⟨Nat.le_refl _,by simp,rfl⟩
 rintro ⟨m,l⟩ ⟨hm,hl,h⟩ Z hZ
 simp only at hm hl h
 conv=>whnf
 apply bc9<;>intro h1
 ·have h1:m≠0:=by
   have:((m:Int) != 0)=true:=h1
   intro e; subst e; simp at this
  have hlt:=and_pred_lt h1
  have hm63:m < 2 ^ 63:=by omega
  rw [bitsL_pos h1] at h
  have hwr:IntKind.u64.wrap (m:Int)=m:=by rw [IntKind.wrap_u64]; omega
  have hand:bitsI .and .i64 (m:Int) (IntKind.i64.wrap ((m:Int) - 1))=((m &&& (m - 1):Nat):Int):=by
   rw [wrap_sub1 (by omega) (by omega),and_nat hm63 (by omega)]
  conv=>whnf
  rw [hwr]
  refine byC (c130 m (by omega)) op130 ?_;conv=>whnf
  refine ⟨_,rfl,?_⟩;conv=>whnf
  refine ⟨?_,?_⟩
  ·show l.length+1≤1099511627776
   omega
  conv=>whnf
  refine ⟨⟨5,[13],[]⟩,?_⟩
  have:=hZ (m &&& (m - 1),l++[((Lib.ctz 64 m:Nat):Int)]) ⟨by omega,by simp; omega,by rw [List.append_assoc]; exact h⟩ hlt
  unfold fr79 at this
  simp only at this
  rw [←hand] at this
  exact this
 have h1:m=0:=by
  have:((m:Int) != 0)=false:=h1
  simpa using this
 subst h1
 rw [bitsL_zero] at h
 conv=>whnf
 rw [←h]; simp
theorem op79:Opens PR 79:=⟨_,Tryd.func79,rfl,rfl⟩
def onesE (n:Int):Int :=
 let a:=IntKind.u64.wrap (bitsI .and .u64 (shrI .u64 n 1) 6148914691236517205+bitsI .and .u64 n 6148914691236517205)
 let b:=IntKind.u64.wrap (bitsI .and .u64 (shrI .u64 a 2) 3689348814741910323+bitsI .and .u64 a 3689348814741910323)
 let c:=bitsI .and .u64 (IntKind.u64.wrap (shrI .u64 b 4+b)) 1085102592571150095
 let d:=IntKind.u64.wrap (c+shrI .u64 c 8)
 let e:=IntKind.u64.wrap (d+shrI .u64 d 16)
 IntKind.u64.wrap (e+shrI .u64 e 32)
theorem onesE_eq {n:Nat} (h:n < 256):bitsI .and .i64 (IntKind.i64.wrap (onesE (n:Int))) 127=((onesN n:Nat):Int):=by
 have:∀ n:Fin 256,bitsI .and .i64 (IntKind.i64.wrap (onesE (n.val:Int))) 127=((onesN n.val:Nat):Int):=by decide +kernel
 exact this ⟨n,h⟩
theorem idx_m1 {xs:List Int} {v:Int} {i:Nat} (hi:i < xs.length):idx (fun x=>v==x) (xs.drop i) i=if v==xs[i] then (i:Int) else idx (fun x=>v==x) (xs.drop (i+1)) (i+1):=idx_step (p:=fun x=>v==x) hi
def maxU (xs:List Int) (i:Nat):Int:=(xs.take i).foldl max (xs.headD 0)
theorem maxU_succ {xs:List Int} {i:Nat} (h:i < xs.length):maxU xs (i+1)=max (maxU xs i) xs[i]:=by
 unfold maxU; rw [take_succ' h,List.foldl_append]; rfl
def cntU (xs:List Int) (i:Nat):List Int:=[((cntI (xs.take i) 0:Nat):Int),((cntI (xs.take i) 1:Nat):Int),((cntI (xs.take i) 2:Nat):Int)]
theorem cntI_succ {xs:List Int} {i:Nat} (h:i < xs.length) (k:Int):cntI (xs.take (i+1)) k=if xs[i]=k then cntI (xs.take i) k+1 else cntI (xs.take i) k:=by
 unfold cntI; rw [take_succ' h,List.filter_append]
 by_cases e:xs[i]=k
 ·rw [if_pos e]; simp [e]
 rw [if_neg e]; simp [e]
theorem cntI_le (xs:List Int) (k:Int):cntI xs k≤xs.length:=List.length_filter_le _ _
theorem cntU_get {xs:List Int} {i k:Nat} (hk:k≤2):getI (cntU xs i) (k:Int)=some ((cntI (xs.take i) k:Nat):Int):=by
 match k,hk with
 | 0,_=>rfl
 | 1,_=>rfl
 | 2,_=>rfl
theorem cntU_set {xs:List Int} {i k:Nat} (hk:k≤2) (h:i < xs.length) (he:xs[i]=(k:Int)):setI (cntU xs i) (k:Int) ((cntI (xs.take i) k+1:Nat):Int)=cntU xs (i+1):=by
 unfold cntU
 rw [cntI_succ h,cntI_succ h,cntI_succ h,he]
 match k,hk with
 | 0,_=>rfl
 | 1,_=>rfl
 | 2,_=>rfl
theorem kind_eq {xs:List Int} (_h:xs.length≤6):idx (fun x=>(maxU [0,((cntI xs 1:Nat):Int),((cntI xs 2:Nat):Int)] 3)==x) [((cntI xs 1:Nat):Int),((cntI xs 2:Nat):Int)] 0=kindI xs - 1:=by
 have hm:maxU [0,((cntI xs 1:Nat):Int),((cntI xs 2:Nat):Int)] 3=max ((cntI xs 1:Nat):Int) ((cntI xs 2:Nat):Int):=by
  show max (max (max 0 0) ((cntI xs 1:Nat):Int)) ((cntI xs 2:Nat):Int)=_
  omega
 rw [hm]
 unfold kindI
 by_cases hc:cntI xs 2 > cntI xs 1
 ·rw [if_pos hc,show max ((cntI xs 1:Nat):Int) ((cntI xs 2:Nat):Int)=((cntI xs 2:Nat):Int) by omega]
  have h1:(((cntI xs 2:Nat):Int)==((cntI xs 1:Nat):Int))=false:=by simp; omega
  simp [idx,h1]
 rw [if_neg hc,show max ((cntI xs 1:Nat):Int) ((cntI xs 2:Nat):Int)=((cntI xs 1:Nat):Int) by omega]
 simp [idx]
theorem c148 (gl:Gl) (n:Nat) (hn:n < 256):PCalls PR gl 148 [(.int .u64 n:AV S)] fun r=>r=vI (onesN n):=by
 refine fnW_sound (par_ok gl) Tryd.func148 ?_;conv=>whnf
 refine ⟨by omega,?_⟩;conv=>whnf
 refine ⟨by omega,?_⟩;conv=>whnf
 refine ⟨by omega,?_⟩;conv=>whnf
 refine ⟨by omega,?_⟩;conv=>whnf
 refine ⟨by omega,?_⟩;conv=>whnf
 refine ⟨by omega,?_⟩;conv=>whnf
 exact congrArg vI (onesE_eq hn)
theorem op148:Opens PR 148:=⟨_,Tryd.func148,rfl,rfl⟩
theorem c131 (gl:Gl) (n:Nat) (hn:n < 256):PCalls PR gl 131 [(.int .u64 n:AV S)] fun r=>r=vI (onesN n):=by
 refine fnW_sound (par_ok gl) Tryd.func131 ?_;conv=>whnf
 refine byC (c148 gl n hn) op148 ?_;conv=>whnf
theorem op131:Opens PR 131:=⟨_,Tryd.func131,rfl,rfl⟩
theorem c128 (gl:Gl) (xs:List Int) (hx:xs.length≤9223372036854775807) (v:Int):PCalls PR gl 128 [vL xs,vI v] fun r=>r=vI (idx (fun x=>v==x) xs 0):=by
 refine fnW_sound (par_ok gl) Tryd.func128 ?_;conv=>whnf
 refine ⟨⟨387,[],[]⟩,?_⟩
 refine LoopW_ind _ (fun i:Nat=>(({ tmps:=[vL xs,vI v,J,J,J,J,J,vI xs.length,vI i,J,J,J,J,J,J,J,J,J,J],seg:=[],up:=[] }:St S))) (fun i:Nat=>(i≤xs.length∧idx (fun x=>v==x) (xs.drop i) i=idx (fun x=>v==x) xs 0)) (fun i:Nat=>(xs.length - i)) () ?_ 0 ⟨Nat.zero_le _,rfl⟩
 intro i hinv Z1 hZ1
 obtain ⟨hi,hd⟩:=hinv
 conv=>whnf
 apply bc9<;>intro h2
 ·have hlt:i < xs.length:=by have:=of_decide_eq_true h2; omega
  have hw:=wrap_nat (n:=i) (by omega)
  conv=>whnf
  refine ⟨_,getI_nat hlt,?_⟩;conv=>whnf
  apply bc9<;>intro h4
  ·have h4:(v==xs[i])=true:=h4
   rw [idx_m1 hlt,if_pos h4] at hd
   conv=>whnf
   rw [←hd]
  have h4:(v==xs[i])=false:=h4
  rw [idx_m1 hlt,h4,if_neg (by simp)] at hd
  conv=>whnf
  refine ⟨⟨387,[],[]⟩,?_⟩;conv=>whnf
  rw [hw]
  exact hZ1 (i+1) ⟨hlt,hd⟩ (by omega)
 have hge:i=xs.length:=by have:=of_decide_eq_false h2; omega
 conv=>whnf
 rw [idx_end hge] at hd
 rw [←hd]
theorem op128:Opens PR 128:=⟨_,Tryd.func128,rfl,rfl⟩
theorem c129 (gl:Gl) (xs:List Int) (hx:xs.length≤9223372036854775807) (hne:1≤xs.length):PCalls PR gl 129 [vL xs] fun r=>r=vI (maxU xs xs.length):=by
 refine fnW_sound (par_ok gl) Tryd.func129 ?_;conv=>whnf
 apply bc9<;>intro h1
 ·exfalso
  have:=of_decide_eq_true h1
  omega
 conv=>whnf
 have h0:0 < xs.length:=by omega
 conv=>whnf
 refine ⟨_,getI_zero h0,?_⟩;conv=>whnf
 have e1:maxU xs 1=xs[0]:=by rw [show (1:Nat)=0+1 from rfl,maxU_succ h0]; unfold maxU; rw [List.take_zero,List.foldl_nil,List.headD_eq_head?_getD,List.head?_eq_getElem?,List.getElem?_eq_getElem h0]; simp
 rw [←e1]
 refine ⟨⟨25,[],[]⟩,?_⟩
 refine LoopW_ind _ (fun i:Nat=>(({ tmps:=[vL xs,J,J,vI (maxU xs i),vI i,J,J,J,J,J,J,J,J,J,J,J,J,J,J,J,J,J,J,J,J],seg:=[],up:=[] }:St S))) (fun i:Nat=>(i≤xs.length∧1≤i)) (fun i:Nat=>(xs.length - i)) () ?_ 1 ⟨hne,Nat.le_refl _⟩
 intro i hinv Z1 hZ1
 obtain ⟨hi,hi1⟩:=hinv
 conv=>whnf
 apply bc9<;>intro h5
 ·have hlt:i < xs.length:=by have:=of_decide_eq_true h5; omega
  have hw:=wrap_nat (n:=i) (by omega)
  conv=>whnf
  refine ⟨_,getI_nat hlt,?_⟩;conv=>whnf
  refine ⟨⟨25,[],[]⟩,?_⟩;conv=>whnf
  rw [hw]
  have hz:=hZ1 (i+1) ⟨hlt,by omega⟩ (by omega)
  rw [maxU_succ hlt,Int.max_def] at hz
  rw [show (if xs[i] > maxU xs i then xs[i] else maxU xs i)=(if maxU xs i≤xs[i] then xs[i] else maxU xs i) by split <;> split <;> omega]
  exact hz
 have hge:i=xs.length:=by have:=of_decide_eq_false h5; omega
 conv=>whnf
 rw [hge]
theorem op129:Opens PR 129:=⟨_,Tryd.func129,rfl,rfl⟩
theorem c76 (gl:Gl) (p:Int) (ls:List (ByteArray×Int×Int)) (cs:List (ByteArray×List Int)) (hV:Valid p ls cs) (c:Nat) (hc:c < cs.length):PCalls PR gl 76 [setR p ls cs,vI c] fun r=>r=vI (kindI (cs.getD c cp0).2):=by
 refine fnW_sound (par_ok gl) Tryd.func76 ?_;conv=>whnf
 have hlen:=(hV.cp hc).2.1
 have hn6:=hV.n6
 have hrg:=(hV.cp hc).2.2.1
 have e0:(cs.getD c cp0).2=cs[c].2:=by rw [getD_at hc]
 rw [e0]
 conv=>whnf
 refine ⟨_,getI_nat hc,?_⟩;conv=>whnf
 rw [show ([0,0,0]:List Int)=cntU cs[c].2 0 from rfl]
 refine ⟨⟨458784,[],[]⟩,?_⟩
 refine LoopW_ind _ (fun i:Nat=>(({ tmps:=[J,J,J,J,J,.own 5 [],J,J,J,J,J,J,J,J,J,J,vL cs[c].2,vI cs[c].2.length,vI i,J,J,J,J,J,J,J,J,J,J,J,J,J,J,J],seg:=[(5,.cells [.arr (S:=S) U.int 3 (cntU cs[c].2 i)])],up:=[] }:St S))) (fun i:Nat=>(i≤cs[c].2.length)) (fun i:Nat=>(cs[c].2.length - i)) () ?_ 0 (Nat.zero_le _)
 intro i hi Z1 hZ1
 conv=>whnf
 apply bc9<;>intro h3
 ·have hlt:i < cs[c].2.length:=by have:=of_decide_eq_true h3; omega
  have hw:=wrap_nat (n:=i) (by omega)
  conv=>whnf
  refine ⟨_,getI_nat hlt,?_⟩;conv=>whnf
  have hk:=hrg _ (List.getElem_mem hlt)
  obtain ⟨k,hk2,hkk⟩:∃ k:Nat,k≤2∧cs[c].2[i]=(k:Int):=⟨cs[c].2[i].toNat,by omega,by omega⟩
  have hcl:=cntI_le (cs[c].2.take i) k
  rw [List.length_take] at hcl
  conv=>whnf
  rw [hkk]
  conv=>whnf
  refine ⟨by omega,by omega,?_⟩;conv=>whnf
  refine ⟨_,cntU_get hk2,?_⟩;conv=>whnf
  refine ⟨by omega,by omega,?_⟩;conv=>whnf
  refine ⟨_,cntU_get hk2,_,rfl,?_⟩;conv=>whnf
  refine ⟨⟨458784,[],[]⟩,?_⟩;conv=>whnf
  rw [hw,wrap_nat (n:=cntI (cs[c].2.take i) k) (by omega),cntU_set hk2 hlt hkk]
  exact hZ1 (i+1) hlt (by omega)
 have hge:i=cs[c].2.length:=by have:=of_decide_eq_false h3; omega
 have e9:cs[c].2.take i=cs[c].2:=by rw [hge,List.take_length]
 conv=>whnf
 refine ⟨by omega,by omega,?_⟩;conv=>whnf
 refine ⟨_,rfl,_,rfl,?_⟩;conv=>whnf
 refine ⟨[0,1,2,3,4,5],[],[],[],⟨17179869183,[],[5]⟩,by decide +kernel,?_⟩;conv=>whnf
 refine ⟨by omega,?_⟩;conv=>whnf
 refine ⟨by omega,by simp <;> omega,?_⟩;conv=>whnf
 refine ⟨by omega,by simp <;> omega,?_⟩;conv=>whnf
 refine byC (c129 gl [0,((cntI (cs[c].2.take i) 1:Nat):Int),((cntI (cs[c].2.take i) 2:Nat):Int)] (by simp) (by simp)) op129 ?_;conv=>whnf
 refine byC (c128 gl [((cntI (cs[c].2.take i) 1:Nat):Int),((cntI (cs[c].2.take i) 2:Nat):Int)] (by simp) _) op128 ?_;conv=>whnf
 show vI (IntKind.i64.wrap (1+idx (fun x=>(maxU [0,((cntI (cs[c].2.take i) 1:Nat):Int),((cntI (cs[c].2.take i) 2:Nat):Int)] 3)==x) _ 0))=_
 rw [e9,kind_eq (by omega)]
 congr 1
 have:=kindI_mem cs[c].2
 rw [show 1+(kindI cs[c].2 - 1)=kindI cs[c].2 by omega]
 exact wrap_int (by omega) (by omega)
theorem op76:Opens PR 76:=⟨_,Tryd.func76,rfl,rfl⟩
def askB (n m:Nat) (c l:Int):Bool:=[c].any (outB 0 ((m:Int) - 1))||[l].any (outB 0 ((n:Int) - 1))
def enterV (p:Int) (ls:List Lf) (cs:List Cp) (c l:Int):AV S:=if chE p ls cs=0 then .tup [setR p ls cs,vI (if askB ls.length cs.length c l then 4 else 0)] else .tup [.nilp,vI (chE p ls cs)]
def enE (p:Int) (ls:List Lf) (cs:List Cp) (c l:Int):Int:=if chE p ls cs=0 then (if askB ls.length cs.length c l then 4 else 0) else chE p ls cs
theorem enterV_ok {p:Int} {ls:List Lf} {cs:List Cp} {c l:Int} (h:chE p ls cs=0) (h2:askB ls.length cs.length c l=false):enterV p ls cs c l=.tup [setR p ls cs,vI 0]:=by unfold enterV; rw [if_pos h,h2]; rfl
theorem enterV_four {p:Int} {ls:List Lf} {cs:List Cp} {c l:Int} (h:chE p ls cs=0) (h2:askB ls.length cs.length c l=true):enterV p ls cs c l=.tup [setR p ls cs,vI 4]:=by unfold enterV; rw [if_pos h,h2]; rfl
theorem enterV_no {p:Int} {ls:List Lf} {cs:List Cp} {c l:Int} (h:¬ chE p ls cs=0):enterV p ls cs c l=.tup [.nilp,vI (chE p ls cs)]:=if_neg h
theorem askB_no {n m:Nat} {c l:Int} (h:askB n m c l=false):(0≤c∧c≤(m:Int) - 1)∧0≤l∧l≤(n:Int) - 1:=by
 unfold askB at h
 rw [Bool.or_eq_false_iff,any_one,any_one] at h
 exact h
theorem enter_cases (p:Int) (ls:List Lf) (cs:List Cp) (c l:Int):(∃ a b:Nat,a < cs.length∧b < ls.length∧c=a∧l=b∧Valid p ls cs∧enterV p ls cs c l=.tup [setR p ls cs,vI 0]∧enE p ls cs c l=0) ∨
  (enE p ls cs c l≠0∧enterV p ls cs c l=.tup [setR p ls cs,vI (enE p ls cs c l)])∨(enE p ls cs c l≠0∧enterV p ls cs c l=.tup [.nilp,vI (enE p ls cs c l)]):=by
 by_cases h:chE p ls cs=0
 ·have hV:=chk_valid.1 h
  have h1:=hV.m1
  have h2:=hV.n1
  cases ha:askB ls.length cs.length c l with
  | false =>
   obtain ⟨h3,h4⟩:=askB_no ha
   exact .inl ⟨c.toNat,l.toNat,by omega,by omega,by omega,by omega,hV,enterV_ok h ha,by unfold enE; rw [if_pos h,ha]; rfl⟩
  | true =>
   have he:enE p ls cs c l=4:=by unfold enE; rw [if_pos h,ha]; rfl
   exact .inr (.inl ⟨by rw [he]; decide,by rw [he]; exact enterV_four h ha⟩)
 have he:enE p ls cs c l=chE p ls cs:=by unfold enE; rw [if_neg h]
 exact .inr (.inr ⟨by rw [he]; exact h,by rw [he]; exact enterV_no h⟩)
def mostU (cs:List Cp) (k:Int):Nat→Nat×Nat
 | 0=>(cs.length+1,0)
 | l+1=>if onesN (havN cs l k) < (mostU cs k l).1 then (onesN (havN cs l k),l) else mostU cs k l
abbrev mostN (ls:List Lf) (cs:List Cp) (k:Int):Nat×Nat:=mostU cs k ls.length
theorem havN_256 {cs:List Cp} (h:cs.length≤4) (l:Nat) (k:Int):havN cs l k < 256:=Nat.lt_of_lt_of_le (havN_lt h l k) (by decide)
theorem havN_63 {cs:List Cp} (h:cs.length≤4) (l:Nat) (k:Int):havN cs l k < 2 ^ 63:=Nat.lt_of_lt_of_le (havN_lt h l k) (by decide)
theorem wrap_u64n {n:Nat} (h:n < 256):IntKind.u64.wrap (n:Int)=n:=by rw [IntKind.wrap_u64]; omega
def missB (cs:List Cp) (c l:Nat):Bool:=hasI cs c l==0
def missL (n:Nat) (cs:List Cp) (c:Nat):List Nat:=(List.range n).filter (missB cs c)
theorem havN_bit {cs:List Cp} {c:Nat} (hc:c < cs.length) (l:Nat) (k:Int):(havN cs l k).testBit c=(hasI cs c l==k):=by
 rw [havN_test,decide_eq_true hc,Bool.true_and]
def missV (p:Int) (ls:List Lf) (cs:List Cp) (c:Int):List Int×Int×Int:=if enE p ls cs c 0=0 then (natsV (missL ls.length cs c.toNat),kindI (cs.getD c.toNat cp0).2,0) else ([],0,enE p ls cs c 0)
def donL (cs:List Cp) (c l:Nat):List Nat:=(List.range cs.length).filter fun d=>decide (d≠c)&&hasI cs d l==kindI (cs.getD c cp0).2
def donV (p:Int) (ls:List Lf) (cs:List Cp) (c l:Int):List Int×Int:=if enE p ls cs c l=0 then (natsV (donL cs c.toNat l.toNat),0) else ([],enE p ls cs c l)
theorem don_bits {cs:List Cp} (h4:cs.length≤4) {c l:Nat} (hc:c < cs.length):bitsL (less (havN cs l (kindI (cs.getD c cp0).2)) (2 ^ c))=donL cs c l:=by
 rw [bitsL_below (c:=cs.length) (by omega)]
 ·apply List.filter_congr
  intro d hd
  have hd:=List.mem_range.1 hd
  unfold less
  rw [Nat.testBit_xor,Nat.testBit_and,havN_bit hd,Nat.testBit_two_pow]
  by_cases e:d=c
  ·subst e; cases (hasI cs d l==kindI (cs.getD d cp0).2) <;> simp
  have:¬ c=d:=fun h=>e h.symm
  simp [e,this]
 refine Nat.xor_lt_two_pow ?_ (Nat.lt_of_le_of_lt Nat.and_le_left ?_) <;>
 ·unfold havN
  exact bitsO_lt fun x hx=>List.mem_range.1 (List.mem_filter.1 hx).1
def mosV (p:Int) (ls:List Lf) (cs:List Cp) (k:Int):Int×Int×Int:=if chE p ls cs=0 then (if [k].any (outB 1 2) then (0,0,7) else ((mostN ls cs k).1,(mostN ls cs k).2,0)) else (0,0,chE p ls cs)
def lostI (p:Int) (ls:List Lf) (cs:List Cp) (c l:Nat):Int:=if hasI cs c l=0 then (p * (ls.getD l lf0).2.2+999) / 1000 else if hasI cs c l=kindI (cs.getD c cp0).2 then 0 else (p * (ls.getD l lf0).2.2+1999) / 2000
def worU (p:Int) (ls:List Lf) (cs:List Cp) (c:Nat):Nat→Int
 | 0=>p
 | l+1=>worU p ls cs c l - lostI p ls cs c l
def worV (p:Int) (ls:List Lf) (cs:List Cp) (c:Int):Int×Int:=if enE p ls cs c 0=0 then (max 0 (worU p ls cs c.toNat ls.length),0) else (0,enE p ls cs c 0)
theorem Valid.lost {p:Int} {ls:List Lf} {cs:List Cp} (h:Valid p ls cs) {l:Nat} (hl:l < ls.length):0≤p * (ls.getD l lf0).2.2∧p * (ls.getD l lf0).2.2≤1000000000:=by
 obtain ⟨_,_,_,_,h5,h6,_⟩:=h.lf hl
 rw [getD_at hl]
 have hp:=h.price
 exact ⟨Int.mul_nonneg hp.1 h5,by have:=Int.mul_le_mul hp.2 h6 h5 (by omega); omega⟩
theorem Valid.wor {p:Int} {ls:List Lf} {cs:List Cp} (h:Valid p ls cs) (c:Nat):∀ {l:Nat},l≤ls.length→-10000000 * (l:Int)≤worU p ls cs c l∧worU p ls cs c l≤1000000
 | 0,_=>by simp only [worU]; have:=h.price; omega
 | l+1,hl=>by
  have ih:=h.wor c (l:=l) (by omega)
  have h1:=h.lost (l:=l) (by omega)
  have h2:0≤lostI p ls cs c l∧lostI p ls cs c l≤10000000:=by
   unfold lostI
   generalize p * (ls.getD l lf0).2.2=q at h1
   split
   ·omega
   split <;> omega
  simp only [worU]
  omega
theorem c75 (gl:Gl) (p:Int) (ls:List (ByteArray×Int×Int)) (cs:List (ByteArray×List Int)) (hL:LensS ls cs) (c l:Int):PCalls PR gl 75 [.agg [vI p,lfsV ls,cpsV cs],vI c,vI l] fun r=>r=enterV p ls cs c l:=by
 obtain ⟨⟨hl1,hl2⟩,_⟩:=hL
 have hw1:IntKind.i64.wrap ((cs.length:Int) - 1)=(cs.length:Int) - 1:=wrap_int (by omega) (by omega)
 have hw2:IntKind.i64.wrap ((ls.length:Int) - 1)=(ls.length:Int) - 1:=wrap_int (by omega) (by omega)
 refine fnW_sound (par_ok gl) Tryd.func75 ?_;conv=>whnf
 refine byC (c80 gl p ls cs ⟨⟨hl1,hl2⟩,by assumption⟩) op80 ?_
 rcases hk:chE p ls cs with (_ | n) | n
 ·rw [openV_ok hk]
  conv=>whnf
  refine ⟨_,rfl,?_⟩;conv=>whnf
  refine byC (c62 gl [c] (by simp) 0 _) op62 ?_;conv=>whnf
  apply bc9<;>intro g2_10
  ·have g10:[c].any (outB 0 (IntKind.i64.wrap ((cs.length:Int) - 1)))=true:=g2_10
   rw [hw1] at g10
   have ha:askB ls.length cs.length c l=true:=by unfold askB; rw [g10,Bool.true_or]
   conv=>whnf
   rw [enterV_four hk ha]
  have g10:[c].any (outB 0 (IntKind.i64.wrap ((cs.length:Int) - 1)))=false:=g2_10
  rw [hw1] at g10
  conv=>whnf
  refine ⟨_,rfl,?_⟩;conv=>whnf
  refine byC (c62 gl [l] (by simp) 0 _) op62 ?_;conv=>whnf
  apply bc9<;>intro h2
  ·have h2:[l].any (outB 0 (IntKind.i64.wrap ((ls.length:Int) - 1)))=true:=h2
   rw [hw2] at h2
   have ha:askB ls.length cs.length c l=true:=by unfold askB; rw [g10,h2,Bool.false_or]
   conv=>whnf
   rw [enterV_four hk ha]
  have h2:[l].any (outB 0 (IntKind.i64.wrap ((ls.length:Int) - 1)))=false:=h2
  rw [hw2] at h2
  have ha:askB ls.length cs.length c l=false:=by unfold askB; rw [g10,h2,Bool.false_or]
  conv=>whnf
  rw [enterV_ok hk ha]
 ·rw [openV_no (by rw [hk]; intro e; cases e),hk]
  conv=>whnf
  rw [enterV_no (by rw [hk]; intro e; cases e),hk]
 rw [openV_no (by rw [hk]; intro e; cases e),hk]
 conv=>whnf
 rw [enterV_no (by rw [hk]; intro e; cases e),hk]
theorem op75:Opens PR 75:=⟨_,Tryd.func75,rfl,rfl⟩
theorem c81 (gl:Gl) (p:Int) (ls:List (ByteArray×Int×Int)) (cs:List (ByteArray×List Int)) (hV:Valid p ls cs) (k:Int):PCalls PR gl 81 [setR p ls cs,vI k] fun r=>r=.tup [vI (mostN ls cs k).1,vI (mostN ls cs k).2]:=by
 have hm1:=hV.m1
 have hm4:=hV.m4
 have hn1:=hV.n1
 have hn6:=hV.n6
 refine fnW_sound (par_ok gl) Tryd.func81 ?_;conv=>whnf
 rw [show IntKind.i64.wrap ((cs.length:Int)+1)=((mostU cs k 0).1:Int) from wrap_nat (by omega)]
 refine ⟨⟨3145779,[],[]⟩,?_⟩
 refine LoopW_ind _ (fun i:Nat=>(({ tmps:=[setR p ls cs,vI k,J,J,vI (mostU cs k i).1,vI (mostU cs k i).2,J,J,J,J,J,J,J,J,J,J,J,J,J,J,vI ls.length,vI i,J,J,J,J,J,J,J,J,J,J,J,J,J,J,J,J,J,J,J,J],seg:=[],up:=[] }:St S))) (fun i:Nat=>(i≤ls.length)) (fun i:Nat=>(ls.length - i)) () ?_ 0 (Nat.zero_le _)
 intro i hi Z1 hZ1
 conv=>whnf
 apply bc9<;>intro h3
 ·have hlt:i < ls.length:=by have:=of_decide_eq_true h3; omega
  have hw:=wrap_nat (n:=i) (by omega)
  conv=>whnf
  have hg:=havL_got (n:=ls.length) (cs:=cs) hlt k
  have h256:=havN_256 hm4 i k
  refine ⟨_,lkE _ _ _,?_⟩;conv=>whnf
  rw [lkR,hg]
  conv=>whnf
  rw [wrap_u64n h256]
  conv=>whnf
  refine byC (c131 gl _ h256) op131 ?_;conv=>whnf
  apply bc9<;>intro h6
  ·have h6:onesN (havN cs i k) < (mostU cs k i).1:=by have:=of_decide_eq_true h6; omega
   have hs:mostU cs k (i+1)=(onesN (havN cs i k),i):=by simp only [mostU]; rw [if_pos h6]
   conv=>whnf
   refine ⟨⟨3145779,[],[]⟩,?_⟩;conv=>whnf
   rw [hw]
   have hz:=hZ1 (i+1) hlt (by omega)
   rw [hs] at hz
   exact hz
  have h6:¬ onesN (havN cs i k) < (mostU cs k i).1:=by have:=of_decide_eq_false h6; omega
  have hs:mostU cs k (i+1)=mostU cs k i:=by simp only [mostU]; rw [if_neg h6]
  conv=>whnf
  refine ⟨⟨3145779,[],[]⟩,?_⟩;conv=>whnf
  rw [hw]
  have hz:=hZ1 (i+1) hlt (by omega)
  rw [hs] at hz
  exact hz
 have hge:i=ls.length:=by have:=of_decide_eq_false h3; omega
 conv=>whnf
 rw [hge]
theorem op81:Opens PR 81:=⟨_,Tryd.func81,rfl,rfl⟩
theorem c18 (p:Int) (ls:List (ByteArray×Int×Int)) (cs:List (ByteArray×List Int)) (hL:LensS ls cs) (c:Int):PCalls PR glT 18 [.agg [vI p,lfsV ls,cpsV cs],vI c] fun r=>r=.tup [vL (missV p ls cs c).1,vI (missV p ls cs c).2.1,vI (missV p ls cs c).2.2]:=by
 refine fnW_sound (par_ok glT) Tryd.func18 ?_;conv=>whnf
 refine byC (c75 glT p ls cs hL c 0) op75 ?_
 rcases enter_cases p ls cs c 0 with ⟨a,b,ha,hb,rfl,hlb,hV,hv,he⟩ | ⟨he,hv⟩ | ⟨he,hv⟩
 ·rw [hv]
  have hm1:=hV.m1
  have hm4:=hV.m4
  have hn1:=hV.n1
  have hn6:=hV.n6
  conv=>whnf
  refine ⟨⟨3145874,[2],[4]⟩,?_⟩
  refine LoopW_ind _ (fun i:Nat=>(({ tmps:=[J,vI a,J,J,.sl (S:=S) U.int (natsV ((List.range i).filter (missB cs a))) (some 4),J,J,setR p ls cs,J,J,J,J,J,J,J,J,J,J,J,J,vI ls.length,vI i,J,J,J,J,J,J,J,J,J,J,J,J,J,J,J,J,J,J,J,J,J,J],seg:=[(4,.row U.int false)],up:=[] }:St S))) (fun i:Nat=>(i≤ls.length)) (fun i:Nat=>(ls.length - i)) () ?_ 0 (Nat.zero_le _)
  intro i hi Z1 hZ1
  conv=>whnf
  apply bc9<;>intro h5
  ·have hlt:i < ls.length:=by have:=of_decide_eq_true h5; omega
   have hw:=wrap_nat (n:=i) (by omega)
   conv=>whnf
   refine ⟨_,lkE _ _ _,?_⟩;conv=>whnf
   rw [lkR,havL_got hlt]
   conv=>whnf
   refine ⟨Int.natCast_nonneg _,?_⟩;conv=>whnf
   apply bc9<;>intro h7
   ·have h7:(bitsI .and .i64 (shrI .i64 ((havN cs i 0:Nat):Int) (a:Int)) 1==1)=true:=h7
    rw [Pln.bitB (havN_63 hm4 i 0) (by omega),havN_bit ha] at h7
    conv=>whnf
    refine ⟨_,rfl,?_⟩;conv=>whnf
    have hlen:=nf_len (missB cs a) i
    refine ⟨lim (by simp at hlen ⊢; omega),?_⟩;conv=>whnf
    refine ⟨⟨3145874,[37,38],[]⟩,?_⟩;conv=>whnf
    rw [hw]
    have hz:=hZ1 (i+1) hlt (by omega)
    rw [nf_T h7] at hz
    exact hz
   have h7:(bitsI .and .i64 (shrI .i64 ((havN cs i 0:Nat):Int) (a:Int)) 1==1)=false:=h7
   rw [Pln.bitB (havN_63 hm4 i 0) (by omega),havN_bit ha] at h7
   conv=>whnf
   refine ⟨⟨3145874,[37,38],[]⟩,?_⟩;conv=>whnf
   rw [hw]
   have hz:=hZ1 (i+1) hlt (by omega)
   rw [nf_F h7] at hz
   exact hz
  have hge:i=ls.length:=by have:=of_decide_eq_false h5; omega
  conv=>whnf
  refine byC (c76 glT p ls cs hV a ha) op76 ?_;conv=>whnf
  unfold missV missL
  rw [if_pos he,hge]
  rfl
 ·rw [hv]
  conv=>whnf
  apply bc9<;>intro h2
  ·conv=>whnf
   unfold missV
   rw [if_neg he]
  exfalso
  have h2:(enE p ls cs c 0 != 0)=false:=h2
  exact he (by simpa using h2)
 rw [hv]
 conv=>whnf
 apply bc9<;>intro h2
 ·conv=>whnf
  unfold missV
  rw [if_neg he]
 exfalso
 have h2:(enE p ls cs c 0 != 0)=false:=h2
 exact he (by simpa using h2)
theorem op18:Opens PR 18:=⟨_,Tryd.func18,rfl,rfl⟩
theorem c21 (p:Int) (ls:List (ByteArray×Int×Int)) (cs:List (ByteArray×List Int)) (hL:LensS ls cs) (c l:Int):PCalls PR glT 21 [.agg [vI p,lfsV ls,cpsV cs],vI c,vI l] fun r=>r=.tup [vL (donV p ls cs c l).1,vI (donV p ls cs c l).2]:=by
 refine fnW_sound (par_ok glT) Tryd.func21 ?_;conv=>whnf
 refine byC (c75 glT p ls cs hL c l) op75 ?_
 rcases enter_cases p ls cs c l with ⟨a,b,ha,hb,rfl,hlb,hV,hv,he⟩ | ⟨he,hv⟩ | ⟨he,hv⟩
 ·rw [hv]
  have hm1:=hV.m1
  have hm4:=hV.m4
  have hn1:=hV.n1
  have hn6:=hV.n6
  subst hlb
  conv=>whnf
  refine ⟨[0,1,2,3,4,5,6,10,11,7,8,9,12,13,14,15],[9],[],[],⟨17179869183,[],[]⟩,by decide +kernel,?_⟩;conv=>whnf
  refine ⟨Int.natCast_nonneg _,?_⟩;conv=>whnf
  refine byC (c76 glT p ls cs hV a ha) op76 ?_;conv=>whnf
  refine ⟨_,lkE _ _ _,?_⟩;conv=>whnf
  rw [lkR,havL_got hb]
  conv=>whnf
  rw [shl_one (by omega),andNot_nat (havN_63 hm4 _ _) (Nat.pow_lt_pow_right (by omega) (by omega))]
  conv=>whnf
  refine byC (c79 (less (havN cs b (kindI (cs.getD a cp0).2)) (2 ^ a)) (Nat.lt_of_lt_of_le (Nat.xor_lt_two_pow (havN_lt hm4 _ _) (Nat.lt_of_le_of_lt Nat.and_le_left (havN_lt hm4 _ _))) (by decide))) op79 ?_;conv=>whnf
  rw [don_bits hm4 ha]
  unfold donV
  rw [if_pos he]
  rfl
 ·rw [hv]
  conv=>whnf
  apply bc9<;>intro h2
  ·conv=>whnf
   unfold donV
   rw [if_neg he]
  exfalso
  have h2:(enE p ls cs c l != 0)=false:=h2
  exact he (by simpa using h2)
 rw [hv]
 conv=>whnf
 apply bc9<;>intro h2
 ·conv=>whnf
  unfold donV
  rw [if_neg he]
 exfalso
 have h2:(enE p ls cs c l != 0)=false:=h2
 exact he (by simpa using h2)
theorem op21:Opens PR 21:=⟨_,Tryd.func21,rfl,rfl⟩
theorem c23 (gl:Gl) (p:Int) (ls:List (ByteArray×Int×Int)) (cs:List (ByteArray×List Int)) (hL:LensS ls cs) (k:Int):PCalls PR gl 23 [.agg [vI p,lfsV ls,cpsV cs],vI k] fun r=>r=.tup [vI (mosV p ls cs k).1,vI (mosV p ls cs k).2.1,vI (mosV p ls cs k).2.2]:=by
 refine fnW_sound (par_ok gl) Tryd.func23 ?_;conv=>whnf
 refine byC (c80 gl p ls cs hL) op80 ?_
 rcases Classical.em (chE p ls cs=0) with hk | hk
 ·rw [openV_ok hk]
  have hV:=chk_valid.1 hk
  conv=>whnf
  refine ⟨_,rfl,?_⟩;conv=>whnf
  refine byC (c62 gl [k] (by simp) 1 2) op62 ?_;conv=>whnf
  apply bc9<;>intro h4
  ·have h4:[k].any (outB 1 2)=true:=h4
   conv=>whnf
   unfold mosV
   rw [if_pos hk,if_pos h4]
  have h4:[k].any (outB 1 2)=false:=h4
  conv=>whnf
  refine byC (c81 gl p ls cs hV k) op81 ?_;conv=>whnf
  unfold mosV
  rw [if_pos hk,h4,if_neg (by simp)]
 rw [openV_no hk]
 conv=>whnf
 apply bc9<;>intro h2
 ·conv=>whnf
  unfold mosV
  rw [if_neg hk]
 exfalso
 have h2:(chE p ls cs != 0)=false:=h2
 exact hk (by simpa using h2)
theorem op23:Opens PR 23:=⟨_,Tryd.func23,rfl,rfl⟩
theorem c25 (gl:Gl) (p:Int) (ls:List (ByteArray×Int×Int)) (cs:List (ByteArray×List Int)) (hL:LensS ls cs) (c:Int):PCalls PR gl 25 [.agg [vI p,lfsV ls,cpsV cs],vI c] fun r=>r=.tup [vI (worV p ls cs c).1,vI (worV p ls cs c).2]:=by
 refine fnW_sound (par_ok gl) Tryd.func25 ?_;conv=>whnf
 refine byC (c75 gl p ls cs hL c 0) op75 ?_
 rcases enter_cases p ls cs c 0 with ⟨a,b,ha,hb,rfl,hlb,hV,hv,he⟩ | ⟨he,hv⟩ | ⟨he,hv⟩
 ·rw [hv]
  have hm1:=hV.m1
  have hm4:=hV.m4
  have hn1:=hV.n1
  have hn6:=hV.n6
  have hlen:=(hV.cp ha).2.1
  conv=>whnf
  refine ⟨_,getI_nat ha,?_⟩;conv=>whnf
  refine ⟨⟨1879048518,[],[]⟩,?_⟩
  refine LoopW_ind _ (fun i:Nat=>(({ tmps:=[J,vI a,.own 2 [],J,J,J,setR p ls cs,J,vI (worU p ls cs a i),J,J,J,J,J,J,J,J,J,J,J,J,J,J,J,J,J,J,J,vL cs[a].2,vI cs[a].2.length,vI i,J,J,J,J,J,J,J,J,J,J,J,J,J,J,J,J,J,J,J,J,J,J,J,J,J,J,J,J,J,J,J,J,J,J],seg:=[(2,.cells [vI p,lfsV ls,cpsV cs])],up:=[] }:St S))) (fun i:Nat=>(i≤cs[a].2.length)) (fun i:Nat=>(cs[a].2.length - i)) () ?_ 0 (Nat.zero_le _)
  intro i hi Z1 hZ1
  conv=>whnf
  apply bc9<;>intro h6
  ·have hlt:i < cs[a].2.length:=by have:=of_decide_eq_true h6; omega
   have hw:=wrap_nat (n:=i) (by omega)
   conv=>whnf
   refine ⟨_,getI_nat hlt,?_⟩;conv=>whnf
   refine ⟨[0,1,2,3,4,5,6,7,8,9],[],[],[],⟨36893488147419103231,[],[]⟩,by decide +kernel,?_⟩;conv=>whnf
   have hil:i < ls.length:=by omega
   refine ⟨_,getI_nat hil,?_⟩;conv=>whnf
   have hlo:=hV.lost hil
   rw [show ls[i]=ls.getD i lf0 by rw [getD_at hil]]
   conv=>whnf
   have hwl:IntKind.i64.wrap (p * (ls.getD i lf0).2.2)=(p * (ls.getD i lf0).2.2):=wrap_int (by omega) (by omega)
   rw [hwl]
   conv=>whnf
   have hwo:=hV.wor a (l:=i) (by omega)
   have hhas:cs[a].2[i]=hasI cs a i:=by unfold hasI; rw [getD_at ha,getD_at hlt]
   apply bc9<;>intro h11
   ·have h11:hasI cs a i=0:=by have h11:(cs[a].2[i]==0)=true:=h11; rw [hhas] at h11; simpa using h11
    have hs:worU p ls cs a (i+1)=worU p ls cs a i - ((p * (ls.getD i lf0).2.2)+999) / 1000:=by simp only [worU]; unfold lostI; rw [if_pos h11]
    conv=>whnf
    refine ⟨by omega,?_⟩;conv=>whnf
    refine ⟨⟨1879048518,[],[]⟩,?_⟩;conv=>whnf
    rw [hw]
    have hz:=hZ1 (i+1) hlt (by omega)
    rw [hs] at hz
    rw [show IntKind.i64.wrap ((p * (ls.getD i lf0).2.2)+999)=(p * (ls.getD i lf0).2.2)+999 from wrap_int (by omega) (by omega),show IntKind.i64.wrap (((p * (ls.getD i lf0).2.2)+999).tdiv 1000)=((p * (ls.getD i lf0).2.2)+999) / 1000 by rw [Int.tdiv_eq_ediv_of_nonneg (by omega)]; exact wrap_int (by omega) (by omega),show IntKind.i64.wrap (worU p ls cs a i - ((p * (ls.getD i lf0).2.2)+999) / 1000)=worU p ls cs a i - ((p * (ls.getD i lf0).2.2)+999) / 1000 from wrap_int (by omega) (by omega)]
    exact hz
   have h11:¬ hasI cs a i=0:=by have h11:(cs[a].2[i]==0)=false:=h11; rw [hhas] at h11; simpa using h11
   conv=>whnf
   refine byC (c76 gl p ls cs hV a ha) op76 ?_;conv=>whnf
   apply bc9<;>intro h13
   ·have h13:hasI cs a i=kindI (cs.getD a cp0).2:=by have h13:(cs[a].2[i]==kindI (cs.getD a cp0).2)=true:=h13; rw [hhas] at h13; simpa using h13
    have hs:worU p ls cs a (i+1)=worU p ls cs a i:=by simp only [worU]; unfold lostI; rw [if_neg h11,if_pos h13]; omega
    conv=>whnf
    refine ⟨⟨1879048518,[],[]⟩,?_⟩;conv=>whnf
    rw [hw]
    have hz:=hZ1 (i+1) hlt (by omega)
    rw [hs] at hz
    exact hz
   have h13:¬ hasI cs a i=kindI (cs.getD a cp0).2:=by have h13:(cs[a].2[i]==kindI (cs.getD a cp0).2)=false:=h13; rw [hhas] at h13; simpa using h13
   have hs:worU p ls cs a (i+1)=worU p ls cs a i - ((p * (ls.getD i lf0).2.2)+1999) / 2000:=by simp only [worU]; unfold lostI; rw [if_neg h11,if_neg h13]
   conv=>whnf
   refine ⟨by omega,?_⟩;conv=>whnf
   refine ⟨⟨1879048518,[],[]⟩,?_⟩;conv=>whnf
   rw [hw]
   have hz:=hZ1 (i+1) hlt (by omega)
   rw [hs] at hz
   rw [show IntKind.i64.wrap ((p * (ls.getD i lf0).2.2)+1999)=(p * (ls.getD i lf0).2.2)+1999 from wrap_int (by omega) (by omega),show IntKind.i64.wrap (((p * (ls.getD i lf0).2.2)+1999).tdiv 2000)=((p * (ls.getD i lf0).2.2)+1999) / 2000 by rw [Int.tdiv_eq_ediv_of_nonneg (by omega)]; exact wrap_int (by omega) (by omega),show IntKind.i64.wrap (worU p ls cs a i - ((p * (ls.getD i lf0).2.2)+1999) / 2000)=worU p ls cs a i - ((p * (ls.getD i lf0).2.2)+1999) / 2000 from wrap_int (by omega) (by omega)]
   exact hz
  have hge:i=cs[a].2.length:=by have:=of_decide_eq_false h6; omega
  conv=>whnf
  unfold worV
  rw [if_pos he,hge,hlen]
  show AV.tup [vI (if worU p ls cs a ls.length > 0 then worU p ls cs a ls.length else 0),vI 0]=AV.tup [vI (max 0 (worU p ls cs a ls.length)),vI 0]
  rw [show (if worU p ls cs a ls.length > 0 then worU p ls cs a ls.length else 0)=max 0 (worU p ls cs a ls.length) by split <;> omega]
 ·rw [hv]
  conv=>whnf
  apply bc9<;>intro h2
  ·conv=>whnf
   unfold worV
   rw [if_neg he]
  exfalso
  have h2:(enE p ls cs c 0 != 0)=false:=h2
  exact he (by simpa using h2)
 rw [hv]
 conv=>whnf
 apply bc9<;>intro h2
 ·conv=>whnf
  unfold worV
  rw [if_neg he]
 exfalso
 have h2:(enE p ls cs c 0 != 0)=false:=h2
 exact he (by simpa using h2)
theorem op25:Opens PR 25:=⟨_,Tryd.func25,rfl,rfl⟩
def snE (x:Sn):Int:=if [x.1].any (outB 0 2)||[x.2.1,x.2.2].any (outB 1 600) then 7 else if x.2.1 > x.2.2 then 2 else 0
def snF (hs:List Sn) (i:Nat):Int:=snE (hs.getD i sn0)
def chH (hs:List Sn):Int×Int:=if [(hs.length:Int)].any (outB 1 8) then (0,3) else firstR (snF hs) hs.length
abbrev chHE (hs:List Sn):Int:=(chH hs).2
structure ValidH (hs:List Sn):Prop where
 n1:1≤hs.length
 n8:hs.length≤8
 seen:∀ i,i < hs.length→snF hs i=0
theorem chH_valid {hs:List Sn}:chHE hs=0↔ValidH hs:=by
 unfold chHE chH
 constructor
 ·intro h
  by_cases h1:[(hs.length:Int)].any (outB 1 8)=true
  ·rw [if_pos h1] at h; cases h
  rw [if_neg h1] at h
  have h1:=any_one.1 (by simpa using h1)
  exact ⟨by omega,by omega,firstR_zero h⟩
 rintro ⟨h1,h2,h3⟩
 rw [if_neg (by rw [any_one.2 (by omega)]; simp),firstR_no h3]
theorem ValidH.sn {hs:List Sn} (h:ValidH hs) {i:Nat} (hi:i < hs.length):(0≤hs[i].1∧hs[i].1≤2)∧1≤hs[i].2.1∧hs[i].2.1≤hs[i].2.2∧hs[i].2.2≤600:=by
 have h1:=h.seen i hi
 unfold snF snE at h1
 rw [getD_at hi] at h1
 split at h1
 ·cases h1
 split at h1
 ·cases h1
 rename_i h2 h3
 simp only [List.any_cons,List.any_nil,Bool.or_false,Bool.or_eq_true,outB,decide_eq_true_eq,not_or] at h2
 omega
def pairX (x y:Sn):Bool:=(x.1==y.1||x.1 * y.1==0)&&decide (x.2.1≤y.2.2)&&decide (y.2.1≤x.2.2)
def pairH (hs:List Sn) (a b:Nat):Bool:=pairX (hs.getD a sn0) (hs.getD b sn0)
def clL (hs:List Sn):List Nat→Option (Nat×Nat)
 | []=>none
 | a :: r=>match r.find? fun b=>!pairH hs a b with
  | some b=>some (a,b)
  | none=>clL hs r
def clO (o:Option (Nat×Nat)):Int×Int×Bool:=match o with
 | some (a,b)=>(a,b,true)
 | none=>(0,0,false)
abbrev clR (hs:List Sn) (set:Nat):Option (Nat×Nat):=clL hs (bitsL set)
def accB (hs:List Sn) (set:Nat):Bool:=(clR hs (less (2 ^ hs.length - 1) set)).isNone
def fewH (hs:List Sn):Nat→Nat×List Nat
 | 0=>(hs.length,[])
 | s+1=>if onesN s > (fewH hs s).1||!accB hs s then fewH hs s else if onesN s < (fewH hs s).1 then (onesN s,[s]) else ((fewH hs s).1,(fewH hs s).2++[s])
abbrev setsH (hs:List Sn):List Nat:=(fewH hs (2 ^ hs.length)).2
theorem fewH_le (hs:List Sn):∀ s,(fewH hs s).1≤hs.length
 | 0=>Nat.le_refl _
 | s+1=>by
  have:=fewH_le hs s
  simp only [fewH]
  split
  ·exact this
  split
  ·show onesN s≤_; omega
  exact this
theorem fewH_len (hs:List Sn):∀ s,(fewH hs s).2.length≤s
 | 0=>Nat.le_refl _
 | s+1=>by
  have:=fewH_len hs s
  simp only [fewH]
  split
  ·omega
  split
  ·simp
  simp; omega
theorem fewH_lt (hs:List Sn):∀ s,∀ x∈(fewH hs s).2,x < s
 | 0,x,h=>by simp [fewH] at h
 | s+1,x,h=>by
  simp only [fewH] at h
  split at h
  ·have:=fewH_lt hs s x h; omega
  split at h
  ·simp at h; omega
  rcases List.mem_append.1 h with h | h
  ·have:=fewH_lt hs s x h; omega
  simp at h; omega
def minU (c:Nat→Nat→Bool) (l:List Nat) (i:Nat):Nat:=(l.take i).foldl (fun m x=>if c x m then x else m) (l.headD 0)
theorem minU_succ {c:Nat→Nat→Bool} {l:List Nat} {i:Nat} (h:i < l.length):minU c l (i+1)=if c l[i] (minU c l i) then l[i] else minU c l i:=by
 unfold minU; rw [take_succ' h,List.foldl_append]; rfl
theorem minU_mem {c:Nat→Nat→Bool} {l:List Nat} (h:0 < l.length):∀ i,i≤l.length→minU c l i∈l
 | 0,_=>by
  unfold minU
  rw [List.take_zero,List.foldl_nil,List.headD_eq_head?_getD,List.head?_eq_getElem?,List.getElem?_eq_getElem h]
  exact List.getElem_mem h
 | i+1,hi=>by
  rw [minU_succ (by omega)]
  split
  ·exact List.getElem_mem _
  exact minU_mem h i (by omega)
def cmpS (a b:Nat):Int:=cmpL cmpI (natsV (bitsL a)) (natsV (bitsL b))
def cmB (a b:Nat):Bool:=decide (cmpS a b < 0)
def forN (hs:List Sn):Nat:=minU cmB (setsH hs) (setsH hs).length
def forV (hs:List Sn):List Int×Int:=if chHE hs=0 then (natsV (bitsL (forN hs)),0) else ([],chHE hs)
def allU (n:Nat) (l:List Nat) (i:Nat):Nat:=(l.take i).foldl (fun m x=>m &&& x) (2 ^ n - 1)
def someU (l:List Nat) (i:Nat):Nat:=(l.take i).foldl (fun m x=>m ||| x) 0
theorem allU_succ {n:Nat} {l:List Nat} {i:Nat} (h:i < l.length):allU n l (i+1)=allU n l i &&& l[i]:=by unfold allU; rw [take_succ' h,List.foldl_append]; rfl
theorem someU_succ {l:List Nat} {i:Nat} (h:i < l.length):someU l (i+1)=someU l i ||| l[i]:=by unfold someU; rw [take_succ' h,List.foldl_append]; rfl
theorem allU_lt {n:Nat} (l:List Nat):∀ i,i≤l.length→allU n l i < 2 ^ n
 | 0,_=>by
  have:=Nat.two_pow_pos n
  show 2 ^ n - 1 < 2 ^ n; omega
 | i+1,h=>by rw [allU_succ (by omega)]; exact Nat.lt_of_le_of_lt Nat.and_le_left (allU_lt l i (by omega))
theorem someU_lt {n:Nat} {l:List Nat} (hl:∀ x∈l,x < 2 ^ n):∀ i,i≤l.length→someU l i < 2 ^ n
 | 0,_=>Nat.two_pow_pos n
 | i+1,h=>by rw [someU_succ (by omega)]; exact Nat.or_lt_two_pow (someU_lt hl i (by omega)) (hl _ (List.getElem_mem _))
def sureV (hs:List Sn):List Int×List Int×Int:=if chHE hs=0 then (natsV (bitsL (allU hs.length (setsH hs) (setsH hs).length)),natsV (bitsL (someU (setsH hs) (setsH hs).length)),0) else ([],[],chHE hs)
def ascB (told:List Int) (i:Nat):Bool:=decide (i > 0)&&decide (told.getD i 0≤told.getD (i - 1) 0)
def ascAll (told:List Int):Bool:=(List.range told.length).all fun i=>!ascB told i
def restU (n:Nat) (told:List Int) (i:Nat):Nat:=(told.take i).foldl (fun m x=>less m (2 ^ x.toNat)) (2 ^ n - 1)
theorem restU_succ {n:Nat} {told:List Int} {i:Nat} (h:i < told.length):restU n told (i+1)=less (restU n told i) (2 ^ told[i].toNat):=by unfold restU; rw [take_succ' h,List.foldl_append]; rfl
theorem less_lt' {a b c:Nat} (h:a < 2 ^ c):less a b < 2 ^ c:=Nat.xor_lt_two_pow h (Nat.lt_of_le_of_lt Nat.and_le_left h)
theorem restU_lt (n:Nat) (told:List Int):∀ i,i≤told.length→restU n told i < 2 ^ n
 | 0,_=>by
  have:=Nat.two_pow_pos n
  show 2 ^ n - 1 < 2 ^ n; omega
 | i+1,h=>by rw [restU_succ (by omega)]; exact less_lt' (restU_lt n told i (by omega))
abbrev restN (hs:List Sn) (told:List Int):Nat:=restU hs.length told told.length
def restE (hs:List Sn) (told:List Int):Int:=if chHE hs=0 then (if told.any (outB 0 ((hs.length:Int) - 1)) then 4 else if ascAll told then 0 else 2) else chHE hs
def restV (hs:List Sn) (told:List Int):Int×Int:=if restE hs told=0 then ((restN hs told:Nat),0) else (0,restE hs told)
def proV (hs:List Sn) (told:List Int):Int×Int×Int:=if restE hs told=0 then (match clR hs (restN hs told) with
  | some (a,b)=>(a,b,0)
  | none=>(0,0,8)) else (0,0,restE hs told)
def talU (hs:List Sn) (l:List Nat) (i:Nat):Int×Int:=(l.take i).foldl (fun s x=>(max s.1 (hs.getD x sn0).2.1,min s.2 (hs.getD x sn0).2.2)) (0,600)
theorem talU_succ {hs:List Sn} {l:List Nat} {i:Nat} (h:i < l.length):talU hs l (i+1)=(max (talU hs l i).1 (hs.getD l[i] sn0).2.1,min (talU hs l i).2 (hs.getD l[i] sn0).2.2):=by unfold talU; rw [take_succ' h,List.foldl_append]; rfl
def talV (hs:List Sn) (told:List Int):Int×Int×Int:=if restE hs told=0 then (if (clR hs (restN hs told)).isSome||restN hs told==0 then (0,0,8) else ((talU hs (bitsL (restN hs told)) (bitsL (restN hs told)).length).1,(talU hs (bitsL (restN hs told)) (bitsL (restN hs told)).length).2,0)) else (0,0,restE hs told)
noncomputable abbrev parN (gl:Gl):Par S Unit:={ par gl with nl:=true }
theorem parN_ok (gl:Gl) (En:Env Unit):ParOk PR gl (parN gl) En:={ par_ok gl En with }
theorem mask_all {n:Nat} (h:n≤60):IntKind.i64.wrap (shlI .i64 1 (n:Int) - 1)=((2 ^ n - 1:Nat):Int):=by
 rw [shl_one (by omega)]
 have h1:2 ^ n≤2 ^ 60:=Nat.pow_le_pow_right (by omega) h
 have h2:(2:Nat) ^ 60=1152921504606846976:=rfl
 have h3:=Nat.two_pow_pos n
 rw [wrap_int (by omega) (by omega)]; omega
theorem bits_mem {n m:Nat} (hn:n≤60) (h:m < 2 ^ n):∀ x∈bitsL m,x < n:=fun x hx=>by
 rw [bitsL_below (by omega) h] at hx
 exact List.mem_range.1 (List.mem_filter.1 hx).1
theorem clL_step {hs:List Sn} {l:List Nat} {i:Nat} (h:i < l.length) (hy:∀ j (hj:j < (l.drop (i+1)).length),pairH hs l[i] (l.drop (i+1))[j]=true):clL hs (l.drop i)=clL hs (l.drop (i+1)):=by
 rw [List.drop_eq_getElem_cons h,clL]
 have:(l.drop (i+1)).find? (fun b=>!pairH hs l[i] b)=none:=List.find?_eq_none.2 fun b hb=>by
  obtain ⟨j,hj,rfl⟩:=List.getElem_of_mem hb
  rw [hy j hj]; decide
 rw [this]
theorem clL_hit {hs:List Sn} {l:List Nat} {i k:Nat} (h:i < l.length) (hk:k < (l.drop (i+1)).length) (hy:∀ j (hj:j < k),pairH hs l[i] ((l.drop (i+1))[j]'(by omega))=true) (hn:pairH hs l[i] (l.drop (i+1))[k]=false) :
  clL hs (l.drop i)=some (l[i],(l.drop (i+1))[k]):=by
 rw [List.drop_eq_getElem_cons h,clL]
 have:(l.drop (i+1)).find? (fun b=>!pairH hs l[i] b)=some (l.drop (i+1))[k]:=by
  rw [List.find?_eq_some_iff_getElem]
  exact ⟨by rw [hn]; rfl,k,hk,rfl,fun j hj=>by rw [hy j hj]; rfl⟩
 rw [this]
theorem onesB {n:Nat} (h:n < 256):IntKind.u64.wrap (n:Int)=n:=wrap_u64n h
theorem natsV_get {l:List Nat} {i:Nat} (h:i < (natsV l).length):(natsV l)[i]=((l[i]'(by simpa using h):Nat):Int):=by simp [natsV]
theorem c100 (gl:Gl) (i:Int) (x:Sn):PCalls PR gl 100 [vI i,.agg [vI x.1,vI x.2.1,vI x.2.2]] fun r=>r=vI (snE x):=by
 refine fnW_sound (par_ok gl) Tryd.func100 ?_;conv=>whnf
 refine ⟨_,rfl,?_⟩;conv=>whnf
 refine byC (c62 gl [x.1] (by simp) 0 2) op62 ?_;conv=>whnf
 apply bc9<;>intro g1_4
 ·have g4:[x.1].any (outB 0 2)=true:=g1_4
  conv=>whnf
  unfold snE
  rw [g4,Bool.true_or,if_pos rfl]
 have g4:[x.1].any (outB 0 2)=false:=g1_4
 conv=>whnf
 refine ⟨_,rfl,?_⟩;conv=>whnf
 refine ⟨_,rfl,?_⟩;conv=>whnf
 refine byC (c62 gl [x.2.1,x.2.2] (by simp) 1 600) op62 ?_;conv=>whnf
 apply bc9<;>intro h1
 ·have h1:[x.2.1,x.2.2].any (outB 1 600)=true:=h1
  conv=>whnf
  unfold snE
  rw [g4,h1,Bool.false_or,if_pos rfl]
 have h1:[x.2.1,x.2.2].any (outB 1 600)=false:=h1
 conv=>whnf
 apply bc9<;>intro h3
 ·have h3:x.2.1 > x.2.2:=of_decide_eq_true h3
  conv=>whnf
  unfold snE
  rw [g4,h1,Bool.false_or,if_neg (by simp),if_pos h3]
 have h3:¬ x.2.1 > x.2.2:=of_decide_eq_false h3
 conv=>whnf
 unfold snE
 rw [g4,h1,Bool.false_or,if_neg (by simp),if_neg h3]
theorem op100:Opens PR 100:=⟨_,Tryd.func100,rfl,rfl⟩
theorem c99 (gl:Gl) (hs:List Sn) (hl:hs.length≤9223372036854775807):PCalls PR gl 99 [snsV hs,.clo (.func 100) [] []] fun r=>r=.tup [vI (firstR (snF hs) hs.length).1,vI (firstR (snF hs) hs.length).2]:=by
 refine fnW_sound (par_ok gl) Tryd.func99 ?_;conv=>whnf
 refine ⟨⟨3586,[],[]⟩,?_⟩
 refine LoopW_ind _ (fun i:Nat=>(({ tmps:=[J,.clo (.func 100) [] [],J,J,J,J,J,J,J,snsV hs,vI hs.length,vI i,J,J,J,J,J,J,J,J,J,J,J,J,J],seg:=[],up:=[] }:St S))) (fun i:Nat=>(i≤hs.length∧∀ j,j < i→(snF hs) j=0)) (fun i:Nat=>(hs.length - i)) () ?_ 0 ⟨Nat.zero_le _,fun j h=>absurd h (Nat.not_lt_zero j)⟩
 intro i hinv Z1 hZ1
 obtain ⟨hi,hd⟩:=hinv
 conv=>whnf
 apply bc9<;>intro h2
 ·have hlt:i < hs.length:=by have:=of_decide_eq_true h2; omega
  have hw:=wrap_nat (n:=i) (by omega)
  conv=>whnf
  refine ⟨_,getI_nat hlt,?_⟩;conv=>whnf
  refine byC (to (c100 gl i hs[i]) (show _=vI ((snF hs) i) by unfold snF; rw [getD_at hlt])) op100 ?_;conv=>whnf
  apply bc9<;>intro h5
  ·have h5:(snF hs) i≠0:=by have h5:((snF hs) i != 0)=true:=h5; simpa using h5
   conv=>whnf
   rw [firstR_at hlt hd h5]
  have h5:(snF hs) i=0:=by have h5:((snF hs) i != 0)=false:=h5; simpa using h5
  conv=>whnf
  refine ⟨⟨3586,[7,1007,2007,3007,4007],[]⟩,?_⟩;conv=>whnf
  rw [hw]
  exact hZ1 (i+1) ⟨hlt,up_succ hd h5⟩ (by omega)
 have hge:i=hs.length:=by have:=of_decide_eq_false h2; omega
 conv=>whnf
 subst hge
 rw [firstR_no hd]
theorem op99:Opens PR 99:=⟨_,Tryd.func99,rfl,rfl⟩
theorem c31 (gl:Gl) (hs:List Sn) (hl:hs.length≤9223372036854775807):PCalls PR gl 31 [.agg [snsV hs]] fun r=>r=.tup [vI (chH hs).1,vI (chH hs).2]:=by
 refine fnW_sound (par_ok gl) Tryd.func31 ?_;conv=>whnf
 refine ⟨_,rfl,?_⟩;conv=>whnf
 refine byC (c62 gl [(hs.length:Int)] (by simp) 1 8) op62 ?_;conv=>whnf
 apply bc9<;>intro h1
 ·have h1:[(hs.length:Int)].any (outB 1 8)=true:=h1
  conv=>whnf
  unfold chH
  rw [if_pos h1]
 have h1:[(hs.length:Int)].any (outB 1 8)=false:=h1
 conv=>whnf
 refine byC (c99 gl hs hl) op99 ?_;conv=>whnf
 unfold chH
 rw [h1,if_neg (by simp)]
theorem op31:Opens PR 31:=⟨_,Tryd.func31,rfl,rfl⟩
theorem c102 (gl:Gl) (hs:List Sn) (hl:hs.length≤9223372036854775807):PCalls PR gl 102 [.agg [snsV hs]] fun r=>r=.tup [.agg [snsV hs],vI (chHE hs)]:=by
 refine fnW_sound (par_ok gl) Tryd.func102 ?_;conv=>whnf
 refine byC (c31 gl hs hl) op31 ?_;conv=>whnf
theorem op102:Opens PR 102:=⟨_,Tryd.func102,rfl,rfl⟩
theorem c108 (gl:Gl) (hs:List Sn) (h8:hs.length≤8):PCalls PR gl 108 [.agg [snsV hs]] fun r=>r=vI ((2 ^ hs.length - 1:Nat):Int):=by
 refine fnW_sound (par_ok gl) Tryd.func108 ?_;conv=>whnf
 refine ⟨Int.natCast_nonneg _,?_⟩;conv=>whnf
 rw [mask_all (by omega)]
theorem op108:Opens PR 108:=⟨_,Tryd.func108,rfl,rfl⟩
theorem c140 (gl:Gl) (hs:List Sn) (a b:Nat) (ha:a < hs.length) (hb:b < hs.length) (hV:ValidH hs):PCalls PR gl 140 [.agg [snsV hs],vI a,vI b] fun r=>r=vB (pairH hs a b):=by
 have hka:=(hV.sn ha).1
 have hkb:=(hV.sn hb).1
 have hmul:IntKind.i64.wrap (hs[a].1 * hs[b].1)=hs[a].1 * hs[b].1:=by
  have h3:0≤hs[a].1 * hs[b].1:=Int.mul_nonneg hka.1 hkb.1
  have h4:hs[a].1 * hs[b].1≤2 * 2:=Int.mul_le_mul hka.2 hkb.2 hkb.1 (by omega)
  exact wrap_int (by omega) (by omega)
 have hpx:pairH hs a b=pairX hs[a] hs[b]:=by unfold pairH; rw [getD_at ha,getD_at hb]
 rw [hpx]
 refine fnW_sound (par_ok gl) Tryd.func140 ?_;conv=>whnf
 refine ⟨[0,1,2,3,4,5,6,7,8,9,10,11,12,13,14,15],[6,7,8,9,10,11,12,13,14],[14],[7],⟨4503599627370495,[],[]⟩,by decide +kernel,?_⟩;conv=>whnf
 refine ⟨_,getI_nat ha,?_⟩;conv=>whnf
 refine ⟨_,getI_nat hb,?_⟩;conv=>whnf
 apply bc9<;>intro g2_5
 ·have g5:(hs[a].1==hs[b].1)=true:=g2_5
  conv=>whnf
  apply bc9<;>intro g2_22
  ·have g22:decide (hs[a].2.1≤hs[b].2.2)=true:=g2_22
   conv=>whnf
   unfold pairX
   rw [g5,g22]
   rfl
  have g22:decide (hs[a].2.1≤hs[b].2.2)=false:=g2_22
  conv=>whnf
  unfold pairX
  rw [g5,g22]
  rfl
 have g5:(hs[a].1==hs[b].1)=false:=g2_5
 conv=>whnf
 apply bc9<;>intro g2_13
 ·have g13:(IntKind.i64.wrap (hs[a].1 * hs[b].1)==0)=true:=g2_13
  conv=>whnf
  apply bc9<;>intro g2_22
  ·have g22:decide (hs[a].2.1≤hs[b].2.2)=true:=g2_22
   conv=>whnf
   rw [hmul] at g13
   unfold pairX
   rw [g5,g13,g22]
   rfl
  have g22:decide (hs[a].2.1≤hs[b].2.2)=false:=g2_22
  conv=>whnf
  rw [hmul] at g13
  unfold pairX
  rw [g5,g13,g22]
  rfl
 have g13:(IntKind.i64.wrap (hs[a].1 * hs[b].1)==0)=false:=g2_13
 conv=>whnf
 rw [hmul] at g13
 unfold pairX
 rw [g5,g13]
 rfl
theorem op140:Opens PR 140:=⟨_,Tryd.func140,rfl,rfl⟩
theorem c111 (hs:List Sn) (hV:ValidH hs) (set:Nat) (hset:set < 2 ^ hs.length):PCalls PR glT 111 [.agg [snsV hs],vI set] fun r=>r=.tup [vI (clO (clR hs set)).1,vI (clO (clR hs set)).2.1,vB (clO (clR hs set)).2.2]:=by
 have h8:=hV.n8
 have h1:=hV.n1
 have hp:2 ^ hs.length≤256:=Nat.pow_le_pow_right (n:=2) (by omega) (show hs.length≤8 by omega)
 have hmem:=bits_mem (show hs.length≤60 by omega) hset
 have hbl:=bitsL_len set
 have hnl:(natsV (bitsL set)).length=(bitsL set).length:=by simp [natsV]
 refine fnW_sound (par_ok glT) Tryd.func111 ?_;conv=>whnf
 refine byC (c79 set (by omega)) op79 ?_;conv=>whnf
 refine loop_q fun Q1 hQ1=>?_
 refine ⟨⟨917888,[2],[]⟩,?_⟩
 refine LoopW_ind _ (fun i:Nat=>(({ tmps:=[J,J,J,J,J,J,J,.clo (.func 140) [.agg [snsV hs]] [],vL (natsV (bitsL set)),J,J,J,J,J,J,J,J,vL (natsV (bitsL set)),vI (natsV (bitsL set)).length,vI i,J,J,J,J,J,J,J,J,J,J,J,J,J,J,J,J,J,J,J,J,J,J],seg:=[],up:=[] }:St S))) (fun i:Nat=>(i≤(natsV (bitsL set)).length∧clL hs ((bitsL set).drop i)=clR hs set)) (fun i:Nat=>((natsV (bitsL set)).length - i)) () ?_ 0 ⟨Nat.zero_le _,rfl⟩
 intro i hinv Z1 hZ1
 obtain ⟨hi,hd⟩:=hinv
 conv=>whnf
 apply bc9<;>intro h4
 ·have hlt:i < (natsV (bitsL set)).length:=by have:=of_decide_eq_true h4; omega
  have hw:=wrap_nat (n:=i) (by omega)
  conv=>whnf
  have hlb:i < (bitsL set).length:=by simpa using hlt
  have hai:(bitsL set)[i] < hs.length:=hmem _ (List.getElem_mem hlb)
  have hdl:((bitsL set).drop (i+1)).length≤(bitsL set).length:=by simp
  refine ⟨_,getI_nat hlt,?_⟩;conv=>whnf
  rw [natsV_get hlt,hw]
  conv=>whnf
  refine ⟨Int.natCast_nonneg _,?_⟩;conv=>whnf
  refine ⟨hlt,Nat.le_refl _,?_⟩;conv=>whnf
  refine ⟨⟨940443008,[],[]⟩,?_⟩
  refine LoopW_ind _ (fun s9:List Int×Int×Nat=>match s9 with | (ys,m,k)=>(({ tmps:=[J,J,J,J,J,J,J,.clo (.func 140) [.agg [snsV hs]] [],vL (natsV (bitsL set)),J,vI (((bitsL set)[i]:Nat):Int),J,J,J,J,J,J,vL (natsV (bitsL set)),vI (natsV (bitsL set)).length,vI i,J,J,J,J,J,J,J,vL ys,vI m,vI k,J,J,J,J,J,J,J,J,J,J,J,J],seg:=[],up:=[] }:St S))) (fun s9:List Int×Int×Nat=>match s9 with | (ys,m,k)=>(ys=natsV ((bitsL set).drop (i+1))∧m=(((bitsL set).drop (i+1)).length:Int)∧k≤((bitsL set).drop (i+1)).length∧∀ j (hj:j < k) (h:j < ((bitsL set).drop (i+1)).length),pairH hs (bitsL set)[i] ((bitsL set).drop (i+1))[j]=true)) (fun s9:List Int×Int×Nat=>match s9 with | (ys,m,k)=>(((bitsL set).drop (i+1)).length - k)) () ?_ (_,_,0) ⟨by show List.drop (((i+1:Nat):Int)).toNat (List.take (natsV (bitsL set)).length (natsV (bitsL set)))=_; rw [List.take_length,Int.toNat_natCast]; simp [natsV,List.map_drop],by show ((List.drop (((i+1:Nat):Int)).toNat (List.take (natsV (bitsL set)).length (natsV (bitsL set)))).length:Int)=_; rw [List.take_length,Int.toNat_natCast]; simp,Nat.zero_le _,fun j h=>absurd h (Nat.not_lt_zero j)⟩
  rintro ⟨ys,m,k⟩ hinv Z2 hZ2
  dsimp only at hinv hZ2
  obtain ⟨rfl,rfl,hk,hy⟩:=hinv
  conv=>whnf
  apply bc9<;>intro h7
  ·have hltk:k < ((bitsL set).drop (i+1)).length:=by have:=of_decide_eq_true h7; omega
   have hwk:=wrap_nat (n:=k) (by omega)
   conv=>whnf
   have hkn:k < (natsV ((bitsL set).drop (i+1))).length:=by simpa using hltk
   refine ⟨_,getI_nat hkn,?_⟩;conv=>whnf
   rw [natsV_get hkn]
   conv=>whnf
   have hbk:((bitsL set).drop (i+1))[k] < hs.length:=hmem _ (List.mem_of_mem_drop (List.getElem_mem hltk))
   refine byC (c140 glT hs _ _ hai hbk hV) op140 ?_;conv=>whnf
   apply bc9<;>intro h9
   ·have h9:(!pairH hs (bitsL set)[i] ((bitsL set).drop (i+1))[k])=true:=h9
    have h9:pairH hs (bitsL set)[i] ((bitsL set).drop (i+1))[k]=false:=by simpa using h9
    have hcl:=clL_hit hlb hltk (fun j hj=>hy j hj (by omega)) h9
    rw [hd] at hcl
    conv=>whnf
    refine (hQ1 _ _ _).mpr ?_;conv=>whnf
    rw [hcl]
    rfl
   have h9:(!pairH hs (bitsL set)[i] ((bitsL set).drop (i+1))[k])=false:=h9
   have h9:pairH hs (bitsL set)[i] ((bitsL set).drop (i+1))[k]=true:=by simpa using h9
   conv=>whnf
   refine ⟨⟨940443008,[],[]⟩,?_⟩;conv=>whnf
   rw [hwk]
   exact hZ2 (_,_,k+1) ⟨rfl,rfl,hltk,fun j hj h=>by have hj:j < k+1:=hj; by_cases e:j=k; subst e; exact h9; exact hy j (by omega) h⟩ (by dsimp only; omega)
  have hgk:k=((bitsL set).drop (i+1)).length:=by have:=of_decide_eq_false h7; omega
  conv=>whnf
  refine ⟨⟨917888,[],[]⟩,?_⟩;conv=>whnf
  have hst:=clL_step hlb (fun j hj=>hy j (by omega) hj)
  rw [hd] at hst
  rw [hw]
  exact hZ1 (i+1) ⟨hlt,hst.symm⟩ (by omega)
 have hge:i=(natsV (bitsL set)).length:=by have:=of_decide_eq_false h4; omega
 conv=>whnf
 refine (hQ1 _ _ _).mpr ?_;conv=>whnf
 rw [hge] at hd
 have:(bitsL set).drop (natsV (bitsL set)).length=[]:=List.drop_eq_nil_of_le (by simp)
 rw [this] at hd
 rw [←hd]
 rfl
theorem op111:Opens PR 111:=⟨_,Tryd.func111,rfl,rfl⟩
theorem setsH_lt (hs:List Sn):∀ x∈setsH hs,x < 2 ^ hs.length:=fewH_lt hs _
theorem acc_all (hs:List Sn):accB hs (2 ^ hs.length - 1)=true:=by
 unfold accB clR
 have:less (2 ^ hs.length - 1) (2 ^ hs.length - 1)=0:=by unfold less; simp
 rw [this]; rfl
theorem onesN_all {n:Nat} (h:n≤8):onesN (2 ^ n - 1)=n:=by
 match n,h with
 | 0,_=>rfl
 | 1,_=>rfl
 | 2,_=>rfl
 | 3,_=>rfl
 | 4,_=>rfl
 | 5,_=>rfl
 | 6,_=>rfl
 | 7,_=>rfl
 | 8,_=>rfl
theorem fewH_one {hs:List Sn} {s:Nat}:∀ {n:Nat},s < n→accB hs s=true→onesN s≤hs.length→(fewH hs n).2≠[]
 | n + 1,h,ha,ho=>by
  have hgo:(fewH hs n).2≠[]→(fewH hs (n+1)).2≠[]:=fun h=>by
   simp only [fewH]
   split
   ·exact h
   split
   ·simp
   simp
  by_cases e:s=n
  ·subst e
   by_cases hq:onesN s > (fewH hs s).1
   ·
    apply hgo
    have:∀ m,(fewH hs m).1 < hs.length→(fewH hs m).2≠[]:=fun m=>by
     induction m with
     | zero=>intro h; exact absurd h (Nat.lt_irrefl _)
     | succ m ih =>
      intro h
      simp only [fewH] at h ⊢
      split at h
      ·rename_i h2; rw [if_pos h2]; exact ih h
      rename_i h2; rw [if_neg h2]
      split
      ·simp
      simp
    exact this s (by omega)
   simp only [fewH]
   rw [if_neg (by simp [hq,ha])]
   split <;> simp
  exact hgo (fewH_one (by omega) ha ho)
theorem setsH_ne {hs:List Sn} (h:hs.length≤8):0 < (setsH hs).length:=by
 have:=Nat.two_pow_pos hs.length
 exact List.length_pos_iff.2 (fewH_one (s:=2 ^ hs.length - 1) (by omega) (acc_all hs) (by rw [onesN_all h]; exact Nat.le_refl _))
theorem natsV_len (l:List Nat):(natsV l).length=l.length:=by simp [natsV]
theorem bl40 {x n:Nat} (hn:n≤8) (h:x < 2 ^ n):x < 1099511627776:=by
 have:2 ^ n≤2 ^ 8:=Nat.pow_le_pow_right (by omega) hn
 have:(2:Nat) ^ 8=256:=rfl
 omega
theorem lt63' {x n:Nat} (hn:n≤8) (h:x < 2 ^ n):x < 2 ^ 63:=by
 have:=bl40 hn h
 have:(2:Nat) ^ 63=9223372036854775808:=rfl
 omega
theorem ascAll_F {told:List Int} {i:Nat} (h:i < told.length) (ha:ascB told i=true):ascAll told=false:=all_no (p:=fun i=>!ascB told i) h (by rw [ha]; rfl)
theorem ascAll_T {told:List Int} (h:∀ j,j < told.length→ascB told j=false):ascAll told=true:=all_yes fun j hj=>by rw [h j hj]; rfl
theorem told_in {told:List Int} {n:Nat} (h:told.any (outB 0 ((n:Int) - 1))=false) {i:Nat} (hi:i < told.length):0≤told[i]∧told[i]≤(n:Int) - 1:=by
 have:=List.any_eq_false.1 h told[i] (List.getElem_mem hi)
 simp [outB] at this
 exact this
theorem c105 (a b:Nat) (ha:a < 1099511627776) (hb:b < 1099511627776):PCalls PR glT 105 [vI a,vI b] fun r=>r=vI (cmpS a b):=by
 have h1:=bitsL_len a
 have h2:=bitsL_len b
 refine fnW_sound (par_ok glT) Tryd.func105 ?_;conv=>whnf
 refine byC (c79 a ha) op79 ?_;conv=>whnf
 refine byC (c79 b hb) op79 ?_;conv=>whnf
 refine byC (c106 glT _ _ (by rw [natsV_len]; omega) (by rw [natsV_len]; omega)) op106 ?_;conv=>whnf
 rfl
theorem op105:Opens PR 105:=⟨_,Tryd.func105,rfl,rfl⟩
theorem c103 (l:List Nat) (hl:l.length≤1000) (hne:0 < l.length) (hb:∀ x∈l,x < 1099511627776):PCalls PR glT 103 [vL (natsV l),.clo (.func 105) [] []] fun r=>r=vI ((minU cmB l l.length:Nat):Int):=by
 have hnl:=natsV_len l
 refine fnW_sound (par_ok glT) Tryd.func103 ?_;conv=>whnf
 apply bc9<;>intro h1
 ·exfalso
  have:=of_decide_eq_true h1
  omega
 conv=>whnf
 have h0:0 < (natsV l).length:=by omega
 conv=>whnf
 refine ⟨_,getI_zero h0,?_⟩;conv=>whnf
 have e1:((minU cmB l 1:Nat):Int)=(natsV l)[0]:=by
  rw [natsV_get h0,show (1:Nat)=0+1 from rfl,minU_succ hne]
  unfold minU
  rw [List.take_zero,List.foldl_nil,List.headD_eq_head?_getD,List.head?_eq_getElem?,List.getElem?_eq_getElem hne]
  simp
 rw [←e1]
 refine ⟨⟨99,[],[]⟩,?_⟩
 refine LoopW_ind _ (fun i:Nat=>(({ tmps:=[vL (natsV l),.clo (.func 105) [] [],J,J,J,vI ((minU cmB l i:Nat):Int),vI i,J,J,J,J,J,J,J,J,J,J,J,J,J,J,J,J,J,J,J,J,J,J,J,J,J,J],seg:=[],up:=[] }:St S))) (fun i:Nat=>(i≤l.length∧1≤i)) (fun i:Nat=>(l.length - i)) () ?_ 1 ⟨hne,Nat.le_refl _⟩
 intro i hinv Z1 hZ1
 obtain ⟨hi,hi1⟩:=hinv
 conv=>whnf
 apply bc9<;>intro h5
 ·have hlt:i < l.length:=by have:=of_decide_eq_true h5; omega
  have hw:=wrap_nat (n:=i) (by omega)
  conv=>whnf
  have hin:i < (natsV l).length:=by omega
  refine ⟨_,getI_nat hin,?_⟩;conv=>whnf
  rw [natsV_get hin]
  conv=>whnf
  refine byC (c105 _ _ (hb _ (List.getElem_mem hlt)) (hb _ (minU_mem hne i hi))) op105 ?_;conv=>whnf
  apply bc9<;>intro h7
  ·have h7:cmB l[i] (minU cmB l i)=true:=h7
   conv=>whnf
   refine ⟨_,getI_nat hin,?_⟩;conv=>whnf
   refine ⟨⟨99,[],[]⟩,?_⟩;conv=>whnf
   rw [hw,natsV_get hin]
   have hz:=hZ1 (i+1) ⟨hlt,by omega⟩ (by omega)
   rw [minU_succ hlt,if_pos h7] at hz
   exact hz
  have h7:cmB l[i] (minU cmB l i)=false:=h7
  conv=>whnf
  refine ⟨⟨99,[],[]⟩,?_⟩;conv=>whnf
  rw [hw]
  have hz:=hZ1 (i+1) ⟨hlt,by omega⟩ (by omega)
  rw [minU_succ hlt,h7,if_neg (by simp)] at hz
  exact hz
 have hge:i=l.length:=by have:=of_decide_eq_false h5; omega
 conv=>whnf
 rw [hge]
theorem op103:Opens PR 103:=⟨_,Tryd.func103,rfl,rfl⟩
theorem c104 (hs:List Sn) (hV:ValidH hs):PCalls PR glT 104 [.agg [snsV hs]] fun r=>r=vL (natsV (setsH hs)):=by
 have h8:=hV.n8
 have h1:=hV.n1
 have hp:2 ^ hs.length≤256:=Nat.pow_le_pow_right (n:=2) (by omega) (show hs.length≤8 by omega)
 have hsh:shlI .i64 1 (hs.length:Int)=((2 ^ hs.length:Nat):Int):=shl_one (by omega)
 refine fnW_sound (parN_ok glT) Tryd.func104 ?_;conv=>whnf
 refine ⟨Int.natCast_nonneg _,?_⟩;conv=>whnf
 rw [hsh]
 refine ⟨⟨393230,[],[2]⟩,?_⟩
 refine LoopW_ind _ (fun i:Nat=>(({ tmps:=[J,.own 1 [],.sl (S:=S) U.int (natsV (fewH hs i).2) (some 2),vI (fewH hs i).1,J,J,J,J,J,J,J,J,J,J,J,J,J,vI ((2 ^ hs.length:Nat):Int),vI i,J,J,J,J,J,J,J,J,J,J,J,J,J,J,J,J,J,J,J,J,J,J,J,J,J,J,J,J,J],seg:=[(1,.cells [snsV hs]),(2,.row U.int false)],up:=[] }:St S))) (fun i:Nat=>(i≤2 ^ hs.length)) (fun i:Nat=>(2 ^ hs.length - i)) () ?_ 0 (Nat.zero_le _)
 intro i hi Z1 hZ1
 have hfl:=fewH_le hs i
 have hfn:=fewH_len hs i
 conv=>whnf
 apply bc9<;>intro h3
 ·have hlt:i < 2 ^ hs.length:=by have:=of_decide_eq_true h3; omega
  have hw:=wrap_nat (n:=i) (by omega)
  have hi256:i < 256:=by omega
  conv=>whnf
  rw [onesB hi256]
  conv=>whnf
  refine byC (c131 glT i hi256) op131 ?_;conv=>whnf
  apply bc9<;>intro h6
  ·have h6:onesN i > (fewH hs i).1:=by have:=of_decide_eq_true h6; omega
   have hs1:fewH hs (i+1)=fewH hs i:=by simp only [fewH]; rw [if_pos (by simp [h6])]
   conv=>whnf
   refine ⟨⟨393230,[44,45,900002],[]⟩,?_⟩;conv=>whnf
   rw [hw]
   have hz:=hZ1 (i+1) hlt (by omega)
   rw [hs1] at hz
   exact hz
  have h6:¬ onesN i > (fewH hs i).1:=by have:=of_decide_eq_false h6; omega
  conv=>whnf
  refine ⟨[0,1,3,2,4,5,6,7,8,9,10,11,12],[],[],[],⟨281474976710655,[],[]⟩,by decide +kernel,?_⟩;conv=>whnf
  refine byC (c108 glT hs h8) op108 ?_;conv=>whnf
  rw [andNot_nat (lt63' h8 (show 2 ^ hs.length - 1 < 2 ^ hs.length by omega)) (by have:(2:Nat) ^ 63=9223372036854775808:=rfl; omega)]
  conv=>whnf
  refine byC (c111 hs hV (less (2 ^ hs.length - 1) i) (less_lt' (by omega))) op111 ?_;conv=>whnf
  have hacc:accB hs i=(clR hs (less (2 ^ hs.length - 1) i)).isNone:=rfl
  apply bc9<;>intro h8
  ·have h8a:(clO (clR hs (less (2 ^ hs.length - 1) i))).2.2=true:=h8
   have ha:accB hs i=false:=by
    rw [hacc]
    cases hc:clR hs (less (2 ^ hs.length - 1) i) with
    | none=>rw [hc] at h8a; cases h8a
    | some p=>rfl
   have hs1:fewH hs (i+1)=fewH hs i:=by simp only [fewH]; rw [if_pos (by simp [ha])]
   conv=>whnf
   refine ⟨⟨393230,[44,45,900002],[]⟩,?_⟩;conv=>whnf
   rw [hw]
   have hz:=hZ1 (i+1) hlt (by omega)
   rw [hs1] at hz
   exact hz
  have h8a:(clO (clR hs (less (2 ^ hs.length - 1) i))).2.2=false:=h8
  have ha:accB hs i=true:=by
   rw [hacc]
   cases hc:clR hs (less (2 ^ hs.length - 1) i) with
   | none=>rfl
   | some p=>obtain ⟨a,b⟩:=p; rw [hc] at h8a; cases h8a
  conv=>whnf
  apply bc9<;>intro h9
  ·have h9:onesN i < (fewH hs i).1:=by have:=of_decide_eq_true h9; omega
   have hs1:fewH hs (i+1)=(onesN i,[i]):=by simp only [fewH]; rw [if_neg (by simp [h6,ha]),if_pos h9]
   conv=>whnf
   refine ⟨_,rfl,?_⟩;conv=>whnf
   refine ⟨lim (by simp [] <;> omega),?_⟩;conv=>whnf
   refine ⟨⟨393230,[44,45,900002],[2]⟩,?_⟩;conv=>whnf
   rw [hw]
   have hz:=hZ1 (i+1) hlt (by omega)
   rw [hs1] at hz
   exact hz
  have h9:¬ onesN i < (fewH hs i).1:=by have:=of_decide_eq_false h9; omega
  have hs1:fewH hs (i+1)=((fewH hs i).1,(fewH hs i).2++[i]):=by simp only [fewH]; rw [if_neg (by simp [h6,ha]),if_neg h9]
  conv=>whnf
  refine ⟨_,rfl,?_⟩;conv=>whnf
  refine ⟨lim (by simp [natsV] <;> omega),?_⟩;conv=>whnf
  refine ⟨⟨393230,[44,45,900002],[]⟩,?_⟩;conv=>whnf
  rw [hw]
  have hz:=hZ1 (i+1) hlt (by omega)
  rw [hs1] at hz
  have e:natsV ((fewH hs i).2++[i])=natsV (fewH hs i).2++[(i:Int)]:=by simp [natsV]
  rw [show natsV ((fewH hs i).1,(fewH hs i).2++[i]).2=natsV (fewH hs i).2++[(i:Int)] from e] at hz
  exact hz
 have hge:i=2 ^ hs.length:=by have:=of_decide_eq_false h3; omega
 conv=>whnf
 rw [hge]
theorem op104:Opens PR 104:=⟨_,Tryd.func104,rfl,rfl⟩
theorem c33 (hs:List Sn) (hl:hs.length≤9223372036854775807):PCalls PR glT 33 [.agg [snsV hs]] fun r=>r=.tup [vL (forV hs).1,vI (forV hs).2]:=by
 refine fnW_sound (par_ok glT) Tryd.func33 ?_;conv=>whnf
 refine byC (c102 glT hs hl) op102 ?_
 rcases hk:chHE hs with (_ | n) | n
 ·have hk:chHE hs=0:=hk
  have hV:=chH_valid.1 hk
  have hh8:=hV.n8
  have h8:=hV.n8
  have h1:=hV.n1
  have hp:2 ^ hs.length≤256:=Nat.pow_le_pow_right (n:=2) (by omega) (show hs.length≤8 by omega)
  conv=>whnf
  refine byC (c104 hs hV) op104 ?_;conv=>whnf
  have hsl:(setsH hs).length≤2 ^ hs.length:=fewH_len hs _
  have hsn:=setsH_ne h8
  refine byC (c103 (setsH hs) (by omega) hsn (fun x hx=>bl40 h8 (setsH_lt hs x hx))) op103 ?_;conv=>whnf
  refine byC (c79 (forN hs) (bl40 h8 (setsH_lt hs _ (minU_mem hsn _ (Nat.le_refl _))))) op79 ?_;conv=>whnf
  unfold forV
  rw [if_pos hk]
 ·have hne:¬ chHE hs=0:=by rw [hk]; intro e; cases e
  conv=>whnf
  unfold forV
  rw [if_neg hne,hk]
 have hne:¬ chHE hs=0:=by rw [hk]; intro e; cases e
 conv=>whnf
 unfold forV
 rw [if_neg hne,hk]
theorem op33:Opens PR 33:=⟨_,Tryd.func33,rfl,rfl⟩
theorem c35 (hs:List Sn) (hl:hs.length≤9223372036854775807):PCalls PR glT 35 [.agg [snsV hs]] fun r=>r=.tup [vL (sureV hs).1,vL (sureV hs).2.1,vI (sureV hs).2.2]:=by
 refine fnW_sound (par_ok glT) Tryd.func35 ?_;conv=>whnf
 refine byC (c102 glT hs hl) op102 ?_
 rcases hk:chHE hs with (_ | n) | n
 ·have hk:chHE hs=0:=hk
  have hV:=chH_valid.1 hk
  have hh8:=hV.n8
  have h8:=hV.n8
  have h1:=hV.n1
  have hp:2 ^ hs.length≤256:=Nat.pow_le_pow_right (n:=2) (by omega) (show hs.length≤8 by omega)
  conv=>whnf
  refine byC (c108 glT hs h8) op108 ?_;conv=>whnf
  refine byC (c104 hs hV) op104 ?_;conv=>whnf
  have hnl:=natsV_len (setsH hs)
  have hsl:(setsH hs).length≤2 ^ hs.length:=fewH_len hs _
  refine ⟨⟨14680256,[1,2,3,5,1005],[2,3,1005]⟩,?_⟩
  refine LoopW_ind _ (fun i:Nat=>(({ tmps:=[J,J,J,J,J,J,vI ((allU hs.length (setsH hs) i:Nat):Int),vI ((someU (setsH hs) i:Nat):Int),J,J,J,J,J,J,J,J,J,J,J,J,J,vL (natsV (setsH hs)),vI (natsV (setsH hs)).length,vI i,J,J,J,J,J,J,J,J,J,J,J,J,J,J],seg:=[],up:=[] }:St S))) (fun i:Nat=>(i≤(setsH hs).length)) (fun i:Nat=>((setsH hs).length - i)) () ?_ 0 (Nat.zero_le _)
  intro i hi Z1 hZ1
  conv=>whnf
  apply bc9<;>intro h6
  ·have hlt:i < (setsH hs).length:=by have:=of_decide_eq_true h6; omega
   have hw:=wrap_nat (n:=i) (by omega)
   conv=>whnf
   have hin:i < (natsV (setsH hs)).length:=by omega
   refine ⟨_,getI_nat hin,?_⟩;conv=>whnf
   refine ⟨⟨14680256,[],[]⟩,?_⟩;conv=>whnf
   have hx:=setsH_lt hs _ (List.getElem_mem hlt)
   rw [hw,natsV_get hin,and_nat (lt63' h8 (allU_lt _ i (by omega))) (lt63' h8 hx),or_nat (lt63' h8 (someU_lt (setsH_lt hs) i (by omega))) (lt63' h8 hx),←allU_succ hlt,←someU_succ hlt]
   exact hZ1 (i+1) hlt (by omega)
  have hge:i=(setsH hs).length:=by have:=of_decide_eq_false h6; omega
  conv=>whnf
  refine byC (c79 (allU hs.length (setsH hs) i) (bl40 h8 (allU_lt _ i hi))) op79 ?_;conv=>whnf
  refine byC (c79 (someU (setsH hs) i) (bl40 h8 (someU_lt (setsH_lt hs) i hi))) op79 ?_;conv=>whnf
  unfold sureV
  rw [if_pos hk,hge]
 ·have hne:¬ chHE hs=0:=by rw [hk]; intro e; cases e
  conv=>whnf
  unfold sureV
  rw [if_neg hne,hk]
 have hne:¬ chHE hs=0:=by rw [hk]; intro e; cases e
 conv=>whnf
 unfold sureV
 rw [if_neg hne,hk]
theorem op35:Opens PR 35:=⟨_,Tryd.func35,rfl,rfl⟩
theorem c113 (hs:List Sn) (told:List Int) (hl:hs.length≤9223372036854775807) (ht:told.length≤9223372036854775807):PCalls PR glT 113 [.agg [snsV hs],vL told] fun r=>r=.tup [.agg [snsV hs],vI (restV hs told).1,vI (restV hs told).2]:=by
 refine fnW_sound (par_ok glT) Tryd.func113 ?_;conv=>whnf
 refine byC (c102 glT hs hl) op102 ?_
 rcases hk:chHE hs with (_ | n) | n
 ·have hk:chHE hs=0:=hk
  have hV:=chH_valid.1 hk
  have hh8:=hV.n8
  have h8:=hV.n8
  have h1:=hV.n1
  have hp:2 ^ hs.length≤256:=Nat.pow_le_pow_right (n:=2) (by omega) (show hs.length≤8 by omega)
  conv=>whnf
  rw [show IntKind.i64.wrap ((hs.length:Int) - 1)=(hs.length:Int) - 1 from wrap_int (by omega) (by omega)]
  conv=>whnf
  refine byC (c62 glT told ht 0 _) op62 ?_;conv=>whnf
  apply bc9<;>intro h4
  ·have h4:told.any (outB 0 ((hs.length:Int) - 1))=true:=h4
   have hr:restE hs told=4:=by unfold restE; rw [if_pos hk,if_pos h4]
   conv=>whnf
   unfold restV
   rw [hr]
   rfl
  have h4:told.any (outB 0 ((hs.length:Int) - 1))=false:=h4
  conv=>whnf
  refine byC (c108 glT hs h8) op108 ?_;conv=>whnf
  refine ⟨⟨3758096434,[2,1004],[1004]⟩,?_⟩
  refine LoopW_ind _ (fun i:Nat=>(({ tmps:=[J,vL told,J,J,.own 4 [],vI ((restU hs.length told i:Nat):Int),J,J,J,J,J,J,J,J,J,J,J,J,J,J,J,J,J,J,J,J,J,J,J,vL told,vI told.length,vI i,J,J,J,J,J,J,J,J,J,J,J,J,J,J,J,J,J,J,J,J,J,J,J],seg:=[(4,.cells [snsV hs])],up:=[] }:St S))) (fun i:Nat=>(i≤told.length∧∀ j,j < i→ascB told j=false)) (fun i:Nat=>(told.length - i)) () ?_ 0 ⟨Nat.zero_le _,fun j h=>absurd h (Nat.not_lt_zero j)⟩
  intro i hinv Z1 hZ1
  obtain ⟨hi,hd⟩:=hinv
  conv=>whnf
  apply bc9<;>intro h8
  ·have hlt:i < told.length:=by have:=of_decide_eq_true h8; omega
   have hw:=wrap_nat (n:=i) (by omega)
   conv=>whnf
   have htd:=told_in h4 hlt
   obtain ⟨n,hn⟩:∃ n:Nat,told[i]=(n:Int):=⟨told[i].toNat,by omega⟩
   refine ⟨_,getI_nat hlt,?_⟩;conv=>whnf
   apply bc9<;>intro g10_2
   ·have hi0:i > 0:=by have:=of_decide_eq_true g10_2; omega
    have hw1:IntKind.i64.wrap ((i:Int) - 1)=((i - 1:Nat):Int):=by rw [wrap_int (by omega) (by omega)]; omega
    have hil:i - 1 < told.length:=by omega
    conv=>whnf
    rw [hw1]
    conv=>whnf
    refine ⟨_,getI_nat hil,?_⟩;conv=>whnf
    apply bc9<;>intro h10
    ·have h10:decide (told[i]≤told[i - 1])=true:=h10
     have hab:ascB told i=true:=by unfold ascB; rw [decide_eq_true hi0,getD_at hlt,getD_at hil,h10]; rfl
     have hr:restE hs told=2:=by unfold restE; rw [if_pos hk,h4,if_neg (by simp),ascAll_F hlt hab,if_neg (by simp)]
     conv=>whnf
     unfold restV
     rw [hr]
     rfl
    have h10:decide (told[i]≤told[i - 1])=false:=h10
    have hab:ascB told i=false:=by unfold ascB; rw [decide_eq_true hi0,getD_at hlt,getD_at hil,h10]; rfl
    conv=>whnf
    rw [hn]
    conv=>whnf
    refine ⟨Int.natCast_nonneg _,?_⟩;conv=>whnf
    refine ⟨⟨3758096434,[],[]⟩,?_⟩;conv=>whnf
    rw [hw,shl_one (by omega),andNot_nat (lt63' hh8 (restU_lt _ told i (by omega))) (Nat.pow_lt_pow_right (by omega) (by omega))]
    have hz:=hZ1 (i+1) ⟨hlt,up_succ hd hab⟩ (by omega)
    rw [restU_succ hlt,hn,Int.toNat_natCast] at hz
    exact hz
   have hi0:¬ i > 0:=by have:=of_decide_eq_false g10_2; omega
   have hab:ascB told i=false:=by unfold ascB; rw [decide_eq_false hi0]; rfl
   conv=>whnf
   rw [hn]
   conv=>whnf
   refine ⟨Int.natCast_nonneg _,?_⟩;conv=>whnf
   refine ⟨⟨3758096434,[],[]⟩,?_⟩;conv=>whnf
   rw [hw,shl_one (by omega),andNot_nat (lt63' hh8 (restU_lt _ told i (by omega))) (Nat.pow_lt_pow_right (by omega) (by omega))]
   have hz:=hZ1 (i+1) ⟨hlt,up_succ hd hab⟩ (by omega)
   rw [restU_succ hlt,hn,Int.toNat_natCast] at hz
   exact hz
  have hge:i=told.length:=by have:=of_decide_eq_false h8; omega
  conv=>whnf
  have hr:restE hs told=0:=by unfold restE; rw [if_pos hk,h4,if_neg (by simp),ascAll_T (by rw [←hge]; exact hd),if_pos rfl]
  unfold restV
  rw [if_pos hr,hge]
 ·have hne:¬ chHE hs=0:=by rw [hk]; intro e; cases e
  conv=>whnf
  unfold restV restE
  rw [if_neg hne,hk,if_neg (by intro e; cases e)]
 have hne:¬ chHE hs=0:=by rw [hk]; intro e; cases e
 conv=>whnf
 unfold restV restE
 rw [if_neg hne,hk,if_neg (by intro e; cases e)]
theorem op113:Opens PR 113:=⟨_,Tryd.func113,rfl,rfl⟩
theorem restE_valid {hs:List Sn} {told:List Int} (h:restE hs told=0):ValidH hs:=by
 unfold restE at h
 by_cases hk:chHE hs=0
 ·exact chH_valid.1 hk
 rw [if_neg hk] at h; exact absurd h hk
theorem restN_lt (hs:List Sn) (told:List Int):restN hs told < 2 ^ hs.length:=restU_lt _ _ _ (Nat.le_refl _)
theorem max_gt (a b:Int):max a b=if b > a then b else a:=by rw [Int.max_def]; split <;> split <;> omega
theorem min_lt (a b:Int):min a b=if b < a then b else a:=by rw [Int.min_def]; split <;> split <;> omega
abbrev spC (s:Int×Int):List (AV S):=[vI s.1,vI s.2]
theorem c39 (hs:List Sn) (told:List Int) (hl:hs.length≤9223372036854775807) (ht:told.length≤9223372036854775807):PCalls PR glT 39 [.agg [snsV hs],vL told] fun r=>r=.tup [vI (proV hs told).1,vI (proV hs told).2.1,vI (proV hs told).2.2]:=by
 refine fnW_sound (par_ok glT) Tryd.func39 ?_;conv=>whnf
 refine byC (c113 hs told hl ht) op113 ?_
 unfold restV
 rcases hk:restE hs told with (_ | n) | n
 ·have hk:restE hs told=0:=hk
  have hV:=restE_valid hk
  have h8:=hV.n8
  have h1:=hV.n1
  have hp:2 ^ hs.length≤256:=Nat.pow_le_pow_right (n:=2) (by omega) (show hs.length≤8 by omega)
  have hrl:=restN_lt hs told
  rw [if_pos (by rfl)]
  conv=>whnf
  refine byC (c111 hs hV (restN hs told) hrl) op111 ?_
  rcases hc:clR hs (restN hs told) with _ | ⟨a,b⟩
  ·conv=>whnf
   unfold proV
   rw [if_pos hk,hc]
  conv=>whnf
  unfold proV
  rw [if_pos hk,hc]
  rfl
 ·have hne:¬ restE hs told=0:=by rw [hk]; intro e; cases e
  rw [if_neg (by intro e; cases e)]
  conv=>whnf
  unfold proV
  rw [if_neg hne,hk]
 have hne:¬ restE hs told=0:=by rw [hk]; intro e; cases e
 rw [if_neg (by intro e; cases e)]
 conv=>whnf
 unfold proV
 rw [if_neg hne,hk]
theorem op39:Opens PR 39:=⟨_,Tryd.func39,rfl,rfl⟩
theorem c41 (hs:List Sn) (told:List Int) (hl:hs.length≤9223372036854775807) (ht:told.length≤9223372036854775807):PCalls PR glT 41 [.agg [snsV hs],vL told] fun r=>r=.tup [.agg [vI (talV hs told).1,vI (talV hs told).2.1],vI (talV hs told).2.2]:=by
 refine fnW_sound (par_ok glT) Tryd.func41 ?_;conv=>whnf
 refine byC (c113 hs told hl ht) op113 ?_
 unfold restV
 rcases hk:restE hs told with (_ | n) | n
 ·have hk:restE hs told=0:=hk
  have hV:=restE_valid hk
  have h8:=hV.n8
  have h1:=hV.n1
  have hp:2 ^ hs.length≤256:=Nat.pow_le_pow_right (n:=2) (by omega) (show hs.length≤8 by omega)
  have hrl:=restN_lt hs told
  rw [if_pos (by rfl)]
  conv=>whnf
  refine byC (c111 hs hV (restN hs told) hrl) op111 ?_
  rcases hc:clR hs (restN hs told) with _ | ⟨a,b⟩
  ·conv=>whnf
   apply bc9<;>intro h5
   ·have h5:restN hs told=0:=by have h5:(((restN hs told:Nat):Int)==0)=true:=h5; have:=eq_of_beq h5; omega
    conv=>whnf
    unfold talV
    rw [if_pos hk,hc,if_pos (by rw [h5]; rfl)]
   have h5:¬ restN hs told=0:=by have h5:(((restN hs told:Nat):Int)==0)=false:=h5; intro e; rw [e] at h5; cases h5
   conv=>whnf
   refine byC (c79 (restN hs told) (bl40 h8 hrl)) op79 ?_;conv=>whnf
   have hbl:=bitsL_len (restN hs told)
   have hnl:=natsV_len (bitsL (restN hs told))
   have hmem:=bits_mem (show hs.length≤60 by omega) hrl
   refine ⟨⟨3848290697236,[6,1006],[1006]⟩,?_⟩
   refine LoopW_ind _ (fun i:Nat=>(({ tmps:=[J,J,.own 2 [],J,.own 4 [],J,J,J,J,J,J,J,J,J,J,J,J,J,J,J,J,J,J,J,J,J,J,J,J,J,J,J,J,J,J,J,J,J,J,vL (natsV (bitsL (restN hs told))),vI (natsV (bitsL (restN hs told))).length,vI i,J,J,J,J,J,J,J,J,J,J,J,J,J,J,J,J,J,J,J,J,J,J,J,J,J,J],seg:=[(2,.cells [snsV hs]),(4,.cells [vI (talU hs (bitsL (restN hs told)) i).1,vI (talU hs (bitsL (restN hs told)) i).2])],up:=[] }:St S))) (fun i:Nat=>(i≤(bitsL (restN hs told)).length)) (fun i:Nat=>((bitsL (restN hs told)).length - i)) () ?_ 0 (Nat.zero_le _)
   intro i hi Z1 hZ1
   conv=>whnf
   apply bc9<;>intro h9
   ·have hlt:i < (bitsL (restN hs told)).length:=by have:=of_decide_eq_true h9; omega
    have hw:=wrap_nat (n:=i) (by omega)
    conv=>whnf
    have hin:i < (natsV (bitsL (restN hs told))).length:=by omega
    have hai:(bitsL (restN hs told))[i] < hs.length:=hmem _ (List.getElem_mem hlt)
    refine ⟨_,getI_nat hin,?_⟩;conv=>whnf
    refine ⟨[0,1,2,3,4,5,6,7,8,9,10,11,12,13,14,15,16,17,18,19,20,21],[],[],[],⟨295147905179352825855,[],[]⟩,by decide +kernel,?_⟩;conv=>whnf
    rw [natsV_get hin]
    conv=>whnf
    refine ⟨_,getI_nat hai,?_⟩;conv=>whnf
    refine ⟨_,getI_nat hai,?_⟩;conv=>whnf
    refine ⟨⟨3848290697236,[],[]⟩,?_⟩;conv=>whnf
    rw [hw]
    have hz:=hZ1 (i+1) hlt (by omega)
    rw [talU_succ hlt,getD_at hai,max_gt,min_lt] at hz
    exact hz
   have hge:i=(bitsL (restN hs told)).length:=by have:=of_decide_eq_false h9; omega
   conv=>whnf
   rw [hge]
   unfold talV
   rw [if_pos hk,hc,if_neg (by simpa using h5)]
  conv=>whnf
  unfold talV
  rw [if_pos hk,hc]
  rfl
 ·have hne:¬ restE hs told=0:=by rw [hk]; intro e; cases e
  rw [if_neg (by intro e; cases e)]
  conv=>whnf
  unfold talV
  rw [if_neg hne,hk]
 have hne:¬ restE hs told=0:=by rw [hk]; intro e; cases e
 rw [if_neg (by intro e; cases e)]
 conv=>whnf
 unfold talV
 rw [if_neg hne,hk]
theorem op41:Opens PR 41:=⟨_,Tryd.func41,rfl,rfl⟩
end Go.Ab.MkF
