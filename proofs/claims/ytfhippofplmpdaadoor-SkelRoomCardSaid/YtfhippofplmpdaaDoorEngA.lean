/-
  THE ENGINE, PART MA: a row that nobody else sees is written anew; whoever holds it reads so.
-/
import Derived.RangeFuncIn
import Derived.Orders
import Derived.Below
import Derived.Laws.Sem
import Derived.Laws.World
import Derived.OwnWalkIn
namespace Go.Ab
open Go
structure Sig where
 U:Type
 T:U→Type
inductive Stp where
 | off (k:Nat)
 | idx (i:Int) (es:Nat)
inductive AV (S:Sig):Type where
 | undef
 | skip
 | bool (b:Bool)
 | int (k:IntKind) (n:Int)
 | str (s:ByteArray)
 | nilp
 | ref (cs:List (AV S))
 | own (d:Nat) (p:List Stp)
 | up (d:Nat) (p:List Stp)
 | nils
 | sl (u:S.U) (xs:List (S.T u)) (o:Option Nat)
 | arr (u:S.U) (n:Nat) (xs:List (S.T u))
 | clo (fn:Fn) (first caps:List (AV S))
 | nilf
 | agg (cs:List (AV S))
 | tup (vs:List (AV S))
 | cb
 | mpv (d:Nat)
 | elp (u:S.U) (d i:Nat) (p:List Stp)
 | mpu (d:Nat)
 | lens (n:Nat)
 | mpf (ks vs:List (AV S))
 | nil0
class Cod (S:Sig) where
 ueq:DecidableEq S.U
 size:S.U→Nat
 enc:(u:S.U)→S.T u→List (AV S)
 dec:(u:S.U)→List (AV S)→Option (S.T u)
 data:S.U→Bool
 lim:S.U→Nat
instance {S:Sig} [Cod S]:DecidableEq S.U:=Cod.ueq
inductive AO (S:Sig):Type where
 | cells (cs:List (AV S))
 | frz (cs:List (AV S))
 | row (u:S.U) (fresh:Bool)
 | mp (kvs:List (AV S×AV S))
 | mpz (ks vs:List (AV S))
structure St (S:Sig) where
 tmps:List (AV S)
 seg:List (Nat×AO S)
 up:List (Nat×AO S)
inductive AExit where
 | normal
 | exit (id:Nat)
 | ret
inductive TK (S:Sig) where
 | bool
 | int (k:IntKind)
 | str
 | ptr
 | func
 | struct (fields:List (Nat×Nat×Nat))
 | array (u:S.U) (len:Nat)
 | slice (u:S.U) (bytes:Nat) (ez:List (AV S))
 | map
structure TyI (S:Sig) where
 size:Nat
 zero:List (AV S)
 kind:TK S
structure MapI (S:Sig) where
 keq:AV S→AV S→Option Bool
 elem:Nat
structure Par (S:Sig) (X:Type) where
 ti:List (Nat×TyI S)
 call:FuncId→List (AV S)→(AV S→Prop)→Prop
 loc:FuncId→Bool
 ucall:FuncId→List (AV S)→List (Nat×AO S)→X→(AV S→List (Nat×AO S)→X→Prop)→Prop
 cb:List (AV S)→X→(AV S→X→Prop)→Prop
 iter:FuncId→List (AV S)→List (List (AV S))→Prop
 eqt:TypeId→List (AV S)→List (AV S)→Option Bool
 mi:List (Nat×MapI S)
 ai:List (Nat×Nat)
 rs:Bool:=false
 ow:Bool:=false
 nk:Bool:=false
 nl:Bool:=false
 pk:FuncId→Bool:=fun _=>false
 lend:FuncId→Bool:=fun _=>false
 lcall:FuncId→List (AV S)→List (Nat×AO S)→(AV S→List (Nat×AO S)→Prop)→Prop:=fun _ _ _ _=>False
 rg:Array Oper→St S→X→(St S→X→Prop)→Prop:=fun _ _ _ _=>False
 nx:Bool:=false
 hd:Bool:=false
structure Hold (p:Prop):Prop where
 go:p
def haltK (b:Bool) (p:Prop):Prop:=match b with | true=>Hold p | false=>p
theorem haltK_go {b:Bool} {p:Prop} (h:haltK b p):p:=match b,h with | true,h=>h.go | false,h=>h
def LIM:Nat:=1099511627776
section
variable {S:Sig} [Cod S]
def bcase (b:Bool) (P Q:Prop):Prop:=match b with | true=>P | false=>Q
def nthK:List (AV S)→Nat→(AV S→Prop)→Prop
 | [],_,K=>K .undef
 | v :: _,0,K=>K v
 | _ :: l,n+1,K=>nthK l n K
def setK:List (AV S)→Nat→AV S→(List (AV S)→Prop)→Prop
 | [],_,_,K=>K []
 | _ :: l,0,v,K=>K (v :: l)
 | x :: l,n+1,v,K=>setK l n v fun l'=>K (x :: l')
def findK {α:Type}:List (Nat×α)→Nat→Prop→(α→Prop)→Prop
 | [],_,N,_=>N
 | (k,a) :: l,n,N,K=>match Nat.beq k n with | true=>K a | false=>findK l n N K
def putK {α:Type}:List (Nat×α)→Nat→α→(List (Nat×α)→Prop)→Prop
 | [],n,a,K=>K [(n,a)]
 | (k,b) :: l,n,a,K=>match Nat.beq k n with
  | true=>K ((k,a) :: l)
  | false=>match Nat.ble n k with
   | true=>K ((n,a) :: (k,b) :: l)
   | false=>putK l n a fun l'=>K ((k,b) :: l')
def mapK {α β:Type} (f:α→(β→Prop)→Prop):List α→(List β→Prop)→Prop
 | [],K=>K []
 | a :: l,K=>f a fun b=>mapK f l fun l'=>K (b :: l')
def appK {α:Type}:List α→List α→(List α→Prop)→Prop
 | [],m,K=>K m
 | a :: l,m,K=>appK l m fun l'=>K (a :: l')
def width:AV S→Nat
 | .arr u n _=>n * Cod.size u
 | _=>1
def getI {α:Type} (xs:List α):Int→Option α
 | .ofNat n=>xs[n]?
 | .negSucc _=>none
def setI {α:Type} (xs:List α) (i:Int) (a:α):List α:=xs.set i.toNat a
def optK {α:Type} (o:Option α) (K:α→Prop):Prop:=∃ a,o=some a∧K a
def splitK:Nat→List (AV S)→Nat→(List (AV S)→List (AV S)→Prop)→Prop
 | _,cs,0,K=>K [] cs
 | 0,_,_,_=>False
 | _+1,[],_,_=>False
 | f+1,c :: cs,n,K=>match Nat.ble (width c) n with | true=>splitK f cs (n - width c) fun a b=>K (c :: a) b | false=>False
def dropK (cs:List (AV S)) (n:Nat) (K:List (AV S)→Prop):Prop:=splitK 1000 cs n fun _ b=>K b
def takeK (cs:List (AV S)) (n:Nat) (K:List (AV S)→Prop):Prop:=splitK 1000 cs n fun a _=>K a
def readK:List (AV S)→List Stp→(List (AV S)→Prop)→Prop
 | cs,[],K=>K cs
 | cs,.off k :: p,K=>dropK cs k fun cs'=>readK cs' p K
 | cs,.idx i es :: p,K=>match cs with
  | .arr u _ xs :: _=>match Nat.beq es (Cod.size u) with
   | true=>optK (getI xs i) fun x=>readK (Cod.enc u x) p K
   | false=>False
  | _=>False
def overK (cs vs:List (AV S)) (K:List (AV S)→Prop):Prop:=dropK cs ((vs.map width).sum) fun rest=>appK vs rest K
def writeK:List (AV S)→List Stp→List (AV S)→(List (AV S)→Prop)→Prop
 | cs,[],vs,K=>overK cs vs K
 | cs,.off k :: p,vs,K=>splitK 1000 cs k fun a b=>writeK b p vs fun b'=>appK a b' K
 | cs,.idx i es :: p,vs,K=>match cs with
  | .arr u n xs :: rest=>match Nat.beq es (Cod.size u) with
   | true=>optK (getI xs i) fun x=>writeK (Cod.enc u x) p vs fun cs'=>optK (Cod.dec u cs') fun x'=>K (.arr u n (setI xs i x') :: rest)
   | false=>False
  | _=>False
def stepOff:Nat→List Stp→(List Stp→Prop)→Prop
 | k,[],K=>match Nat.beq k 0 with | true=>K [] | false=>K [.off k]
 | k,[.off j],K=>K [.off (j+k)]
 | k,s :: p,K=>stepOff k p fun p'=>K (s :: p')
def stepIdx (i:Int) (es:Nat) (p:List Stp) (K:List Stp→Prop):Prop:=appK p [.idx i es] K
def cellOk:AV S→Bool
 | .agg _ | .tup _ | .undef | .skip | .elp ..=>false
 | _=>true
def cellsK (v:AV S) (K:List (AV S)→Prop):Prop :=
 match v with
 | .agg cs=>match cs.all cellOk with | true=>K cs | false=>False
 | v=>match cellOk v with | true=>K [v] | false=>False
def capB:AV S→Bool
 | .sl _ _ (some _) | .agg _ | .tup _ | .undef | .skip | .nils | .arr .. | .mpv _ | .mpu _ | .elp ..=>false
 | _=>true
def capN:Nat→AV S→Bool
 | 0,v=>capB v
 | n+1,v=>match v with
  | .agg cs=>cs.all (capN n)
  | v=>capB v
def oneK (cs:List (AV S)) (K:AV S→Prop):Prop :=
 match cs with
 | c :: _=>match c with
  | .arr ..=>False
  | _=>K c
 | []=>False
def valK (t:TyI S) (cs:List (AV S)) (K:AV S→Prop):Prop :=
 match t.kind with
 | .struct _=>takeK cs t.size fun l=>K (.agg l)
 | .array _ _=>takeK cs t.size fun l=>K (.agg l)
 | _=>oneK cs K
def memb (l:List Nat) (d:Nat):Bool:=match l with | []=>false | a :: l=>match Nat.beq a d with | true=>true | false=>memb l d
def letK:Nat→List Nat→AV S→(AV S→Prop)→Prop
 | _,ds,.sl u xs (some d),K=>match memb ds d with | true=>K (.sl u xs none) | false=>K (.sl u xs (some d))
 | _,ds,.elp u d i p,K=>match memb ds d with | true=>K .undef | false=>K (.elp u d i p)
 | n+1,ds,.agg cs,K=>mapK (letK n ds) cs fun l=>K (.agg l)
 | n+1,ds,.tup cs,K=>mapK (letK n ds) cs fun l=>K (.tup l)
 | 0,_,.agg _,K=>K .undef
 | 0,_,.tup _,K=>K .undef
 | _,_,v,K=>K v
def letOK (ds:List Nat):Nat×AO S→(Nat×AO S→Prop)→Prop
 | (k,.cells cs),K=>mapK (letK 4 ds) cs fun l=>K (k,.cells l)
 | (k,.frz cs),K=>K (k,.frz cs)
 | (k,.row u f),K=>K (k,.row u f)
 | (k,.mp kvs),K=>K (k,.mp kvs)
 | (k,.mpz ks vs),K=>K (k,.mpz ks vs)
def letAllK (ds:List Nat) (st:St S) (K:St S→Prop):Prop :=
 mapK (letK 4 ds) st.tmps fun ts=>mapK (letOK ds) st.seg fun sg=>K { tmps:=ts,seg:=sg,up:=st.up }
def undK:Nat→List Nat→AV S→(AV S→Prop)→Prop
 | _,ds,.sl u xs (some d),K=>match memb ds d with | true=>K .undef | false=>K (.sl u xs (some d))
 | _,ds,.elp u d i p,K=>match memb ds d with | true=>K .undef | false=>K (.elp u d i p)
 | n+1,ds,.agg cs,K=>mapK (undK n ds) cs fun l=>K (.agg l)
 | n+1,ds,.tup cs,K=>mapK (undK n ds) cs fun l=>K (.tup l)
 | 0,_,.agg _,K=>K .undef
 | 0,_,.tup _,K=>K .undef
 | _,_,v,K=>K v
def undOK (ds:List Nat):Nat×AO S→(Nat×AO S→Prop)→Prop
 | (k,.cells cs),K=>mapK (undK 4 ds) cs fun l=>K (k,.cells l)
 | (k,.frz cs),K=>K (k,.frz cs)
 | (k,.row u f),K=>K (k,.row u f)
 | (k,.mp kvs),K=>K (k,.mp kvs)
 | (k,.mpz ks vs),K=>K (k,.mpz ks vs)
def undAllK (ds:List Nat) (st:St S) (K:St S→Prop):Prop :=
 mapK (undK 4 ds) st.tmps fun ts=>mapK (undOK ds) st.seg fun sg=>K { tmps:=ts,seg:=sg,up:=st.up }
def bareB:List (AV S)→Bool
 | []=>true
 | .arr .. :: _=>false
 | _ :: l=>bareB l
def outK:Nat→AV S→List (Nat×AO S)→(AV S→List (Nat×AO S)→Prop)→Prop
 | 0,_,_,_=>False
 | n+1,v,sg,K=>match v with
  | .own d p=>findK sg d False fun
   | .cells cs=>outLK n cs sg fun cs' sg'=>putK sg' d (.frz cs') fun sg''=>readK cs' p fun l=>K (.ref l) sg''
   | .frz cs=>readK cs p fun l=>K (.ref l) sg
   | _=>False
  | .sl u xs (some d)=>findK sg d False fun
   | .row u' _=>putK sg d (.row u' false) fun sg'=>K (.sl u xs none) sg'
   | _=>False
  | .agg cs=>outLK n cs sg fun l sg'=>K (.agg l) sg'
  | .tup cs=>outLK n cs sg fun l sg'=>K (.tup l) sg'
  | .clo fn f c=>outLK n f sg fun f' sg'=>outLK n c sg' fun c' sg''=>K (.clo fn f' c') sg''
  | .up _ _=>False
  | .undef=>False
  | .cb=>False
  | .mpv d=>findK sg d False fun
   | .mp kvs=>match bareB (kvs.map fun p=>p.1)&&bareB (kvs.map fun p=>p.2) with
    | true=>putK sg d (.mpz (kvs.map fun p=>p.1) (kvs.map fun p=>p.2)) fun sg'=>K (.mpf (kvs.map fun p=>p.1) (kvs.map fun p=>p.2)) sg'
    | false=>False
   | .mpz ks vs=>K (.mpf ks vs) sg
   | _=>False
  | .mpu _=>False
  | .elp ..=>False
  | v=>K v sg
where
 outLK:Nat→List (AV S)→List (Nat×AO S)→(List (AV S)→List (Nat×AO S)→Prop)→Prop
 | _,[],sg,K=>K [] sg
 | 0,_ :: _,_,_=>False
 | n+1,v :: l,sg,K=>outK n v sg fun v' sg'=>outLK n l sg' fun l' sg''=>K (v' :: l') sg''
def peekK:Nat→AV S→List (Nat×AO S)→(AV S→Prop)→Prop
 | 0,_,_,_=>False
 | n+1,v,sg,K=>match v with
  | .own d p=>findK sg d False fun
   | .cells cs=>peekLK n cs sg fun cs'=>readK cs' p fun l=>K (.ref l)
   | .frz cs=>readK cs p fun l=>K (.ref l)
   | _=>False
  | .sl u xs (some _)=>K (.sl u xs none)
  | .agg cs=>peekLK n cs sg fun l=>K (.agg l)
  | .tup cs=>peekLK n cs sg fun l=>K (.tup l)
  | .clo fn f c=>peekLK n f sg fun f'=>peekLK n c sg fun c'=>K (.clo fn f' c')
  | .up _ _=>False
  | .undef=>False
  | .cb=>False
  | .mpv d=>findK sg d False fun
   | .mp kvs=>match bareB (kvs.map fun p=>p.1)&&bareB (kvs.map fun p=>p.2) with
    | true=>K (.mpf (kvs.map fun p=>p.1) (kvs.map fun p=>p.2))
    | false=>False
   | .mpz ks vs=>K (.mpf ks vs)
   | _=>False
  | .mpu _=>False
  | .elp ..=>False
  | v=>K v
where
 peekLK:Nat→List (AV S)→List (Nat×AO S)→(List (AV S)→Prop)→Prop
 | _,[],_,K=>K []
 | 0,_ :: _,_,_=>False
 | n+1,v :: l,sg,K=>peekK n v sg fun v'=>peekLK n l sg fun l'=>K (v' :: l')
def plainB:Nat→AV S→Bool
 | 0,_=>false
 | n+1,v=>match v with
  | .bool _ | .int _ _ | .str _=>true
  | .agg cs=>cs.all (plainB n)
  | .tup cs=>cs.all (plainB n)
  | _=>false
def keepR (r:AV S):Bool:=match r with
 | .sl _ _ o=>match o with
  | some _=>true
  | none=>false
 | r=>plainB 5 r
variable {X:Type} (P:Par S X)
def tyK (t:Nat) (K:TyI S→Prop):Prop:=findK P.ti t False K
def constK (v:Value) (K:AV S→Prop):Prop :=
 match v with
 | .bool b=>K (.bool b)
 | .int k n=>K (.int k n)
 | .string s=>K (.str s)
 | .pointer none=>K .nilp
 | .slice none 0 0=>K .nils
 | .nilFunc=>K .nilf
 | _=>False
def evK (tmps:List (AV S)) (x:Operand) (K:AV S→Prop):Prop :=
 match x with
 | .tmp t=>nthK tmps t K
 | .const v=>constK v K
 | .func f=>K (.clo (.func f) [] [])
 | .global _=>False
def evLK (tmps:List (AV S)) (l:List Operand) (K:List (AV S)→Prop):Prop:=mapK (evK tmps) l K
def evPK (tmps:List (AV S)):List (Nat×Operand)→(List (Nat×AV S)→Prop)→Prop
 | [],K=>K []
 | (i,x) :: ps,K=>evK tmps x fun v=>evPK tmps ps fun l=>K ((i,v) :: l)
def kindK {α:Type} (k k':IntKind) (a:α) (K:α→Prop):Prop:=match decide (k=k') with | true=>K a | false=>False
def bitsI (op:BinOp) (k:IntKind) (x y:Int):Int :=
 let a:=BitVec.ofInt k.bits x
 let b:=BitVec.ofInt k.bits y
 match op with
 | .and=>k.wrap (a &&& b).toNat
 | .or=>k.wrap (a ||| b).toNat
 | .xor=>k.wrap (a ^^^ b).toNat
 | _=>k.wrap (a &&& ~~~b).toNat
def shlI (k:IntKind) (x y:Int):Int:=k.wrap (x * 2 ^ (min y.toNat k.bits))
def shrI (k:IntKind) (x y:Int):Int:=x.fdiv (2 ^ (min y.toNat k.bits))
def strEq (x y:ByteArray):Bool:=x.toList==y.toList
def intBinK (op:BinOp) (k:IntKind) (a b:Int) (K:AV S→Prop):Prop :=
 match op with
 | .add=>K (.int k (k.wrap (a+b)))
 | .sub=>K (.int k (k.wrap (a - b)))
 | .mul=>K (.int k (k.wrap (a * b)))
 | .quo=>b≠0∧K (.int k (k.wrap (a.tdiv b)))
 | .rem=>b≠0∧K (.int k (a.tmod b))
 | .and=>K (.int k (bitsI .and k a b))
 | .or=>K (.int k (bitsI .or k a b))
 | .xor=>K (.int k (bitsI .xor k a b))
 | .andNot=>K (.int k (bitsI .andNot k a b))
 | .eql=>K (.bool (a==b))
 | .neq=>K (.bool (a != b))
 | .lss=>K (.bool (decide (a < b)))
 | .leq=>K (.bool (decide (a≤b)))
 | .gtr=>K (.bool (decide (a > b)))
 | .geq=>K (.bool (decide (a≥b)))
 | .shl | .shr=>False
def binK (op:BinOp) (x y:AV S) (K:AV S→Prop):Prop :=
 match x,y with
 | .int k a,.int k' b=>match op with
  | .shl=>0≤b∧K (.int k (shlI k a b))
  | .shr=>0≤b∧K (.int k (shrI k a b))
  | op=>match decide (k=k') with | true=>intBinK op k a b K | false=>False
 | .str a,.str b=>match op with
  | .eql=>K (.bool (strEq a b))
  | .neq=>K (.bool (!strEq a b))
  | .add=>a.size+b.size≤9223372036854775807∧K (.str (a++b))
  | _=>False
 | _,_=>False
def castL (u v:S.U) (xs:List (S.T u)) (K:List (S.T v)→Prop):Prop :=
 match Cod.ueq u v with
 | .isTrue h=>K (h ▸ xs)
 | .isFalse _=>False
def binTK (op:BinOp) (t:TypeId) (x y:AV S) (K:AV S→Prop):Prop :=
 match x with
 | .agg xs=>match y with
  | .agg ys=>match op with
   | .eql=>optK (P.eqt t xs ys) fun b=>K (.bool b)
   | .neq=>optK (P.eqt t xs ys) fun b=>K (.bool (!b))
   | _=>False
  | _=>False
 | .bool a=>match y with
  | .bool b=>tyK P t fun ty=>match ty.kind with
   | .bool=>match op with
    | .eql=>K (.bool (a==b))
    | .neq=>K (.bool (a != b))
    | _=>False
   | _=>False
  | _=>False
 | x=>binK op x y K
def nilOpB (b:Operand):Bool:=match b with
 | .const v=>match v with
  | .slice none 0 0=>true
  | _=>false
 | _=>false
def nilBinK (op:BinOp) (t:TypeId) (x:AV S) (K:AV S→Prop):Prop :=
 match x with
 | .sl _ xs _=>tyK P t fun ty=>match ty.kind with
  | .slice _ _ _=>match op with
   | .eql=>xs≠[]∧K (.bool false)
   | .neq=>xs≠[]∧K (.bool true)
   | _=>False
  | _=>False
 | .nil0=>tyK P t fun ty=>match ty.kind with
  | .slice _ _ _=>match op with
   | .eql=>K (.bool true)
   | .neq=>K (.bool false)
   | _=>False
  | _=>False
 | _=>False
def nilxK (b:Bool) (A B:Prop):Prop:=match b with
 | true=>∃ c:Bool,match c with
  | true=>A
  | false=>B
 | false=>B
theorem nilx_right {b:Bool} {A B:Prop} (h:B):nilxK b A B:=by
 cases b with
 | true=>exact ⟨false,h⟩
 | false=>exact h
theorem nilx_elim {b:Bool} {A B:Prop} (h:nilxK b A B):(b=true∧A)∨B:=by
 cases b with
 | true =>
  obtain ⟨c,h⟩:=h
  cases c with
  | true=>exact .inl ⟨rfl,h⟩
  | false=>exact .inr h
 | false=>exact .inr h
def unK (op:UnOp) (x:AV S) (K:AV S→Prop):Prop :=
 match op,x with
 | .not,.bool b=>K (.bool (!b))
 | .neg,.int k n=>K (.int k (k.wrap (0 - n)))
 | _,_=>False
def tokK:Nat→List (AV S)→List (AV S)→List (Nat×AO S)→(List (AV S)→List (Nat×AO S)→Prop)→Prop
 | id, z :: zs,c :: cs,sg,K=>match c with
  | .nils=>match z with
   | .sl u _ _=>findK sg id (putK sg id (.row u true) fun sg'=>tokK (id+1000) zs cs sg' fun l sg''=>K (.sl u [] (some id) :: l) sg'')
     fun _=>tokK (id+1000) zs cs sg fun l sg''=>K (.sl u [] none :: l) sg''
   | _=>False
  | c=>tokK (id+1000) zs cs sg fun l sg'=>K (c :: l) sg'
 | _,_,cs,sg,K=>K cs sg
def nilsK:AV S→(AV S→Prop)→Prop
 | .sl _ _ _,K=>K .nils
 | v,K=>K v
def plainK (t:Nat) (v:AV S) (K:AV S→Prop):Prop :=
 match v with
 | .nils=>tyK P t fun ty=>match ty.kind with | .slice u _ _=>K (.sl u [] none) | _=>False
 | .nil0=>tyK P t fun ty=>match ty.kind with | .slice u _ _=>K (.sl u [] none) | _=>False
 | v=>K v
def plainLK:List Nat→List (AV S)→(List (AV S)→Prop)→Prop
 | t :: ts,v :: vs,K=>plainK P t v fun v'=>plainLK ts vs fun l=>K (v' :: l)
 | _,vs,K=>K vs
def partsK:List (Nat×AV S)→List (Nat×Nat×Nat)→List (AV S)→(List (AV S)→Prop)→Prop
 | [],_,cs,K=>K cs
 | (i,v) :: ps,fs,cs,K=>match fs[i]? with
  | some (off,_,sz)=>cellsK v fun vs=>match Nat.beq ((vs.map width).sum) sz with
   | true=>splitK 1000 cs off fun a b=>overK b vs fun b'=>appK a b' fun cs'=>partsK ps fs cs' K
   | false=>False
  | none=>False
def partsArrK (u:S.U) (n:Nat):List (Nat×AV S)→List (S.T u)→(List (S.T u)→Prop)→Prop
 | [],xs,K=>K xs
 | (i,v) :: ps,xs,K=>match Nat.blt i n with
  | true=>cellsK v fun vs=>optK (Cod.dec u vs) fun x=>partsArrK u n ps (xs.set i x) K
  | false=>False
def zeroB:Nat→Bool
 | 0=>true
 | _=>false
def seqB:Nat→List (Nat×Operand)→Bool
 | _,[]=>true
 | n,(i,_) :: ps=>match Nat.beq i n with
  | true=>seqB (n+1) ps
  | false=>false
def elemsK (u:S.U):List (AV S)→(List (S.T u)→Prop)→Prop
 | [],K=>K []
 | v :: ps,K=>match v with
  | .arr ..=>False
  | v=>cellsK v fun vs=>optK (Cod.dec u vs) fun x=>elemsK u ps fun l=>K (x :: l)
def pubK (o:Option Nat) (sg:List (Nat×AO S)) (K:List (Nat×AO S)→Prop):Prop :=
 match o with
 | none=>K sg
 | some d=>findK sg d False fun
  | .row u _=>putK sg d (.row u false) K
  | _=>False
def sliceO (b:Bool) (u:S.U) (xs:List (S.T u)) (o:Option Nat) (l h:Nat) (st:St S) (K:AV S→St S→Prop):Prop :=
 match b with
 | true=>match o with
  | some e=>findK st.seg e False fun
   | .row v f=>match f with
    | true=>match Cod.ueq v u with
     | .isTrue _=>l=0∧undAllK [e] st fun st'=>putK st'.seg e (.row u true) fun sg=>K (.sl u (xs.take h) (some e)) { st' with seg:=sg }
     | .isFalse _=>False
    | false=>pubK (some e) st.seg fun sg=>K (.sl u ((xs.take h).drop l) none) { st with seg:=sg }
   | _=>False
  | none=>K (.sl u ((xs.take h).drop l) none) st
 | false=>pubK o st.seg fun sg=>K (.sl u ((xs.take h).drop l) none) { st with seg:=sg }
def ovl {α:Type} (ys zs:List α):List α:=(ys.take zs.length)++zs.drop ys.length
def repK (u:S.U) (d:Nat) (f:List (S.T u)→List (S.T u)):Nat→AV S→(AV S→Prop)→Prop
 | _,.sl v xs (some e),K=>match Nat.beq d e with | true=>castL v u xs fun xs=>K (.sl u (f xs) (some d)) | false=>K (.sl v xs (some e))
 | n+1,.agg cs,K=>mapK (repK u d f n) cs fun l=>K (.agg l)
 | n+1,.tup cs,K=>mapK (repK u d f n) cs fun l=>K (.tup l)
 | 0,.agg _,_=>False
 | 0,.tup _,_=>False
 | _,v,K=>K v
def repOK (u:S.U) (d:Nat) (f:List (S.T u)→List (S.T u)):Nat×AO S→(Nat×AO S→Prop)→Prop
 | (k,.cells cs),K=>mapK (repK u d f 4) cs fun l=>K (k,.cells l)
 | (k,.frz cs),K=>K (k,.frz cs)
 | (k,.row v g),K=>K (k,.row v g)
 | (k,.mp kvs),K=>K (k,.mp kvs)
 | (k,.mpz ks vs),K=>K (k,.mpz ks vs)
def repAllK (u:S.U) (d:Nat) (f:List (S.T u)→List (S.T u)) (st:St S) (K:St S→Prop):Prop :=
 mapK (repK u d f 4) st.tmps fun ts=>mapK (repOK u d f) st.seg fun sg=>K { tmps:=ts,seg:=sg,up:=st.up }
def holdK (u:S.U) (d:Nat):List (AV S)→(List (S.T u)→Prop)→Prop
 | [],_=>False
 | v :: l,K=>match v with
  | .sl w xs (some e)=>match Nat.beq d e with | true=>castL w u xs K | false=>holdK u d l K
  | _=>holdK u d l K
def boundK (v:Option (AV S)) (dflt:Nat) (K:Nat→Prop):Prop :=
 match v with
 | none=>K dflt
 | some (.int _ i)=>0≤i∧K i.toNat
 | _=>False
def optOp (x:Option Operand) (tmps:List (AV S)) (K:Option (AV S)→Prop):Prop :=
 match x with
 | none=>K none
 | some x=>evK tmps x fun v=>K (some v)
def moreK (u:S.U) (y:AV S) (K:List (S.T u)→Prop):Prop :=
 match y with
 | .sl v ys _=>castL v u ys K
 | .nils=>K []
 | _=>False
def appendK (d:Nat) (u:S.U) (s y:AV S) (st:St S) (K:AV S→St S→Prop):Prop :=
 match s with
 | .nils=>moreK u y fun ys=>ys.length≤Cod.lim u∧∃ f:Bool,findK st.seg d (putK st.seg d (.row u f) fun sg=>K (.sl u ys (some d)) { st with seg:=sg }) fun _=>False
 | .sl v xs (some e)=>castL v u xs fun xs=>moreK u y fun ys=>xs.length+ys.length≤Cod.lim u ∧
   findK st.seg e False fun
    | .row u' f=>match Cod.ueq u' u with
     | .isTrue _=>match f with
      | true=>match xs with
       | []=>letAllK [e] st fun st'=>putK st'.seg e (.row u true) fun sg=>K (.sl u ys (some e)) { st' with seg:=sg }
       | x :: xs=>putK st.seg e (.row u false) fun sg0=>letAllK [e] { st with seg:=sg0 } fun st'=>putK st'.seg e (.row u false) fun sg=>K (.sl u (x :: xs++ys) (some e)) { st' with seg:=sg }
      | false=>letAllK [e] st fun st'=>putK st'.seg e (.row u false) fun sg=>K (.sl u (xs++ys) (some e)) { st' with seg:=sg }
     | .isFalse _=>False
    | _=>False
 | _=>False
def appendO (d:Nat) (u:S.U) (s y:AV S) (st:St S) (K:AV S→St S→Prop):Prop :=
 match s with
 | .sl v xs o=>match o with
  | some e=>castL v u xs fun xs=>moreK u y fun ys=>xs.length+ys.length≤Cod.lim u ∧
   findK st.seg e False fun
    | .row u' f=>match Cod.ueq u' u with
     | .isTrue _=>match f with
      | true=>undAllK [e] st fun st'=>putK st'.seg e (.row u true) fun sg=>K (.sl u (xs++ys) (some e)) { st' with seg:=sg }
      | false=>letAllK [e] st fun st'=>putK st'.seg e (.row u false) fun sg=>K (.sl u (xs++ys) (some e)) { st' with seg:=sg }
     | .isFalse _=>False
    | _=>False
  | none=>False
 | s=>appendK d u s y st K
def loadK (ty:TyI S) (p:AV S) (st:St S) (K:AV S→Prop):Prop :=
 match p with
 | .ref cs=>valK ty cs K
 | .own d q=>findK st.seg d False fun
  | .cells cs=>readK cs q fun l=>valK ty l K
  | .frz cs=>readK cs q fun l=>valK ty l K
  | _=>False
 | .up d q=>findK st.up d False fun
  | .cells cs=>readK cs q fun l=>valK ty l K
  | .frz cs=>readK cs q fun l=>valK ty l K
  | _=>False
 | _=>False
def loadE (ty:TyI S) (p:AV S) (st:St S) (K:AV S→Prop):Prop :=
 match p with
 | .elp u d i q=>holdK u d st.tmps fun xs=>optK (getI xs (i:Int)) fun e=>readK (Cod.enc u e) q fun l=>valK ty l K
 | p=>loadK ty p st K
def pureB:Nat→AV S→Bool
 | 0,_=>false
 | n+1,v=>match v with
  | .undef | .skip | .own .. | .up .. | .nils | .cb | .mpv _ | .mpu _ | .elp ..=>false
  | .sl _ _ (some _)=>false
  | .agg cs=>cs.all (pureB n)
  | .tup cs=>cs.all (pureB n)
  | .clo _ f c=>f.all (pureB n)&&c.all (pureB n)
  | _=>true
def storeK (ty:TyI S) (p v:AV S) (st:St S) (K:St S→Prop):Prop :=
 cellsK v fun vs=>match Nat.beq ((vs.map width).sum) ty.size with
 | false=>False
 | true => match p with
  | .own d q=>findK st.seg d False fun
   | .cells cs =>
    let go (id:Nat):Prop:=tokK id ty.zero vs st.seg fun vs' sg=>writeK cs q vs' fun cs'=>putK sg d (.cells cs') fun sg'=>K { st with seg:=sg' }
    match q with
    | []=>go (d+901000)
    | [.off k]=>findK st.seg (d+1000 * (k+1)) (go (d+1000 * (k+1))) fun _=>go (d+1000 * (k+1)+900000)
    | q=>writeK cs q vs fun cs'=>putK st.seg d (.cells cs') fun sg'=>K { st with seg:=sg' }
   | _=>False
  | .up d q=>match vs.all (pureB 5) with
   | true=>findK st.up d False fun
    | .cells cs=>writeK cs q vs fun cs'=>putK st.up d (.cells cs') fun sg'=>K { st with up:=sg' }
    | _=>False
   | false=>False
  | .elp u e i q=>outK.outLK 60 vs st.seg fun vs sg=>findK sg e False fun
   | .row u' f=>match f with
    | true=>match Cod.ueq u' u with
     | .isTrue _=>match vs.all (pureB 5) with
      | true=>match q with
       | []=>match Nat.beq ((vs.map width).sum) (Cod.size u) with
        | true=>optK (Cod.dec u vs) fun y=>repAllK u e (fun zs=>zs.set i y) { st with seg:=sg } K
        | false=>holdK u e st.tmps fun xs=>optK (getI xs (i:Int)) fun y0=>writeK (Cod.enc u y0) [] vs fun cs'=>optK (Cod.dec u cs') fun y=>repAllK u e (fun zs=>zs.set i y) { st with seg:=sg } K
       | s :: q=>holdK u e st.tmps fun xs=>optK (getI xs (i:Int)) fun y0=>writeK (Cod.enc u y0) (s :: q) vs fun cs'=>optK (Cod.dec u cs') fun y=>repAllK u e (fun zs=>zs.set i y) { st with seg:=sg } K
      | false=>False
     | .isFalse _=>False
    | false=>False
   | _=>False
  | _=>False
def minK (mx:Bool):AV S→List (AV S)→(AV S→Prop)→Prop
 | .int k a,[],K=>K (.int k a)
 | .int k a,.int k' b :: l,K=>match decide (k=k') with
  | true=>match mx with
   | true=>minK mx (.int k (if b > a then b else a)) l K
   | false=>minK mx (.int k (if b < a then b else a)) l K
  | false=>False
 | _,_,_=>False
def builtinK (d:Nat) (b:Builtin) (argTypes:List Nat) (args:List (AV S)) (st:St S) (K:AV S→St S→Prop):Prop :=
 match b,argTypes,args with
 | .len,t :: _,[v]=>tyK P t fun ty=>match ty.kind with
  | .str=>match v with
   | .str s=>K (.int .i64 s.size) st
   | _=>False
  | .slice _ _ _=>match v with
   | .sl _ xs _=>K (.int .i64 xs.length) st
   | .nils=>K (.int .i64 0) st
   | .lens n=>K (.int .i64 n) st
   | _=>False
  | _=>False
 | .append,t :: t' :: _,[s,y]=>tyK P t fun ty=>tyK P t' fun ty'=>match ty.kind,ty'.kind with | .slice u _ _,.slice _ _ _=>(match P.ow with | true=>appendO d u s y st K | false=>appendK d u s y st K) | _,_=>False
 | .copy,t :: _,[s,y]=>tyK P t fun ty=>match ty.kind with
  | .slice u _ _=>match s with
   | .sl v xs (some e)=>castL v u xs fun xs=>moreK u y fun ys=>findK st.seg e False fun
    | .row u' f=>match f with
     | true=>match Cod.ueq u' u with
      | .isTrue _=>repAllK u e (ovl ys) st fun st'=>K (.int .i64 (min xs.length ys.length:Nat)) st'
      | .isFalse _=>False
     | false=>False
    | _=>False
   | _=>False
  | _=>False
 | .min,_,v :: l=>minK false v l fun r=>K r st
 | .max,_,v :: l=>minK true v l fun r=>K r st
 | _,_,_=>False
def liftB:Nat→AV S→Bool
 | 0,_=>false
 | n+1,v=>match v with
  | .up _ _ | .undef | .mpu _ | .elp ..=>false
  | .sl _ _ (some _)=>false
  | .agg cs=>cs.all (liftB n)
  | .tup cs=>cs.all (liftB n)
  | .clo _ f c=>f.all (liftB n)&&c.all (liftB n)
  | _=>true
def liftV:Nat→AV S→AV S
 | 0,v=>v
 | n+1,v=>match v with
  | .own d p=>.up d p
  | .mpv d=>.mpu d
  | .agg cs=>.agg (cs.map (liftV n))
  | .tup cs=>.tup (cs.map (liftV n))
  | .clo fn f c=>.clo fn (f.map (liftV n)) (c.map (liftV n))
  | v=>v
def lowB:Nat→AV S→Bool
 | 0,_=>false
 | n+1,v=>match v with
  | .own _ _ | .undef | .mpv _ | .elp ..=>false
  | .sl _ _ (some _)=>false
  | .agg cs=>cs.all (lowB n)
  | .tup cs=>cs.all (lowB n)
  | .clo _ f c=>f.all (lowB n)&&c.all (lowB n)
  | _=>true
def lowV:Nat→AV S→AV S
 | 0,v=>v
 | n+1,v=>match v with
  | .up d p=>.own d p
  | .mpu d=>.mpv d
  | .agg cs=>.agg (cs.map (lowV n))
  | .tup cs=>.tup (cs.map (lowV n))
  | .clo fn f c=>.clo fn (f.map (lowV n)) (c.map (lowV n))
  | v=>v
def argB:Nat→AV S→Bool
 | 0,_=>false
 | n+1,v=>match v with
  | .own _ _ | .undef | .mpv _ | .elp ..=>false
  | .sl _ _ (some _)=>false
  | .agg cs=>cs.all (argB n)
  | .tup cs=>cs.all (argB n)
  | .clo _ f c=>f.all (argB n)&&c.all (argB n)
  | _=>true
def liftO:AO S→AO S
 | .cells cs=>match cs.all (liftB 6) with
  | true=>.cells (cs.map (liftV 6))
  | false=>.frz []
 | a=>a
def liftSeg:List (Nat×AO S)→List (Nat×AO S)
 | []=>[]
 | (d,a) :: l=>(d,liftO a) :: liftSeg l
def hasK:List (Nat×AO S)→Nat→Bool
 | [],_=>false
 | (k,_) :: l,d=>match Nat.beq k d with
  | true=>true
  | false=>hasK l d
def backK:List (Nat×AO S)→List (Nat×AO S)→(List (Nat×AO S)→Prop)→Prop
 | [],sg,K=>K sg
 | (d,a) :: l,sg,K=>match a with
  | .cells cs=>match cs.all (lowB 6) with
   | true=>backK l sg fun sg'=>putK sg' d (.cells (cs.map (lowV 6))) K
   | false=>False
  | .mp kvs=>backK l sg fun sg'=>putK sg' d (.mp kvs) K
  | _=>match hasK l d with
   | true=>False
   | false=>backK l sg K
def upB:List (Nat×AO S)→List (Nat×AO S)→Bool
 | [],[]=>true
 | (d,a) :: l,(d',a') :: l'=>match a,a' with
  | .cells _,.cells cs=>Nat.beq d d'&&cs.all (argB 6)&&upB l l'
  | .frz _,.frz _=>Nat.beq d d'&&upB l l'
  | .row _ _,.row _ _=>Nat.beq d d'&&upB l l'
  | .mp _,.mp _=>Nat.beq d d'&&upB l l'
  | .mpz _ _,.mpz _ _=>Nat.beq d d'&&upB l l'
  | _,_=>false
 | _,_=>false
def lookM (keq:AV S→AV S→Option Bool) (k:AV S):List (AV S×AV S)→Option (Option (AV S))
 | []=>match keq k k with
  | none=>none
  | some _=>some none
 | (k',v) :: l=>match keq k k' with
  | none=>none
  | some true=>some (some v)
  | some false=>lookM keq k l
def lkv (r:Option (AV S)) (z:AV S):AV S:=match r with
 | some v=>v
 | none=>z
def mapK1 (mv:AV S) (st:St S) (K:List (AV S×AV S)→Prop):Prop :=
 match mv with
 | .mpv e=>findK st.seg e False fun
  | .mp kvs=>K kvs
  | .mpz ks vs=>K (ks.zip vs)
  | _=>False
 | .mpu e=>findK st.up e False fun
  | .mp kvs=>K kvs
  | .mpz ks vs=>K (ks.zip vs)
  | _=>False
 | .mpf ks vs=>K (ks.zip vs)
 | _=>False
def setM (keq:AV S→AV S→Option Bool) (k v:AV S):List (AV S×AV S)→List (AV S×AV S)
 | []=>[]
 | (k',v') :: l=>match keq k k' with
  | some true=>(k',v) :: l
  | _=>(k',v') :: setM keq k v l
def adoptK (r:AV S) (sg:List (Nat×AO S)) (K:AV S→List (Nat×AO S)→Prop):Prop :=
 match r with
 | .sl u xs o=>match o with
  | some e=>findK sg e (putK sg e (.row u true) fun sg'=>K (.sl u xs (some e)) sg') fun _=>False
  | none=>K (.sl u xs none) sg
 | r=>K r sg
def plainR (r:AV S) (Y:Prop):Prop :=
 match r with
 | .sl _ _ o=>match o with
  | some _=>False
  | none=>Y
 | _=>Y
def dropOK (ds:List Nat):List (Nat×AO S)→(List (Nat×AO S)→Prop)→Prop
 | [],K=>K []
 | (k,a) :: l,K=>match memb ds k with
  | true=>dropOK ds l K
  | false=>dropOK ds l fun l'=>K ((k,a) :: l')
def swapL:List (Nat×Nat)→List (Nat×Nat)
 | []=>[]
 | (a,b) :: l=>(b,a) :: swapL l
def freeN:List Nat→Bool
 | []=>true
 | i :: r=>!memb r i&&freeN r
def firsts:List (Nat×Nat)→List Nat
 | []=>[]
 | (a,_) :: l=>a :: firsts l
def renK:Nat→List (Nat×Nat)→AV S→(AV S→Prop)→Prop
 | 0,_,_,_=>False
 | n+1,rn,v,K=>match v with
  | .own d p=>findK rn d False fun e=>K (.own e p)
  | .mpv d=>findK rn d False fun e=>K (.mpv e)
  | .sl u xs (some d)=>findK rn d False fun e=>K (.sl u xs (some e))
  | .agg cs=>renLK n rn cs fun l=>K (.agg l)
  | .tup cs=>renLK n rn cs fun l=>K (.tup l)
  | .clo fn f c=>renLK n rn f fun f'=>renLK n rn c fun c'=>K (.clo fn f' c')
  | .up _ _=>False
  | .undef=>False
  | .skip=>False
  | .cb=>False
  | .mpu _=>False
  | .elp ..=>False
  | v=>K v
where
 renLK:Nat→List (Nat×Nat)→List (AV S)→(List (AV S)→Prop)→Prop
 | _,_,[],K=>K []
 | 0,_,_ :: _,_=>False
 | n+1,rn,v :: l,K=>renK n rn v fun v'=>renLK n rn l fun l'=>K (v' :: l')
def renOK (rn:List (Nat×Nat)):AO S→(AO S→Prop)→Prop
 | .cells cs,K=>renK.renLK 60 rn cs fun l=>K (.cells l)
 | .frz cs,K=>K (.frz cs)
 | .row u f,K=>K (.row u f)
 | .mp kvs,K=>K (.mp kvs)
 | .mpz ks vs,K=>K (.mpz ks vs)
def pickK (rn:List (Nat×Nat)) (sg:List (Nat×AO S)):List (Nat×Nat)→(List (Nat×AO S)→Prop)→Prop
 | [],K=>K []
 | (d,e) :: l,K=>findK sg d (pickK rn sg l K) fun a=>renOK rn a fun a'=>pickK rn sg l fun l'=>K ((e,a') :: l')
def backLK (nr:List (Nat×Nat)):List (Nat×AO S)→List (Nat×AO S)→(List (Nat×AO S)→Prop)→Prop
 | [],sg,K=>K sg
 | (e,a) :: l,sg,K=>backLK nr l sg fun sg'=>findK nr e False fun d=>renOK nr a fun a'=>putK sg' d a' K
def pubF (d:Nat) (sg:List (Nat×AO S)) (K:List (Nat×AO S)→Prop):Prop :=
 findK sg d False fun
  | .row u _=>putK sg d (.row u false) K
  | .cells cs=>outK.outLK 60 cs sg fun cs' sg'=>putK sg' d (.frz cs') K
  | _=>False
def pubLK:List Nat→List (Nat×AO S)→(List (Nat×AO S)→Prop)→Prop
 | [],sg,K=>K sg
 | d :: ds,sg,K=>pubF d sg fun sg'=>pubLK ds sg' K
def sharedB (sg:List (Nat×AO S)):List Nat→Bool
 | []=>true
 | d :: ds=>(match go sg d with | true=>sharedB sg ds | false=>false)
where
 go:List (Nat×AO S)→Nat→Bool
  | [],_=>true
  | (k,a) :: l,d=>match Nat.beq k d with
   | true=>match a with
    | .row _ f=>!f
    | _=>true
   | false=>go l d
def rowB:List (Nat×AO S)→Nat→Bool
 | [],_=>false
 | (k,a) :: l,d=>match Nat.beq k d with
  | true=>match a with
   | .row _ _=>true
   | _=>false
  | false=>rowB l d
def lendK (g:FuncId) (all:List (AV S)) (st:St S) (K:AV S→St S→Prop):Prop :=
 ∃ (rn:List (Nat×Nat)) (ps:List Nat),match (freeN (firsts rn)&&freeN (firsts (swapL rn)))&&((firsts rn).all (fun d=>!memb ps d)&&ps.all (rowB st.seg)) with
  | true=>mapK (letK 4 ps) all fun all0=>renK.renLK 60 rn all0 fun all'=>match bareB all' with
   | true=>pubLK ps st.seg fun sg0=>match sharedB sg0 ps with
    | true=>letAllK ps { st with seg:=sg0 } fun st0=>dropOK ps st0.seg fun sgd=>pickK rn sgd rn fun sg=>undAllK (firsts rn) { st0 with seg:=sgd } fun st1=>dropOK (firsts rn) st1.seg fun rest =>
     P.lcall g all' sg fun r sg'=>renK 60 (swapL rn) r fun r'=>backLK (swapL rn) sg' rest fun sg''=>K r' { st1 with seg:=sg'' }
    | false=>False
   | false=>False
  | false=>False
def callK (c:Call) (st:St S) (x:X) (K:AV S→St S→X→Prop):Prop :=
 match c.callee with
 | .value f=>evK st.tmps f fun fv=>evLK st.tmps c.args.toList fun args=>match fv with
  | .clo fn first caps=>match fn with
   | .func g=>match P.loc g with
    | true=>appK first args fun l=>appK l caps fun all=>match P.lend g with
     | true=>lendK P g all st fun r st'=>K r st' x
     | false=>match st.up with
     | []=>match all.all (liftB 6) with
      | true=>P.ucall g (all.map (liftV 6)) (liftSeg st.seg) x fun r ups x'=>backK ups st.seg fun sg=>K r { st with seg:=sg } x'
      | false=>False
     | _ :: _=>match all.all (argB 6)&&upB st.up st.up with
      | true=>P.ucall g all st.up x fun r ups x'=>K r { st with up:=ups } x'
      | false=>False
    | false=>plainLK P c.argTypes.toList args fun args'=>appK first args' fun l=>appK l caps fun all=>match P.pk g with
     | true=>peekK.peekLK 60 all st.seg fun all'=>P.call g all' fun r=>keepR r=true∧adoptK r st.seg fun r' sg'=>K r' { st with seg:=sg' } x
     | false=>outK.outLK 60 all st.seg fun all' sg=>P.call g all' fun r=>adoptK r sg fun r' sg'=>K r' { st with seg:=sg' } x
   | _=>False
  | .cb=>outK.outLK 60 args st.seg fun args' sg=>P.cb args' x fun r x'=>K r { st with seg:=sg } x'
  | _=>False
 | _=>False
def opW (o:Oper) (st:St S) (x:X) (K:AV S→St S→X→Prop):Prop :=
 let d:=o.dst.getD 0
 match o.op with
 | .move y=>evK st.tmps y fun v=>K v st x
 | .assign y=>nilxK (P.nx&&nilOpB y) (K .nil0 st x) <| evK st.tmps y fun v=>match v with
  | .nils => match P.nk with
   | true => ∃ keep:Bool,match keep with
    | true=>K .nils st x
    | false =>
     tyK P o.type fun ty=>match ty.kind with
       | .slice u _ _=>findK st.seg d (putK st.seg d (.row u true) fun sg=>K (.sl u [] (some d)) { st with seg:=sg } x) fun ao=>match P.nl with
        | true=>match ao with
         | .row _ _=>undAllK [d] st fun st'=>putK st'.seg d (.row u true) fun sg=>K (.sl u [] (some d)) { st' with seg:=sg } x
         | _=>False
        | false=>findK st.seg (d+900000) (putK st.seg (d+900000) (.row u true) fun sg=>K (.sl u [] (some (d+900000))) { st with seg:=sg } x) fun _=>K (.sl u [] none) st x
       | _=>False
   | false =>
   tyK P o.type fun ty=>match ty.kind with
     | .slice u _ _=>findK st.seg d (putK st.seg d (.row u true) fun sg=>K (.sl u [] (some d)) { st with seg:=sg } x) fun ao=>match P.nl with
      | true=>match ao with
       | .row _ _=>undAllK [d] st fun st'=>putK st'.seg d (.row u true) fun sg=>K (.sl u [] (some d)) { st' with seg:=sg } x
       | _=>False
      | false=>findK st.seg (d+900000) (putK st.seg (d+900000) (.row u true) fun sg=>K (.sl u [] (some (d+900000))) { st with seg:=sg } x) fun _=>K (.sl u [] none) st x
     | _=>False
  | v=>K v st x
 | .pick c a b=>evK st.tmps c fun cv=>evK st.tmps a fun av=>evK st.tmps b fun bv=>match cv with
  | .bool t=>match av,bv with
   | .bool p,.bool q=>K (.bool (cond t p q)) st x
   | av,bv=>bcase t (K av st x) (K bv st x)
  | _=>False
 | .alloc t=>tyK P t fun ty=>mapK nilsK ty.zero fun zs=>tokK (d+1000) ty.zero zs st.seg fun cs sg=>findK sg d (putK sg d (.cells cs) fun sg'=>K (.own d []) { st with seg:=sg' } x) fun _=>False
 | .box t y=>tyK P t fun ty=>evK st.tmps y fun v=>cellsK v fun vs=>tokK (d+1000) ty.zero vs st.seg fun cs sg=>findK sg d (putK sg d (.cells cs) fun sg'=>K (.own d []) { st with seg:=sg' } x) fun _=>False
 | .build t ps=>tyK P t fun ty=>evPK st.tmps ps.toList fun vs=>match ty.kind with
  | .struct fs=>mapK nilsK ty.zero fun zs=>partsK vs fs zs fun cs=>K (.agg cs) st x
  | .array ua na=>match ty.zero with
   | [.arr u n zs]=>match Nat.beq n na with
    | true=>castL u ua zs fun zs=>partsArrK ua na vs zs fun xs=>K (.agg [.arr ua na xs]) st x
    | false=>False
   | _=>False
  | _=>False
 | .buildSlice t len ps=>match ps.toList with
  | []=>tyK P t fun ty=>match ty.kind with
   | .slice _ _ _=>match len with
    | 0=>K .nils st x
    | _+1=>False
   | _=>False
  | _ :: _=>findK st.seg d (tyK P t fun ty=>match ty.kind with
   | .slice u _ _=>evLK st.tmps (ps.toList.map fun p=>p.2) fun vs=>outK.outLK 60 vs st.seg fun vs' sg0=>match seqB 0 ps.toList with
    | true=>elemsK u vs' fun xs=>match Nat.beq len ps.size&&Nat.ble (len * Cod.size u) 16777216 with
     | true=>putK sg0 d (.row u (zeroB len)) fun sg=>K (.sl u xs (some d)) { st with seg:=sg } x
     | false=>False
    | false=>False
   | _=>False) fun _=>False
 | .load t p=>tyK P t fun ty=>evK st.tmps p fun pv=>loadE ty pv st fun v=>K v st x
 | .store t p y=>tyK P t fun ty=>evK st.tmps p fun pv=>evK st.tmps y fun v=>storeK ty pv v st fun st'=>K .skip st' x
 | .nilCheck y=>evK st.tmps y fun v=>match v with
  | .ref _=>K v st x
  | .own _ _=>K v st x
  | .up _ _=>K v st x
  | .elp ..=>K v st x
  | _=>False
 | .binOp op t a b _=>match nilOpB b with
  | true=>evK st.tmps a fun av=>nilBinK P op t av fun v=>K v st x
  | false=>evK st.tmps a fun av=>evK st.tmps b fun bv=>binTK P op t av bv fun v=>K v st x
 | .unOp op _ a=>evK st.tmps a fun av=>unK op av fun v=>K v st x
 | .convert s t a=>tyK P s fun _=>tyK P t fun ty=>evK st.tmps a fun av=>match ty.kind,av with
  | .int k,.int _ n=>K (.int k (k.wrap n)) st x
  | .str,.str s=>K (.str s) st x
  | _,_=>False
 | .makeFunc fn first caps=>evLK st.tmps first.toList fun f=>evLK st.tmps caps.toList fun c=>match f.all (capN 4)&&c.all (capN 4) with
  | true=>K (.clo fn f c) st x
  | false=>False
 | .slice t y lo hi mx=>match mx with
  | some _=>False
  | none=>tyK P t fun ty=>evK st.tmps y fun v=>optOp lo st.tmps fun lv=>optOp hi st.tmps fun hv=>match ty.kind with
   | .slice ut _ _=>match v with
    | .sl u xs o=>castL u ut xs fun xs=>boundK hv xs.length fun h=>boundK lv 0 fun l=>l≤h∧h≤xs.length∧sliceO (P.ow&&lo.isNone) ut xs o l h st fun v st'=>K v st' x
    | _=>False
   | .str=>match v with
    | .str s=>boundK hv s.size fun h=>boundK lv 0 fun l=>l≤h∧h≤s.size∧K (.str (s.extract l h)) st x
    | _=>False
   | .array ua n=>outK 20 v st.seg fun r sg=>match r with
    | .ref (c :: _)=>match c with
     | .arr u m xs=>match Nat.beq m n with
      | true=>castL u ua xs fun xs=>boundK hv n fun h=>boundK lv 0 fun l=>l≤h∧h≤n∧K (.sl ua ((xs.take h).drop l) none) { st with seg:=sg } x
      | false=>False
     | _=>False
    | _=>False
   | _=>False
 | .fieldAddr t p f=>tyK P t fun ty=>evK st.tmps p fun pv=>match ty.kind with
  | .struct fs=>match fs[f]? with
   | some (off,_,_)=>match pv with
    | .ref cs=>dropK cs off fun l=>K (.ref l) st x
    | .own d q=>stepOff off q fun q'=>K (.own d q') st x
    | .up d q=>stepOff off q fun q'=>K (.up d q') st x
    | .elp u d i q=>stepOff off q fun q'=>K (.elp u d i q') st x
    | _=>False
   | none=>False
  | _=>False
 | .field t y f=>tyK P t fun ty=>evK st.tmps y fun v=>match ty.kind,v with
  | .struct fs,.agg cs=>match fs[f]? with
   | some (off,ft,_)=>tyK P ft fun ty'=>dropK cs off fun l=>valK ty' l fun v'=>K v' st x
   | none=>False
  | _,_=>False
 | .indexAddr t y i=>tyK P t fun ty=>evK st.tmps y fun v=>evK st.tmps i fun iv=>match iv with
  | .int _ n=>match ty.kind with
   | .array u len=>match v with
    | .ref cs=>match cs with
     | .arr u' m xs :: _=>match Nat.beq m len with
      | true=>castL u' u xs fun xs=>optK (getI xs n) fun e=>K (.ref (Cod.enc u e)) st x
      | false=>False
     | _=>False
    | .own d q=>0≤n∧n < len∧stepIdx n (Cod.size u) q fun q'=>K (.own d q') st x
    | .up d q=>0≤n∧n < len∧stepIdx n (Cod.size u) q fun q'=>K (.up d q') st x
    | _=>False
   | .slice ut _ _=>match v with
    | .sl u xs o=>castL u ut xs fun xs =>
     let rd:Prop:=pubK o st.seg fun sg=>optK (getI xs n) fun e=>K (.ref (Cod.enc ut e)) { st with seg:=sg } x
     match o with
     | none=>rd
     | some e=>findK st.seg e False fun
      | .row _ f=>match f with
       | true=>∃ wr:Bool,match wr with
        | true=>optK (getI xs n) fun _=>K (.elp ut e n.toNat []) st x
        | false=>rd
       | false=>rd
      | _=>False
    | _=>False
   | _=>False
  | _=>False
 | .index t y i=>tyK P t fun ty=>evK st.tmps y fun v=>evK st.tmps i fun iv=>match ty.kind,v,iv with
  | .str,.str s,.int _ n=>optK (getI s.data.toList n) fun b=>K (.int .u8 b.toNat) st x
  | .array ua len,.agg cs,.int _ n=>findK P.ai t False fun et=>tyK P et fun ty'=>match cs with
   | .arr u m xs :: _=>match Nat.beq m len with
    | true=>castL u ua xs fun xs=>optK (getI xs n) fun e=>valK ty' (Cod.enc ua e) fun v'=>K v' st x
    | false=>False
   | _=>False
  | _,_,_=>False
 | .extract y i=>evK st.tmps y fun v=>match v with
  | .tup vs=>match bareB vs with
   | true=>nthK vs i fun r=>match r with
    | .undef=>False
    | r=>K r st x
   | false=>False
  | _=>False
 | .call c=>match c.callee with
  | .builtin b=>evLK st.tmps c.args.toList fun args=>builtinK P d b c.argTypes.toList args st fun v st'=>K v st' x
  | _=>callK P c st x K
 | .makeSlice t n m=>tyK P t fun ty=>evK st.tmps n fun nv=>evK st.tmps m fun mv=>match ty.kind with
  | .slice u _ ez=>match nv with
   | .int _ a=>match mv with
    | .int _ b=>(0≤a∧a≤b∧b≤1048576)∧optK (Cod.dec u ez) fun z=>findK st.seg d (putK st.seg d (.row u true) fun sg=>K (.sl u (List.replicate a.toNat z) (some d)) { st with seg:=sg } x) fun _=>False
    | _=>False
   | _=>False
  | _=>False
 | .makeMap t r=>match r with
  | none=>findK P.mi t False fun _=>findK st.seg d (putK st.seg d (.mp []) fun sg=>K (.mpv d) { st with seg:=sg } x) fun _=>False
  | some _=>False
 | .lookup t y i ok=>findK P.mi t False fun m=>tyK P m.elem fun ty=>evK st.tmps y fun mv=>evK st.tmps i fun iv=>mapK1 mv st fun kvs=>optK (lookM m.keq iv kvs) fun r=>oneK ty.zero fun z=>match ok with
  | true=>K (.tup [lkv r z,.bool r.isSome]) st x
  | false=>K (lkv r z) st x
 | .mapUpdate t y i v=>findK P.mi t False fun m=>evK st.tmps y fun mv=>evK st.tmps i fun iv=>evK st.tmps v fun vv=>match mv with
  | .mpv e=>outK 20 iv st.seg fun iv' sg=>outK 20 vv sg fun vv' sg'=>findK sg' e False fun
   | .mp kvs=>optK (lookM m.keq iv' kvs) fun r=>match r with
    | some _=>putK sg' e (.mp (setM m.keq iv' vv' kvs)) fun sg''=>K .skip { st with seg:=sg'' } x
    | none=>putK sg' e (.mp (kvs++[(iv',vv')])) fun sg''=>K .skip { st with seg:=sg'' } x
   | _=>False
  | .mpu e=>outK 20 iv st.seg fun iv' sg=>outK 20 vv sg fun vv' sg'=>findK st.up e False fun
   | .mp kvs=>optK (lookM m.keq iv' kvs) fun r=>match r with
    | some _=>False
    | none=>putK st.up e (.mp (kvs++[(iv',vv')])) fun up=>K .skip { st with seg:=sg',up:=up } x
   | _=>False
  | _=>False
 | _=>False
def forceK {α:Type}:List α→(List α→Prop)→Prop
 | [],K=>K []
 | a :: l,K=>forceK l fun l'=>K (a :: l')
def opsW (ops:Array Oper):List Oper→St S→X→(St S→X→Prop)→Prop
 | [],st,x,K=>K st x
 | o :: rest,st,x,K =>
  let run (st:St S):Prop:=opW P o st x fun v st' x'=>match o.dst with
   | some d=>setK st'.tmps d v fun ts=>forceK st'.seg fun sg=>forceK st'.up fun up=>opsW ops rest { tmps:=ts,seg:=sg,up:=up } x' K
   | none=>forceK st'.seg fun sg=>forceK st'.up fun up=>opsW ops rest { tmps:=st'.tmps,seg:=sg,up:=up } x' K
  let pass (st:St S):Prop:=match o.dst with
   | some d=>setK st.tmps d .skip fun ts=>opsW ops rest { st with tmps:=ts } x K
   | none=>opsW ops rest st x K
  match o.guard with
  | none=>run st
  | some (j,want)=>match ops[j]? with
   | some oj=>match oj.dst with
    | some dj=>nthK st.tmps dj fun v=>match v with
     | .bool b=>match want with
      | true=>bcase b (setK st.tmps dj (.bool true) fun ts=>run { st with tmps:=ts }) (setK st.tmps dj (.bool false) fun ts=>pass { st with tmps:=ts })
      | false=>bcase b (setK st.tmps dj (.bool true) fun ts=>pass { st with tmps:=ts }) (setK st.tmps dj (.bool false) fun ts=>run { st with tmps:=ts })
     | .skip=>pass st
     | _=>False
    | none=>False
   | none=>False
def outSK:Nat→AV S→List (Nat×AO S)→(AV S→List (Nat×AO S)→Prop)→Prop
 | 0,_,_,_=>False
 | n+1,v,sg,K=>match v with
  | .own d p=>findK sg d False fun
   | .frz cs=>readK cs p fun l=>K (.ref l) sg
   | _=>False
  | .sl u xs (some d)=>findK sg d False fun
   | .row u' _=>putK sg d (.row u' false) fun sg'=>K (.sl u xs none) sg'
   | _=>False
  | .agg cs=>outLS n cs sg fun l sg'=>K (.agg l) sg'
  | .tup cs=>outLS n cs sg fun l sg'=>K (.tup l) sg'
  | .clo fn f c=>outLS n f sg fun f' sg'=>outLS n c sg' fun c' sg''=>K (.clo fn f' c') sg''
  | .up _ _=>False
  | .undef=>False
  | .cb=>False
  | .mpv d=>findK sg d False fun
   | .mpz ks vs=>K (.mpf ks vs) sg
   | _=>False
  | .mpu _=>False
  | .elp ..=>False
  | v=>K v sg
where
 outLS:Nat→List (AV S)→List (Nat×AO S)→(List (AV S)→List (Nat×AO S)→Prop)→Prop
 | _,[],sg,K=>K [] sg
 | 0,_ :: _,_,_=>False
 | n+1,v :: l,sg,K=>outSK n v sg fun v' sg'=>outLS n l sg' fun l' sg''=>K (v' :: l') sg''
def frzK (v:AV S) (seg:List (Nat×AO S)) (K:List (AV S)→Prop):Prop :=
 match v with
 | .ref cs=>K cs
 | .own d q=>findK seg d False fun
  | .frz cs=>readK cs q K
  | _=>False
 | _=>False
def opV (o:Oper) (tmps:List (AV S)) (seg up:List (Nat×AO S)) (K:AV S→Prop):Prop :=
 match o.op with
 | .move y=>evK tmps y K
 | .assign y=>evK tmps y fun v=>match v with
  | .nils=>False
  | v=>K v
 | .pick c a b=>evK tmps c fun cv=>evK tmps a fun av=>evK tmps b fun bv=>match cv with
  | .bool t=>match av,bv with
   | .bool p,.bool q=>K (.bool (cond t p q))
   | av,bv=>bcase t (K av) (K bv)
  | _=>False
 | .load t p=>tyK P t fun ty=>evK tmps p fun pv=>loadK ty pv { tmps:=tmps,seg:=seg,up:=up } K
 | .nilCheck y=>evK tmps y fun v=>match v with
  | .ref _=>K v
  | .own _ _=>K v
  | .up _ _=>K v
  | _=>False
 | .binOp op t a b _=>evK tmps a fun av=>evK tmps b fun bv=>binTK P op t av bv K
 | .unOp op _ a=>evK tmps a fun av=>unK op av K
 | .convert s t a=>tyK P s fun _=>tyK P t fun ty=>evK tmps a fun av=>match ty.kind,av with
  | .int k,.int _ n=>K (.int k (k.wrap n))
  | .str,.str s=>K (.str s)
  | _,_=>False
 | .fieldAddr t p f=>tyK P t fun ty=>evK tmps p fun pv=>match ty.kind with
  | .struct fs=>match fs[f]? with
   | some (off,_,_)=>match pv with
    | .ref cs=>dropK cs off fun l=>K (.ref l)
    | .own d q=>stepOff off q fun q'=>K (.own d q')
    | .up d q=>stepOff off q fun q'=>K (.up d q')
    | .elp u d i q=>stepOff off q fun q'=>K (.elp u d i q')
    | _=>False
   | none=>False
  | _=>False
 | .field t y f=>tyK P t fun ty=>evK tmps y fun v=>match ty.kind,v with
  | .struct fs,.agg cs=>match fs[f]? with
   | some (off,ft,_)=>tyK P ft fun ty'=>dropK cs off fun l=>valK ty' l K
   | none=>False
  | _,_=>False
 | .indexAddr t y i=>tyK P t fun ty=>evK tmps y fun v=>evK tmps i fun iv=>match iv with
  | .int _ n=>match ty.kind with
   | .array u len=>match v with
    | .ref cs=>match cs with
     | .arr u' m xs :: _=>match Nat.beq m len with
      | true=>castL u' u xs fun xs=>optK (getI xs n) fun e=>K (.ref (Cod.enc u e))
      | false=>False
     | _=>False
    | .own d q=>0≤n∧n < len∧stepIdx n (Cod.size u) q fun q'=>K (.own d q')
    | .up d q=>0≤n∧n < len∧stepIdx n (Cod.size u) q fun q'=>K (.up d q')
    | _=>False
   | .slice ut _ _=>match v with
    | .sl u xs none=>castL u ut xs fun xs=>optK (getI xs n) fun e=>K (.ref (Cod.enc ut e))
    | _=>False
   | _=>False
  | _=>False
 | .index t y i=>tyK P t fun ty=>evK tmps y fun v=>evK tmps i fun iv=>match ty.kind,v,iv with
  | .str,.str s,.int _ n=>optK (getI s.data.toList n) fun b=>K (.int .u8 b.toNat)
  | _,_,_=>False
 | .extract y i=>evK tmps y fun v=>match v with
  | .tup vs=>match bareB vs with
   | true=>nthK vs i fun r=>match r with
    | .undef=>False
    | r=>K r
   | false=>False
  | _=>False
 | .build t ps=>tyK P t fun ty=>evPK tmps ps.toList fun vs=>match ty.kind with
  | .struct fs=>mapK nilsK ty.zero fun zs=>partsK vs fs zs fun cs=>K (.agg cs)
  | .array ua na=>match ty.zero with
   | [.arr u n zs]=>match Nat.beq n na with
    | true=>castL u ua zs fun zs=>partsArrK ua na vs zs fun xs=>K (.agg [.arr ua na xs])
    | false=>False
   | _=>False
  | _=>False
 | .buildSlice t len ps=>match ps.toList with
  | []=>tyK P t fun ty=>match ty.kind with
   | .slice _ _ _=>match len with
    | 0=>K .nils
    | _+1=>False
   | _=>False
  | _ :: _=>False
 | .slice t y lo hi mx=>match mx with
  | some _=>False
  | none=>tyK P t fun ty=>evK tmps y fun v=>optOp lo tmps fun lv=>optOp hi tmps fun hv=>match ty.kind with
   | .slice ut _ _=>match v with
    | .sl u xs none=>castL u ut xs fun xs=>boundK hv xs.length fun h=>boundK lv 0 fun l=>l≤h∧h≤xs.length∧K (.sl ut ((xs.take h).drop l) none)
    | _=>False
   | .str=>match v with
    | .str s=>boundK hv s.size fun h=>boundK lv 0 fun l=>l≤h∧h≤s.size∧K (.str (s.extract l h))
    | _=>False
   | .array ua n=>frzK v seg fun cs=>match cs with
    | c :: _=>match c with
     | .arr u m xs=>match Nat.beq m n with
      | true=>castL u ua xs fun xs=>boundK hv n fun h=>boundK lv 0 fun l=>l≤h∧h≤n∧K (.sl ua ((xs.take h).drop l) none)
      | false=>False
     | _=>False
    | []=>False
   | _=>False
 | .call c=>match c.callee with
  | .builtin b=>match b with
   | .len=>evLK tmps c.args.toList fun args=>builtinK P 0 .len c.argTypes.toList args { tmps:=tmps,seg:=seg,up:=up } fun v _=>K v
   | .min=>evLK tmps c.args.toList fun args=>builtinK P 0 .min c.argTypes.toList args { tmps:=tmps,seg:=seg,up:=up } fun v _=>K v
   | .max=>evLK tmps c.args.toList fun args=>builtinK P 0 .max c.argTypes.toList args { tmps:=tmps,seg:=seg,up:=up } fun v _=>K v
   | _=>False
  | _=>False
 | _=>False
def clsA (o:Oper):Bool:=match o.op with
 | .move _ | .assign _ | .pick _ _ _ | .load _ _ | .nilCheck _ | .binOp _ _ _ _ _ | .unOp _ _ _ | .convert _ _ _ | .fieldAddr _ _ _ | .field _ _ _ | .indexAddr _ _ _ | .index _ _ _ | .extract _ _ | .build _ _ | .slice _ _ _ _ _=>true
 | .buildSlice _ _ ps=>match ps.toList with
  | []=>true
  | _ :: _=>false
 | .call c=>match c.callee with
  | .builtin b=>match b with
   | .len=>true
   | .min=>true
   | .max=>true
   | _=>false
  | _=>false
 | _=>false
def clsC (o:Oper):Bool:=match o.op with
 | .call c=>match c.callee with
  | .value _=>true
  | _=>false
 | _=>false
def callD (c:Call) (st:St S) (x:X) (K:AV S→St S→X→Prop):Prop :=
 match c.callee with
 | .value f=>evK st.tmps f fun fv=>evLK st.tmps c.args.toList fun args=>match fv with
  | .clo fn first caps=>match fn with
   | .func g=>match P.loc g with
    | true=>False
    | false=>plainLK P c.argTypes.toList args fun args'=>appK first args' fun l=>appK l caps fun all=>match P.pk g with
     | true=>peekK.peekLK 60 all st.seg fun all'=>P.call g all' fun r=>keepR r=true∧plainR r (K r st x)
     | false=>outSK.outLS 60 all st.seg fun all' sg=>P.call g all' fun r=>plainR r (K r { st with seg:=sg } x)
   | _=>False
  | _=>False
 | _=>False
def handR (d:Nat) (sg:List (Nat×AO S)) (r:AV S) (K:AV S→List (Nat×AO S)→Prop):Prop :=
 match r with
 | .sl u xs o=>match o with
  | some e=>match Nat.beq e d with
   | true=>findK sg d (putK sg d (.row u true) fun sg'=>K (.sl u xs (some e)) sg') fun _=>False
   | false=>False
  | none=>False
 | _=>False
def callH (d:Nat) (c:Call) (st:St S) (x:X) (K:AV S→St S→X→Prop):Prop :=
 match c.callee with
 | .value f=>findK st.seg d (evK st.tmps f fun fv=>evLK st.tmps c.args.toList fun args=>match fv with
  | .clo fn first caps=>match fn with
   | .func g=>match P.loc g with
    | true=>False
    | false=>plainLK P c.argTypes.toList args fun args'=>appK first args' fun l=>appK l caps fun all=>match P.pk g with
     | true=>peekK.peekLK 60 all st.seg fun all'=>P.call g all' fun r=>keepR r=true∧handR d st.seg r fun r' sg'=>K r' { st with seg:=sg' } x
     | false=>outSK.outLS 60 all st.seg fun all' sg=>P.call g all' fun r=>handR d sg r fun r' sg'=>K r' { st with seg:=sg' } x
   | _=>False
  | _=>False) fun _=>False
 | _=>False
def idB:Nat→AV S→Bool
 | 0,_=>false
 | n+1,v=>match v with
  | .own _ _ | .up _ _ | .undef | .cb | .mpv _ | .mpu _ | .elp ..=>false
  | .sl _ _ (some _)=>false
  | .agg cs=>idLB n cs
  | .tup cs=>idLB n cs
  | .clo _ f c=>idLB n f&&idLB n c
  | _=>true
where
 idLB:Nat→List (AV S)→Bool
 | _,[]=>true
 | 0,_ :: _=>false
 | n+1,v :: l=>idB n v&&idLB n l
def opL (o:Oper) (d:Nat) (tmps:List (AV S)) (seg:List (Nat×AO S)) (K:AV S→List (Nat×AO S)→Prop):Prop :=
 match o.op with
 | .alloc t=>tyK P t fun ty=>mapK nilsK ty.zero fun zs=>tokK (d+1000) ty.zero zs seg fun cs sg=>findK sg d (putK sg d (.cells cs) fun sg'=>K (.own d []) sg') fun _=>False
 | .buildSlice t len ps=>match ps.toList with
  | []=>False
  | _ :: _=>findK seg d (tyK P t fun ty=>match ty.kind with
   | .slice u _ _=>evLK tmps (ps.toList.map fun p=>p.2) fun vs=>match idB.idLB 60 vs&&seqB 0 ps.toList with
    | true=>elemsK u vs fun xs=>match Nat.beq len ps.size&&Nat.ble (len * Cod.size u) 16777216 with
     | true=>putK seg d (.row u (zeroB len)) fun sg=>K (.sl u xs (some d)) sg
     | false=>False
    | false=>False
   | _=>False) fun _=>False
 | .makeSlice t n m=>tyK P t fun ty=>evK tmps n fun nv=>evK tmps m fun mv=>match ty.kind with
  | .slice u _ ez=>match nv with
   | .int _ a=>match mv with
    | .int _ b=>(0≤a∧a≤b∧b≤1048576)∧optK (Cod.dec u ez) fun z=>findK seg d (putK seg d (.row u true) fun sg=>K (.sl u (List.replicate a.toNat z) (some d)) sg) fun _=>False
    | _=>False
   | _=>False
  | _=>False
 | .lookup t y i ok=>findK P.mi t False fun m=>tyK P m.elem fun ty=>evK tmps y fun mv=>evK tmps i fun iv=>match mv with
  | .mpf ks vs=>optK (lookM m.keq iv (ks.zip vs)) fun r=>oneK ty.zero fun z=>match ok with
   | true=>K (.tup [lkv r z,.bool r.isSome]) seg
   | false=>K (lkv r z) seg
  | _=>False
 | .call c=>match c.callee with
  | .builtin .append=>match c.argTypes.toList,c.args.toList with
   | t :: t' :: _,[y,z]=>evK tmps y fun s=>evK tmps z fun v=>tyK P t fun ty=>tyK P t' fun ty'=>match ty.kind,ty'.kind,s with
    | .slice u _ _,.slice _ _ _,.nils=>moreK u v fun ys=>ys.length≤Cod.lim u∧findK seg d (putK seg d (.row u false) fun sg=>K (.sl u ys (some d)) sg) fun _=>False
    | _,_,_=>False
   | _,_=>False
  | _=>False
 | _=>False
def freeRB:Nat→List Nat→AV S→Bool
 | 0,_,v=>match v with
  | .sl _ _ _ | .agg _ | .tup _ | .elp ..=>false
  | _=>true
 | n+1,es,v=>match v with
  | .sl _ _ (some d)=>!memb es d
  | .elp _ d _ _=>!memb es d
  | .agg cs=>cs.all (freeRB n es)
  | .tup cs=>cs.all (freeRB n es)
  | _=>true
def freeROB (es:List Nat):Nat×AO S→Bool
 | (_,.cells cs)=>cs.all (freeRB 4 es)
 | _=>true
def opM (es:List Nat) (o:Oper) (st:St S) (x:X) (K:AV S→St S→X→Prop):Prop :=
 match o.op with
 | .call c=>match c.callee with
  | .builtin .append=>match c.argTypes.toList,c.args.toList with
   | t :: t' :: _,[y,z]=>evK st.tmps y fun s=>evK st.tmps z fun v=>tyK P t fun ty=>tyK P t' fun ty'=>match ty.kind,ty'.kind with
    | .slice u _ _,.slice _ _ _=>match s with
     | .sl us xs (some e)=>match memb es e&&st.seg.all (freeROB es) with
      | true=>castL us u xs fun xs=>moreK u v fun ys=>xs.length+ys.length≤Cod.lim u∧findK st.seg e False fun
       | .row u' f=>match Cod.ueq u' u with
        | .isTrue _=>match f with
         | true=>False
         | false=>letAllK [e] st fun st'=>putK st'.seg e (.row u false) fun sg=>K (.sl u (xs++ys) (some e)) { st' with seg:=sg } x
        | .isFalse _=>False
       | _=>False
      | false=>False
     | _=>False
    | _,_=>False
   | _,_=>False
  | _=>False
 | _=>False
def slotsOf (o:Oper):List Nat:=o.op.operands.toList.filterMap fun y=>match y with
 | .tmp t=>some t
 | _=>none
def slotOf (i:Nat):List Nat→Option Nat
 | []=>none
 | y :: l=>match Nat.beq (y / 100000) (i+1) with
  | true=>some (y % 100000)
  | false=>slotOf i l
def kindOf (ls ms:List Nat) (i:Nat):Nat:=match memb ls i with
 | true=>match memb ms i with
  | true=>match slotOf i ls with
   | some j=>j+4
   | none=>3
  | false=>1
 | false=>match memb ms i with
  | true=>2
  | false=>0
def stB (o:Oper):Bool:=match o.op with
 | .store _ _ _=>true
 | _=>false
def nonilB:AV S→Bool
 | .nils=>false
 | _=>true
def opS (o:Oper) (st:St S) (x:X) (K:AV S→St S→X→Prop):Prop :=
 match o.op with
 | .store t p y=>tyK P t fun ty=>evK st.tmps p fun pv=>evK st.tmps y fun v=>cellsK v fun vs=>match Nat.beq ((vs.map width).sum) ty.size&&vs.all nonilB with
  | true=>match pv with
   | .own d q=>findK st.seg d False fun
    | .cells cs=>writeK cs q vs fun cs'=>putK st.seg d (.cells cs') fun sg=>sg=st.seg∧K .skip st x
    | _=>False
   | _=>False
  | false=>False
 | _=>False
def opT (o:Oper) (st:St S) (x:X) (K:AV S→St S→X→Prop):Prop :=
 match o.op with
 | .store t p y=>tyK P t fun ty=>evK st.tmps p fun pv=>evK st.tmps y fun v=>cellsK v fun vs=>match Nat.beq ((vs.map width).sum) ty.size&&vs.all nonilB with
  | true=>match pv with
   | .own d q=>findK st.seg d False fun
    | .cells cs=>writeK cs q vs fun cs'=>putK st.seg d (.cells cs') fun sg=>K .skip { st with seg:=sg } x
    | _=>False
   | _=>False
  | false=>False
 | _=>False
def opE (es:List Nat) (o:Oper) (st:St S) (x:X) (K:AV S→St S→X→Prop):Prop :=
 match o.op with
 | .store t p y=>tyK P t fun ty=>evK st.tmps p fun pv=>evK st.tmps y fun v=>cellsK v fun vs=>match Nat.beq ((vs.map width).sum) ty.size&&vs.all nonilB with
  | true=>match pv with
   | .own d q=>match memb es d with
    | true=>findK st.seg d False fun
     | .cells cs=>writeK cs q vs fun cs'=>putK st.seg d (.cells cs') fun sg=>K .skip { st with seg:=sg } x
     | _=>False
    | false=>False
   | _=>False
  | false=>False
 | _=>False
def awayB (es:List Nat) (v:AV S):Bool:=match v with
 | .own d _=>!memb es d
 | _=>true
def opX (j:Option Nat) (o:Oper) (st:St S) (K:AV S→Prop):Prop :=
 match o.op with
 | .indexAddr t y i=>tyK P t fun ty=>evK st.tmps y fun v=>evK st.tmps i fun iv=>match iv with
  | .int _ n=>match ty.kind with
   | .slice ut _ _=>match v with
    | .sl u xs r=>match r with
     | some e=>castL u ut xs fun xs=>findK st.seg e False fun
      | .row _ f=>match f with
       | true=>optK (getI xs n) fun _=>K (.elp ut e n.toNat [])
       | false=>False
      | _=>False
     | none=>False
    | _=>False
   | _=>False
  | _=>False
 | .load t p=>tyK P t fun ty=>evK st.tmps p fun pv=>match pv with
  | .elp u d i q=>match j with
   | some j=>nthK st.tmps j fun v=>holdK u d [v] fun xs=>optK (getI xs (i:Int)) fun e=>readK (Cod.enc u e) q fun l=>valK ty l K
   | none=>∃ b:Nat,findK st.seg b False fun
    | .cells cs=>holdK u d cs fun xs=>optK (getI xs (i:Int)) fun e=>readK (Cod.enc u e) q fun l=>valK ty l K
    | _=>False
  | _=>False
 | _=>False
def allocB (o:Oper):Bool:=match o.op with
 | .alloc _=>true
 | _=>false
def bldB (o:Oper):Bool:=match o.op with
 | .buildSlice _ _ _=>true
 | _=>false
def runD (es:List Nat) (k:Nat) (o:Oper) (st:St S) (x:X) (K:AV S→St S→X→Prop):Prop :=
 match clsA o with
 | true=>match k with
  | 0=>opV P o st.tmps st.seg st.up fun v=>K v st x
  | 3=>opX P none o st fun v=>K v st x
  | j+4=>opX P (some j) o st fun v=>K v st x
  | _+1=>match (slotsOf o).all fun t=>freeRB 4 es (st.tmps.getD t .undef)&&awayB es (st.tmps.getD t .undef) with
   | true=>opV P o st.tmps st.seg st.up fun v=>match freeRB 4 es v with
    | true=>K v st x
    | false=>False
   | false=>False
 | false=>match clsC o with
  | true=>match k with
   | 0=>match o.op with
    | .call c=>callD P c st x K
    | _=>False
   | 2=>match o.op with
    | .call c=>callH P (o.dst.getD 0) c st x K
    | _=>False
   | _=>opW P o st x K
  | false=>match k with
   | 0=>opW P o st x K
   | 1=>match stB o with
    | true=>opS P o st x K
    | false=>opL P o (o.dst.getD 0) st.tmps st.seg fun v sg=>K v { st with seg:=sg } x
   | 2=>match stB o with
    | true=>opT P o st x K
    | false=>match allocB o with
     | true=>opL P o (o.dst.getD 0) st.tmps st.seg fun v sg=>match sg.all (freeROB es) with
      | true=>K v { st with seg:=sg } x
      | false=>False
     | false=>opM P es o st x K
   | _+3=>match stB o with
    | true=>opE P es o st x K
    | false=>opM P es o st x K
def opsD (ops:Array Oper) (ls ms es:List Nat):List Nat→St S→X→(St S→X→Prop)→Prop
 | [],st,x,K=>K st x
 | i :: rest,st,x,K=>match ops[i]? with
  | none=>False
  | some o =>
   let run (st:St S):Prop:=runD P es (kindOf ls ms i) o st x fun v st' x'=>match o.dst with
    | some d=>setK st'.tmps d v fun ts=>forceK st'.seg fun sg=>forceK st'.up fun up=>opsD ops ls ms es rest { tmps:=ts,seg:=sg,up:=up } x' K
    | none=>forceK st'.seg fun sg=>forceK st'.up fun up=>opsD ops ls ms es rest { tmps:=st'.tmps,seg:=sg,up:=up } x' K
   let pass (st:St S):Prop:=match o.dst with
    | some d=>setK st.tmps d .skip fun ts=>opsD ops ls ms es rest { st with tmps:=ts } x K
    | none=>opsD ops ls ms es rest st x K
   match o.guard with
   | none=>run st
   | some (j,want)=>match ops[j]? with
    | some oj=>match oj.dst with
     | some dj=>nthK st.tmps dj fun v=>match v with
      | .bool b=>match want with
       | true=>bcase b (setK st.tmps dj (.bool true) fun ts=>run { st with tmps:=ts }) (setK st.tmps dj (.bool false) fun ts=>pass { st with tmps:=ts })
       | false=>bcase b (setK st.tmps dj (.bool true) fun ts=>pass { st with tmps:=ts }) (setK st.tmps dj (.bool false) fun ts=>run { st with tmps:=ts })
      | .skip=>pass st
      | _=>False
     | none=>False
    | none=>False
def ancOf (A:List Nat) (o:Oper):Nat:=go o.after.toList
where
 go:List Edge→Nat
  | []=>0
  | e :: l=>match Region.binds .any e with
   | true=>Nat.lor (go l) (Nat.lor (A.getD e.on 0) (Nat.pow 2 e.on))
   | false=>go l
def ancs:List Oper→List Nat→List Nat
 | [],A=>A
 | o :: r,A=>ancs r (A++[ancOf A o])
def edgeB (i p:Nat) (ops:Array Oper):Bool:=match ops[i]? with
 | some o=>o.after.toList.any fun e=>Region.binds .any e&&Nat.beq e.on p
 | none=>true
def clsL (k:Nat) (o:Oper):Bool:=Nat.beq k 1&&o.dst.isSome&&!clsA o&&!clsC o&&!stB o
def clsS (k:Nat) (o:Oper):Bool:=Nat.beq k 1&&o.guard.isNone&&o.dst.isNone&&!clsA o&&!clsC o&&stB o
def clsM (k:Nat) (o:Oper):Bool:=Nat.beq k 2&&o.guard.isNone&&o.dst.isSome&&!clsA o&&!clsC o&&!stB o&&!allocB o
def clsN (k:Nat) (o:Oper):Bool:=Nat.beq k 2&&o.guard.isNone&&o.dst.isSome&&!clsA o&&!clsC o&&!stB o&&allocB o
def clsT (k:Nat) (o:Oper):Bool:=Nat.beq k 2&&o.guard.isNone&&o.dst.isNone&&!clsA o&&!clsC o&&stB o
def clsE (k:Nat) (o:Oper):Bool:=Nat.beq k 3&&o.guard.isNone&&o.dst.isNone&&!clsA o&&!clsC o&&stB o
def slotB (o:Oper):Bool:=match o.op with
 | .move _=>true
 | .extract _ _=>true
 | .pick _ _ _=>true
 | _=>false
def clsH (k:Nat) (o:Oper):Bool:=Nat.beq k 2&&o.guard.isNone&&o.dst.isSome&&clsC o
def keepB (k:Nat) (q:Oper):Bool:=match k with
 | j+4=>match q.dst with
  | some d=>!Nat.beq d j
  | none=>true
 | _=>true
def swapB (ops:Array Oper) (ls ms:List Nat) (i p:Nat):Bool:=match ops[i]?,ops[p]? with
 | some o,some q =>
  let k:=kindOf ls ms i
  let m:=kindOf ls ms p
  o.apart ops q&&((clsA o&&(clsA q&&keepB k q&&keepB m o||Nat.blt k 3&&(clsC q&&Nat.beq m 0||clsL m q||clsS m q)))||(clsC o&&Nat.beq k 0&&clsL m q&&(allocB q||bldB q)&&q.guard.isNone) ||
   (clsL k o&&clsL m q&&!Nat.beq (o.dst.getD 0 % 1000) (q.dst.getD 0 % 1000))||(clsA o&&Nat.beq k 1&&clsM m q)||(clsA o&&Nat.blt k 3&&clsH m q)||(clsH k o&&clsL m q&&allocB q&&q.guard.isNone&&!Nat.beq (o.dst.getD 0 % 1000) (q.dst.getD 0 % 1000))||(clsA o&&slotB o&&Nat.beq k 0&&clsT m q)||(clsA o&&Nat.beq k 1&&clsE m q)||(clsA o&&Nat.blt k 3&&clsN m q)||(clsL k o&&clsN m q&&!Nat.beq (o.dst.getD 0 % 1000) (q.dst.getD 0 % 1000))||(clsM k o&&clsN m q))
 | _,_=>false
def okB (ops:Array Oper) (ls ms:List Nat) (A:List Nat) (i p:Nat):Bool:=(Nat.testBit (A.getD p 0) i||swapB ops ls ms i p)&&!edgeB i p ops
def pairB (ops:Array Oper) (ls ms:List Nat) (A:List Nat):List Nat→Bool
 | []=>true
 | i :: r=>(r.all fun p=>okB ops ls ms A i p)&&pairB ops ls ms A r
def selfB (ops:Array Oper) (A:List Nat) (i:Nat):Bool:=match ops[i]? with
 | some o=>Nat.beq (A.getD i 0) (ancOf A o)&&!edgeB i i ops&&o.after.toList.all fun e=>Nat.blt e.on ops.size
 | none=>false
def nodupB:List Nat→Bool
 | []=>true
 | i :: r=>!memb r i&&nodupB r
def drawB (ops:Array Oper) (ls ms c:List Nat):Bool :=
 let A:=ancs ops.toList []
 Nat.beq c.length ops.size&&nodupB c&&c.all (fun i=>selfB ops A i)&&pairB ops ls ms A c
structure Wk where
 keep:Nat
 drop:List Nat
 pub:List Nat
def maskK:Nat→Nat→List (AV S)→(List (AV S)→Prop)→Prop
 | _,_,[],K=>K []
 | i,m,v :: l,K=>match Nat.testBit m i with
  | true=>maskK (i+1) m l fun l'=>K (v :: l')
  | false=>maskK (i+1) m l fun l'=>K (.undef :: l')
def freeB:Nat→List Nat→AV S→Bool
 | 0,_,_=>false
 | n+1,ds,v=>match v with
  | .own d _=>!memb ds d
  | .mpv d=>!memb ds d
  | .agg cs=>cs.all (freeB n ds)
  | .tup cs=>cs.all (freeB n ds)
  | .clo _ f c=>f.all (freeB n ds)&&c.all (freeB n ds)
  | _=>true
def freeOB (ds:List Nat):Nat×AO S→Bool
 | (_,.cells cs)=>cs.all (freeB 5 ds)
 | (_,.frz cs)=>cs.all (freeB 5 ds)
 | (_,.row _ _)=>true
 | (_,.mp _)=>true
 | (_,.mpz _ _)=>true
def wkK (m:Wk) (st:St S) (K:St S→Prop):Prop :=
 maskK 0 m.keep st.tmps fun ts=>pubLK m.pub st.seg fun sg=>match sharedB sg m.drop with
  | true=>letAllK m.drop { st with tmps:=ts,seg:=sg } fun st' =>
   dropOK m.drop st'.seg fun sg'=>match st'.tmps.all (freeB 5 m.drop)&&(sg'.all (freeOB m.drop)&&st'.up.all (freeOB m.drop)) with
    | true=>K { st' with seg:=sg' }
    | false=>False
  | false=>False
def wkP (pin:List Nat) (m:Wk) (st:St S) (K:St S→Prop):Prop :=
 match pin.all (fun d=>!memb m.drop d) with
 | true=>wkK m st K
 | false=>False
def vfB:Nat→AV S→Bool
 | 0,_=>false
 | n+1,v=>match v with
  | .ref _=>false
  | .mpf _ _=>false
  | .sl u _ o=>match o with
   | none=>false
   | some _=>Cod.data u
  | .arr u _ _=>Cod.data u
  | .agg cs=>cs.all (vfB n)
  | .tup cs=>cs.all (vfB n)
  | .clo _ f c=>f.all (vfB n)&&c.all (vfB n)
  | _=>true
def forgK (v:AV S) (K:AV S→Prop):Prop :=
 match v with
 | .sl u xs o=>match o with
  | none=>K (.lens xs.length)
  | some d=>K (.sl u xs (some d))
 | v=>K v
def resetO:Nat×AO S→(Nat×AO S→Prop)→Prop
 | (k,a),K=>match a with
  | .cells cs=>mapK forgK cs fun l=>match l.all (vfB 5) with
   | true=>K (k,.cells l)
   | false=>False
  | .row u _=>K (k,.row u true)
  | _=>False
def resetK (st:St S) (K:St S→Prop):Prop :=
 match st.up with
 | []=>mapK forgK st.tmps fun ts=>match ts.all (vfB 5) with
  | true=>mapK resetO st.seg fun sg=>K { tmps:=ts,seg:=sg,up:=[] }
  | false=>False
 | _ :: _=>False
def wkR (rs:Bool) (pin:Bool×List Nat) (m:Wk) (st:St S) (K:St S→Prop):Prop :=
 match rs with
 | false=>wkP pin.2 m st K
 | true=>match pin.1 with
  | true=>wkP pin.2 m st K
  | false=>∃ r:Bool,wkP pin.2 m st fun s=>match r with
   | true=>resetK s K
   | false=>K s
def LoopW (B:(St S→X→Prop)→St S→X→Prop) (st:St S) (x:X):Prop :=
 ∀ Z:St S→X→Prop,(∀ s y,B Z s y→Z s y)→Z st x
def dataB:Nat→AV S→Bool
 | 0,_=>false
 | n+1,v=>match v with
  | .bool _ | .int _ _ | .str _ | .lens _=>true
  | .agg cs=>cs.all (dataB n)
  | .tup cs=>cs.all (dataB n)
  | .arr u _ _=>Cod.data u
  | _=>false
def stayB:Nat→AV S→Bool
 | 0,_=>false
 | n+1,v=>match v with
  | .sl _ _ (some _) | .elp ..=>false
  | .agg cs=>cs.all (stayB n)
  | .tup cs=>cs.all (stayB n)
  | _=>true
def boxesOf:List (Nat×AO S)→List Nat→List Nat
 | [],l=>l
 | (d,a) :: sg,l=>match a with
  | .row _ _=>boxesOf sg l
  | _=>d :: boxesOf sg l
def eachW (pin:List Nat) (params:List Nat) (ts:List (AV S)) (B:(AExit→St S→X→Prop)→St S→X→Prop) (Q:AExit→St S→X→Prop) :
  List (List (AV S))→List (Nat×AO S)→List (Nat×AO S)→X→Prop
 | [],sg,up,x=>Q .normal { tmps:=ts,seg:=sg,up:=up } x
 | vs :: rest,sg,up,x=>setsK params vs ts fun ts'=>B (fun e st' x'=>match e with
   | .normal=>∃ m,wkP pin m st' fun s=>match (boxesOf s.seg []).all (memb pin) with
    | true=>eachW pin params ts B Q rest s.seg s.up x'
    | false=>False
   | e=>Q e { tmps:=ts,seg:=st'.seg,up:=st'.up } x') { tmps:=ts',seg:=sg,up:=up } x
where
 setsK:List Nat→List (AV S)→List (AV S)→(List (AV S)→Prop)→Prop
  | [],[],ts,K=>K ts
  | p :: ps,v :: vs,ts,K=>match v with
   | .arr ..=>False
   | v=>match dataB 5 v with
    | true=>setK ts p v fun ts'=>setsK ps vs ts' K
    | false=>False
  | _,_,_,_=>False
def aWp : Code→Bool×List Nat→(AExit→St S→X→Prop)→St S→X→Prop
 | .skip,_,Q,st,x=>Q .normal st x
 | .region _ ops draw,pin,Q,st,x=>match draw with
  | false=>haltK P.hd (opsW P ops ops.toList st x fun st' x'=>Q .normal st' x')
  | true=>∃ (c ls ms es:List Nat) (m:Wk),match c with
   | []=>P.rg ops st x fun st' x'=>Q .normal st' x'
   | _ :: _=>drawB ops ls ms c=true∧wkP pin.2 m st fun st0=>opsD P ops ls ms es c st0 x fun st' x'=>Q .normal st' x'
 | .seq a b,pin,Q,st,x=>aWp a pin (fun e st' x'=>match e with | .normal=>aWp b pin Q st' x' | e=>Q e st' x') st x
 | .cond c a b,pin,Q,st,x=>evK st.tmps c fun v=>match v with
  | .bool t=>bcase t (aWp a pin Q st x) (aWp b pin Q st x)
  | _=>False
 | .block id body,pin,Q,st,x=>aWp body pin (fun e st' x'=>match e with
  | .exit i=>match Nat.beq i id with | true=>Q .normal st' x' | false=>Q (.exit i) st' x'
  | e=>Q e st' x') st x
 | .loop body,pin,Q,st,x=>∃ m,wkR P.rs pin m st fun st0=>LoopW (fun Z s y=>aWp body pin (fun e s' y'=>match e with
  | .normal=>∃ m,wkR P.rs pin m s' fun s''=>Z s'' y'
  | e=>Q e s' y') s y) st0 x
 | .exit id,_,Q,st,x=>Q (.exit id) st x
 | .ret,_,Q,st,x=>Q .ret st x
 | .label _,_,Q,st,x=>Q .normal st x
 | .scope body,pin,Q,st,x=>aWp body pin Q st x
 | .rangeFunc g ps assign body,pin,Q,st,x=>∃ m,wkP pin.2 m st fun st=>evK st.tmps g fun gv=>match gv with
   | .clo fn first caps=>match fn,first with
    | .func gf,[]=>outK.outLK 60 caps st.seg fun caps' sg=>forceK sg fun sg=>forceK st.up fun up=>forceK (boxesOf sg pin.2) fun pins=>match st.tmps.all (stayB 6) with
     | true=>∃ xs,P.iter gf caps' xs∧eachW pins ps.toList st.tmps (fun K s y=>aWp assign (true,pins) (fun e s' y'=>match e with
       | .normal=>aWp body (true,pins) K s' y'
       | _=>False) s y) Q xs sg up x
     | false=>False
    | _,_=>False
   | _=>False
 | .goto _,_,_,_,_=>False
 | .refuse _,_,_,_,_=>False
def resK:List ResultVar→St S→(List (AV S)→List (Nat×AO S)→Prop)→Prop
 | [],st,K=>K [] st.seg
 | r :: rs,st,K =>
  let go (v:AV S):Prop:=outK 20 v st.seg fun v' sg=>resK rs { st with seg:=sg } fun l sg'=>K (v' :: l) sg'
  match r with
  | .tmp t=>nthK st.tmps t fun v=>match v with
   | .arr ..=>False
   | v=>go v
  | .cell a t=>tyK P t fun ty=>nthK st.tmps a fun p=>loadK ty p st fun v=>match v with
   | .arr ..=>False
   | v=>go v
def tupK (l:List (AV S)) (K:AV S→Prop):Prop :=
 match l with
 | [v]=>K v
 | l=>K (.tup l)
def padK:Nat→List (AV S)→(List (AV S)→Prop)→Prop
 | 0,l,K=>K l
 | n+1,[],K=>padK n [] fun l=>K (.undef :: l)
 | n+1,v :: l,K=>padK n l fun l'=>K (v :: l')
def fnU (fn:Func) (args:List (AV S)) (ups:List (Nat×AO S)) (x:X) (Q:AV S→List (Nat×AO S)→X→Prop):Prop :=
 match fn.body with
 | none=>False
 | some c=>match bareB args with
  | true=>padK fn.ntmps args fun ts=>aWp P c (false,[]) (fun e st y=>match e with
   | .exit _=>False
   | _=>match upB ups st.up with
    | true=>resK P fn.results.toList st fun l _=>tupK l fun r=>Q r st.up y
    | false=>False) { tmps:=ts,seg:=[],up:=ups } x
  | false=>False
def fnW (fn:Func) (args:List (AV S)) (x:X) (Q:AV S→X→Prop):Prop:=fnU P fn args [] x fun r _ y=>Q r y
def eachB {Y:Type} (B:List (AV S)→Y→(AV S→Y→Prop)→Prop):List (List (AV S))→Y→(Y→Prop)→Prop
 | [],y,Q=>Q y
 | v :: vs,y,Q=>B v y fun r y'=>match r with
  | .bool b=>match b with
   | true=>eachB B vs y' Q
   | false=>Q y'
  | _=>False
end
end Go.Ab
namespace Go.Ab
open Go
variable {S:Sig}
theorem bcase_iff {b:Bool} {P Q:Prop}:bcase b P Q↔(b=true→P)∧(b=false→Q):=by cases b <;> simp [bcase]
theorem nthK_eq (l:List (AV S)) (n:Nat) (K:AV S→Prop):nthK l n K=K (l.getD n .undef):=by
 induction l generalizing n with
 | nil=>simp [nthK]
 | cons v l ih=>cases n with
  | zero=>simp [nthK]
  | succ n=>simp [nthK,ih]
theorem setK_eq (l:List (AV S)) (n:Nat) (v:AV S) (K:List (AV S)→Prop):setK l n v K=K (l.set n v):=by
 induction l generalizing n K with
 | nil=>simp [setK]
 | cons x l ih=>cases n with
  | zero=>simp [setK]
  | succ n=>simp [setK,ih]
theorem forceK_eq {α:Type} (l:List α) (K:List α→Prop):forceK l K=K l:=by
 induction l generalizing K with
 | nil=>rfl
 | cons a l ih=>simp only [forceK,ih]
def lookA {α:Type} (l:List (Nat×α)) (n:Nat):Option α:=match l with
 | []=>none
 | (k,a) :: l=>if k=n then some a else lookA l n
theorem findK_eq {α:Type} (l:List (Nat×α)) (n:Nat) (N:Prop) (K:α→Prop) :
  findK l n N K=match lookA l n with | none=>N | some a=>K a:=by
 induction l with
 | nil=>rfl
 | cons p l ih =>
  obtain ⟨k,a⟩:=p
  simp only [findK,lookA]
  by_cases h:k=n
  ·subst h; simp
  have:Nat.beq k n=false:=by cases hb:Nat.beq k n with
   | false=>rfl
   | true=>exact absurd (Nat.eq_of_beq_eq_true hb) h
  simp [this,h,ih]
def putA {α:Type} (l:List (Nat×α)) (n:Nat) (a:α):List (Nat×α):=match l with
 | []=>[(n,a)]
 | (k,b) :: l=>if k=n then (k,a) :: l else if n≤k then (n,a) :: (k,b) :: l else (k,b) :: putA l n a
theorem putK_eq {α:Type} (l:List (Nat×α)) (n:Nat) (a:α) (K:List (Nat×α)→Prop):putK l n a K=K (putA l n a):=by
 induction l generalizing K with
 | nil=>rfl
 | cons p l ih =>
  obtain ⟨k,b⟩:=p
  simp only [putK,putA]
  by_cases h:k=n
  ·subst h; simp
  have:Nat.beq k n=false:=by cases hb:Nat.beq k n with
   | false=>rfl
   | true=>exact absurd (Nat.eq_of_beq_eq_true hb) h
  by_cases hle:n≤k
  ·have h2:Nat.ble n k=true:=Nat.ble_eq_true_of_le hle
   simp [this,h,h2,hle]
  have h2:Nat.ble n k=false:=by cases hb:Nat.ble n k with
   | false=>rfl
   | true=>exact absurd (Nat.le_of_ble_eq_true hb) hle
  simp [this,h,h2,hle,ih]
theorem lookA_putA {α:Type} (l:List (Nat×α)) (n m:Nat) (a:α):lookA (putA l n a) m=if n=m then some a else lookA l m:=by
 induction l with
 | nil=>simp [putA,lookA]
 | cons p l ih =>
  obtain ⟨k,b⟩:=p
  simp only [putA]
  by_cases h:k=n
  ·subst h
   simp only [if_true,lookA]
   by_cases hm:k=m <;> simp [hm]
  by_cases hle:n≤k
  ·simp only [h,hle,if_false,if_true,lookA]
  simp only [h,hle,if_false,lookA,ih]
  by_cases hk:k=m
  ·subst hk; simp [Ne.symm h]
  simp [hk]
theorem appK_eq {α:Type} (l m:List α) (K:List α→Prop):appK l m K=K (l++m):=by
 induction l generalizing K with
 | nil=>rfl
 | cons a l ih=>simp [appK,ih]
inductive All2 {α β:Type} (R:α→β→Prop):List α→List β→Prop where
 | nil:All2 R [] []
 | cons {a b l m}:R a b→All2 R l m→All2 R (a :: l) (b :: m)
theorem mapK_elim {α β:Type} {f:α→(β→Prop)→Prop} {G:α→β→Prop} (hf:∀ a K,f a K→∃ b,G a b∧K b) :
  ∀ (l:List α) (K:List β→Prop),mapK f l K→∃ l',All2 G l l'∧K l'
 | [],K,h=>⟨[],.nil,h⟩
 | a :: l,K,h=>by
  obtain ⟨b,hg,h⟩:=hf _ _ h
  obtain ⟨l',hl,h⟩:=mapK_elim hf l _ h
  exact ⟨b :: l',.cons hg hl,h⟩
variable [Cod S]
def widths (cs:List (AV S)):Nat:=(cs.map width).sum
theorem widths_cons (c:AV S) (cs:List (AV S)):widths (c :: cs)=width c+widths cs:=by simp [widths]
theorem widths_append (a b:List (AV S)):widths (a++b)=widths a+widths b:=by simp [widths]
theorem splitK_elim:∀ (f:Nat) (cs:List (AV S)) (n:Nat) (K:List (AV S)→List (AV S)→Prop),splitK f cs n K→∃ a b,cs=a++b∧widths a=n∧K a b
 | f,cs,0,K,h=>⟨[],cs,rfl,rfl,by cases f <;> cases cs <;> exact h⟩
 | 0,_,n+1,_,h=>by simp [splitK] at h
 | f+1,[],n+1,_,h=>by simp [splitK] at h
 | f+1,c :: cs,n+1,K,h=>by
  simp only [splitK] at h
  cases hb:Nat.ble (width c) (n+1) with
  | false=>simp [hb] at h
  | true =>
   simp only [hb] at h
   obtain ⟨a,b,rfl,hw,hK⟩:=splitK_elim f cs _ _ h
   have hle:=Nat.le_of_ble_eq_true hb
   exact ⟨c :: a,b,rfl,by rw [widths_cons,hw]; omega,hK⟩
theorem dropK_elim {cs:List (AV S)} {n:Nat} {K:List (AV S)→Prop} (h:dropK cs n K):∃ a b,cs=a++b∧widths a=n∧K b:=splitK_elim _ _ _ _ h
theorem takeK_elim {cs:List (AV S)} {n:Nat} {K:List (AV S)→Prop} (h:takeK cs n K):∃ a b,cs=a++b∧widths a=n∧K a:=splitK_elim _ _ _ _ h
end Go.Ab
namespace Go.Ab
open Go
variable {S:Sig}
inductive Tk where
 | no
 | at (b used cap:Nat)
structure Loc where
 own:Nat→Option Nat
 up:Nat→Option Nat
 tok:Nat→Option Tk
 cbv:Option Value
def Loc.none:Loc:=⟨fun _=>.none,fun _=>.none,fun _=>.none,.none⟩
def Loc.notok (l:Loc):Loc:={ l with tok:=fun _=>.none }
def poff:List Stp→Nat
 | []=>0
 | .off k :: p=>k+poff p
 | .idx i es :: p=>i.toNat * es+poff p
variable [Cod S]
def Flat (l:Loc) (v:Value):AV S→Prop
 | .undef=>True
 | .skip=>v=Go.undef
 | .bool b=>v=.bool b
 | .int k n=>v=.int k n
 | .str s=>v=.string s
 | .nilp=>v=.pointer none
 | .own d p=>∃ b,l.own d=some b∧v=.pointer (some ⟨b,poff p,.none⟩)
 | .up d p=>∃ b,l.up d=some b∧v=.pointer (some ⟨b,poff p,.none⟩)
 | .nils=>∃ base,v=.slice base 0 0
 | .nil0=>v=.slice none 0 0
 | .sl _ xs .none=>xs=[]∧∃ base cap,v=.slice base 0 cap
 | .sl _ xs (some d)=>xs=[]∧l.tok d=some .no∧∃ base,v=.slice base 0 0
 | .nilf=>v=.nilFunc
 | .cb=>l.cbv=some v∧∃ fn f c,v=.func fn f c
 | .mpv d=>∃ b,l.own d=some b∧v=.map (some b)
 | .mpu d=>∃ b,l.up d=some b∧v=.map (some b)
 | .lens n=>∃ base cap,v=.slice base n cap
 | .elp u d i p=>∃ b n cap,(l.tok d=some (.at b n cap)∧(i+1) * Cod.size u≤n)∧v=.pointer (some ⟨b,i * Cod.size u+poff p,.none⟩)
 | _=>False
structure Loc.le (l l':Loc):Prop where
 own:∀ d b,l.own d=some b→l'.own d=some b
 up:∀ d b,l.up d=some b→l'.up d=some b
 tok:∀ d t,l.tok d=some t→l'.tok d=some t
 cbv:∀ v,l.cbv=some v→l'.cbv=some v
theorem Loc.le_refl (l:Loc):l.le l:=⟨fun _ _ h=>h,fun _ _ h=>h,fun _ _ h=>h,fun _ h=>h⟩
theorem Loc.le_trans {a b c:Loc} (h:a.le b) (k:b.le c):a.le c :=
 ⟨fun _ _ e=>k.own _ _ (h.own _ _ e),fun _ _ e=>k.up _ _ (h.up _ _ e),fun _ _ e=>k.tok _ _ (h.tok _ _ e),fun _ e=>k.cbv _ (h.cbv _ e)⟩
theorem Loc.notok_le {l l':Loc} (h:l.le l'):l.notok.le l'.notok:=⟨h.own,h.up,fun _ _ e=>by simp [Loc.notok] at e,h.cbv⟩
theorem Loc.none_le (l:Loc):Loc.none.le l:=⟨fun _ _ h=>by simp [Loc.none] at h,fun _ _ h=>by simp [Loc.none] at h,fun _ _ h=>by simp [Loc.none] at h,fun _ h=>by simp [Loc.none] at h⟩
theorem Flat.mono {l l':Loc} {v:Value} {c:AV S} (h:Flat l v c) (hl:l.le l'):Flat l' v c:=by
 cases c <;> try exact h
 case own d p=>obtain ⟨b,h1,h2⟩:=h; exact ⟨b,hl.own _ _ h1,h2⟩
 case up d p=>obtain ⟨b,h1,h2⟩:=h; exact ⟨b,hl.up _ _ h1,h2⟩
 case sl u xs o =>
  cases o with
  | none=>exact h
  | some d=>exact ⟨h.1,hl.tok _ _ h.2.1,h.2.2⟩
 case cb=>exact ⟨hl.cbv _ h.1,h.2⟩
 case mpv d=>obtain ⟨b,h1,h2⟩:=h; exact ⟨b,hl.own _ _ h1,h2⟩
 case mpu d=>obtain ⟨b,h1,h2⟩:=h; exact ⟨b,hl.up _ _ h1,h2⟩
 case elp u d i p=>obtain ⟨b,n,cap,h1,h2⟩:=h; exact ⟨b,n,cap,⟨hl.tok _ _ h1.1,h1.2⟩,h2⟩
abbrev Look:=Option Value×Option (Array MapEntry×Nat)
def eye (w:World) (b o:Nat):Look:=(w.cell? ⟨b,o,none⟩,match w.heap[b]? with
 | some (.map es ck)=>some (es,ck)
 | _=>none)
theorem eye_cell {w w':World} {b o:Nat} (h:eye w' b o=eye w b o):w'.cell? ⟨b,o,none⟩=w.cell? ⟨b,o,none⟩:=congrArg Prod.fst h
theorem eye_map {w w':World} {b o:Nat} {es:Array MapEntry} {ck:Nat} (h:eye w' b o=eye w b o) (hm:w.heap[b]?=some (.map es ck)):w'.heap[b]?=some (.map es ck):=by
 have h2:=congrArg Prod.snd h
 simp only [eye,hm] at h2
 split at h2
 ·rename_i h3; cases h2; exact h3
 cases h2
def CellsAt (w:World) (V:Nat→Nat→Prop) (b o:Nat) (ws:List Value):Prop :=
 ∀ k v,ws[k]?=some v→V b (o+k)∧w.cell? ⟨b,o+k,none⟩=some v
inductive Reps (w:World) (V:Nat→Nat→Prop):Loc→List Value→List (AV S)→Prop where
 | nil (l:Loc):Reps w V l [] []
 | flat {l v c vs cs} (h:Flat l v c) (t:Reps w V l vs cs):Reps w V l (v :: vs) (c :: cs)
 | ref {l b o ws ds vs cs} (h:CellsAt w V b o ws) (r:Reps w V Loc.none ws ds) (t:Reps w V l vs cs) :
   Reps w V l (.pointer (some ⟨b,o,none⟩) :: vs) (.ref ds :: cs)
 | sl {l} {u:S.U} {xs:List (S.T u)} {b o cap ws vs cs} (h:CellsAt w V b o ws) (r:Reps w V Loc.none ws (xs.flatMap (Cod.enc u))) (hc:xs.length≤cap) (t:Reps w V l vs cs) :
   Reps w V l (.slice (some ⟨b,o,none⟩) xs.length cap :: vs) (.sl u xs none :: cs)
 | tok {l} {u:S.U} {xs:List (S.T u)} {d b cap ws vs cs} (ht:l.tok d=some (.at b ws.length cap)) (h:∀ k v,ws[k]?=some v→w.cell? ⟨b,k,none⟩=some v)
   (r:Reps w V Loc.none ws (xs.flatMap (Cod.enc u))) (hc:xs.length≤cap) (t:Reps w V l vs cs) :
   Reps w V l (.slice (some ⟨b,0,none⟩) xs.length cap :: vs) (.sl u xs (some d) :: cs)
 | clo {l fn f c first caps vs cs} (r:Reps w V l.notok f.toList first) (r':Reps w V l.notok c.toList caps) (t:Reps w V l vs cs) :
   Reps w V l (.func fn f c :: vs) (.clo fn first caps :: cs)
 | agg {l c ds vs cs} (r:Reps w V l c.toList ds) (t:Reps w V l vs cs):Reps w V l (.agg c :: vs) (.agg ds :: cs)
 | tup {l c ds vs cs} (r:Reps w V l c.toList ds) (t:Reps w V l vs cs):Reps w V l (.tuple c :: vs) (.tup ds :: cs)
 | arr {l} {u:S.U} {n} {xs:List (S.T u)} {ws vs cs} (hn:xs.length=n) (r:Reps w V Loc.none ws (xs.flatMap (Cod.enc u))) (t:Reps w V l vs cs) :
   Reps w V l (ws++vs) (.arr u n xs :: cs)
 | mpf {l b es ck} {ks us:List (AV S)} {vs cs} (hv:V b 0) (hm:w.heap[b]?=some (.map es ck)) (hb:bareB ks=true∧bareB us=true)
   (r:Reps w V Loc.none (es.toList.map fun e=>e.key) ks) (r':Reps w V Loc.none (es.toList.map fun e=>e.val) us) (t:Reps w V l vs cs) :
   Reps w V l (.map (some b) :: vs) (.mpf ks us :: cs)
abbrev Rep (w:World) (V:Nat→Nat→Prop) (l:Loc) (v:Value) (c:AV S):Prop:=Reps w V l [v] [c]
theorem CellsAt.mono {w w':World} {V V':Nat→Nat→Prop} {b o:Nat} {ws:List Value} (h:CellsAt w V b o ws)
  (hV:∀ b o,V b o→V' b o) (hc:∀ b o,V b o→eye w' b o=eye w b o):CellsAt w' V' b o ws :=
 fun k v hk=>⟨hV _ _ (h k v hk).1,(eye_cell (hc _ _ (h k v hk).1)).trans (h k v hk).2⟩
theorem Reps.mono {w w':World} {V V':Nat→Nat→Prop} (hV:∀ b o,V b o→V' b o) (hc:∀ b o,V b o→eye w' b o=eye w b o)
  {l:Loc} {vs:List Value} {cs:List (AV S)} (h:Reps w V l vs cs) :
  ∀ l',l.le l'→(∀ d b n cap,l.tok d=some (.at b n cap)→∀ o,o < n→eye w' b o=eye w b o)→Reps w' V' l' vs cs:=by
 have hn:∀ d b n cap,Loc.none.tok d=some (.at b n cap)→∀ o,o < n→eye w' b o=eye w b o:=fun d b n cap h=>by simp [Loc.none] at h
 induction h with
 | nil l=>exact fun l' _ _=>.nil l'
 | flat h _ ih=>exact fun l' hl ht=>.flat (h.mono hl) (ih l' hl ht)
 | ref h _ _ ih1 ih2=>exact fun l' hl ht=>.ref (h.mono hV hc) (ih1 _ (Loc.le_refl _) hn) (ih2 l' hl ht)
 | sl h _ hcp _ ih1 ih2=>exact fun l' hl ht=>.sl (h.mono hV hc) (ih1 _ (Loc.le_refl _) hn) hcp (ih2 l' hl ht)
 | tok hk h _ hcp _ ih1 ih2 =>
  refine fun l' hl ht=>.tok (hl.tok _ _ hk) (fun k v hv=>?_) (ih1 _ (Loc.le_refl _) hn) hcp (ih2 l' hl ht)
  have:=ht _ _ _ _ hk k (by have:=List.getElem?_eq_some_iff.1 hv; exact this.1)
  exact (eye_cell this).trans (h k v hv)
 | clo _ _ _ ih1 ih2 ih3=>exact fun l' hl ht=>.clo (ih1 _ (Loc.notok_le hl) fun d b n cap e=>by simp [Loc.notok] at e) (ih2 _ (Loc.notok_le hl) fun d b n cap e=>by simp [Loc.notok] at e) (ih3 l' hl ht)
 | agg _ _ ih1 ih2=>exact fun l' hl ht=>.agg (ih1 l' hl ht) (ih2 l' hl ht)
 | tup _ _ ih1 ih2=>exact fun l' hl ht=>.tup (ih1 l' hl ht) (ih2 l' hl ht)
 | arr hx _ _ ih1 ih2=>exact fun l' hl ht=>.arr hx (ih1 _ (Loc.le_refl _) hn) (ih2 l' hl ht)
 | mpf hv hm hb _ _ _ ih1 ih2 ih3=>exact fun l' hl ht=>.mpf (hV _ _ hv) (eye_map (hc _ _ hv) hm) hb (ih1 _ (Loc.le_refl _) hn) (ih2 _ (Loc.le_refl _) hn) (ih3 l' hl ht)
theorem Reps.of_none {w:World} {V:Nat→Nat→Prop} {vs:List Value} {cs:List (AV S)} (h:Reps w V Loc.none vs cs) (l:Loc):Reps w V l vs cs :=
 h.mono (fun _ _ h=>h) (fun _ _ _=>rfl) l (Loc.none_le l) fun d b n cap h=>by simp [Loc.none] at h
theorem Reps.append {w:World} {V:Nat→Nat→Prop} {l:Loc} {va vb:List Value} {a b:List (AV S)} (ha:Reps w V l va a) (hb:Reps w V l vb b):Reps w V l (va++vb) (a++b):=by
 induction ha with
 | nil l=>exact hb
 | flat h _ ih=>exact .flat h (ih hb)
 | ref h r _ _ ih=>exact .ref h r (ih hb)
 | sl h r hc _ _ ih=>exact .sl h r hc (ih hb)
 | tok ht h r hc _ _ ih=>exact .tok ht h r hc (ih hb)
 | clo r r' _ _ _ ih=>exact .clo r r' (ih hb)
 | agg r _ _ ih=>exact .agg r (ih hb)
 | tup r _ _ ih=>exact .tup r (ih hb)
 | arr hx r _ _ ih=>rw [List.append_assoc]; exact .arr hx r (ih hb)
 | mpf hv hm hbb r r' _ _ _ ih=>exact .mpf hv hm hbb r r' (ih hb)
theorem Reps.uncons {w:World} {V:Nat→Nat→Prop} {l:Loc} {vs:List Value} {c:AV S} {cs:List (AV S)} (h:Reps w V l vs (c :: cs)) :
  ∃ va vb,vs=va++vb∧Reps w V l va [c]∧Reps w V l vb cs:=by
 cases h with
 | flat h t=>exact ⟨[_],_,rfl,.flat h (.nil _),t⟩
 | ref h r t=>exact ⟨[_],_,rfl,.ref h r (.nil _),t⟩
 | sl h r hc t=>exact ⟨[_],_,rfl,.sl h r hc (.nil _),t⟩
 | tok ht h r hc t=>exact ⟨[_],_,rfl,.tok ht h r hc (.nil _),t⟩
 | clo r r' t=>exact ⟨[_],_,rfl,.clo r r' (.nil _),t⟩
 | agg r t=>exact ⟨[_],_,rfl,.agg r (.nil _),t⟩
 | tup r t=>exact ⟨[_],_,rfl,.tup r (.nil _),t⟩
 | arr hx r t=>exact ⟨_,_,rfl,by have:=Reps.arr hx r (.nil l); rwa [List.append_nil] at this,t⟩
 | mpf hv hm hb r r' t=>exact ⟨[_],_,rfl,.mpf hv hm hb r r' (.nil _),t⟩
theorem Reps.split {w:World} {V:Nat→Nat→Prop} {l:Loc}:∀ (a:List (AV S)) {b:List (AV S)} {vs:List Value},Reps w V l vs (a++b) →
  ∃ va vb,vs=va++vb∧Reps w V l va a∧Reps w V l vb b
 | [],b,vs,h=>⟨[],vs,rfl,.nil l,h⟩
 | c :: a,b,vs,h=>by
  obtain ⟨v1,v2,rfl,h1,h2⟩:=h.uncons
  obtain ⟨v3,v4,rfl,h3,h4⟩:=Reps.split a h2
  exact ⟨v1++v3,v4,(List.append_assoc ..).symm,h1.append h3,h4⟩
theorem Reps.nil_inv {w:World} {V:Nat→Nat→Prop} {l:Loc} {vs:List Value} (h:Reps w V l vs ([]:List (AV S))):vs=[]:=by cases h; rfl
class LawCod (S:Sig) [Cod S]:Prop where
 width:∀ u (x:S.T u),widths (Cod.enc u x)=Cod.size u
 pos:∀ u:S.U,0 < Cod.size u
 back:∀ u cs (x:S.T u),Cod.dec u cs=some x→∀ w V l vs,Reps w V l vs cs→Reps w V Loc.none vs (Cod.enc u x)
 cell:∀ u (x:S.T u),(Cod.enc u x).all cellOk=true
 data:∀ u (x:S.T u),Cod.data u=true→∀ w V l vs,Reps w V l vs (Cod.enc u x)→∀ w' V' l',Reps w' V' l' vs (Cod.enc u x)
variable [LawCod S]
theorem widths_flatMap {u:S.U} (xs:List (S.T u)):widths (xs.flatMap (Cod.enc u))=xs.length * Cod.size u:=by
 induction xs with
 | nil=>simp [widths]
 | cons x xs ih=>rw [List.flatMap_cons,widths_append,LawCod.width,ih,List.length_cons,Nat.succ_mul]; omega
theorem Reps.length {w:World} {V:Nat→Nat→Prop} {l:Loc} {vs:List Value} {cs:List (AV S)} (h:Reps w V l vs cs):vs.length=widths cs:=by
 induction h with
 | nil l=>rfl
 | flat h _ ih =>
  rename_i c _ _ _
  rw [widths_cons,List.length_cons,ih]
  have:width c=1:=by cases c <;> first | rfl | exact h.elim
  omega
 | ref _ _ _ _ ih=>rw [widths_cons,List.length_cons,ih]; simp [width]; omega
 | sl _ _ _ _ _ ih=>rw [widths_cons,List.length_cons,ih]; simp [width]; omega
 | tok _ _ _ _ _ _ ih=>rw [widths_cons,List.length_cons,ih]; simp [width]; omega
 | clo _ _ _ _ _ ih=>rw [widths_cons,List.length_cons,ih]; simp [width]; omega
 | agg _ _ _ ih=>rw [widths_cons,List.length_cons,ih]; simp [width]; omega
 | tup _ _ _ ih=>rw [widths_cons,List.length_cons,ih]; simp [width]; omega
 | arr hx _ _ ih1 ih2=>rw [widths_cons,List.length_append,ih2,ih1,widths_flatMap,hx]; simp [width]
 | mpf _ _ _ _ _ _ _ _ ih=>rw [widths_cons,List.length_cons,ih]; simp [width]; omega
theorem Reps.elem {w:World} {V:Nat→Nat→Prop} {l:Loc} {u:S.U}:∀ {xs:List (S.T u)} {vs:List Value},Reps w V l vs (xs.flatMap (Cod.enc u)) →
  ∀ {i:Nat} {x:S.T u},xs[i]?=some x→∃ va vm vb,vs=va++vm++vb∧va.length=i * Cod.size u∧Reps w V l vm (Cod.enc u x):=by
 intro xs
 induction xs with
 | nil=>intro vs _ i x hi; simp at hi
 | cons y xs ih =>
  intro vs h i x hi
  rw [List.flatMap_cons] at h
  obtain ⟨v1,v2,rfl,h1,h2⟩:=Reps.split _ h
  cases i with
  | zero =>
   simp at hi; subst hi
   exact ⟨[],v1,v2,by simp,by simp,h1⟩
  | succ i =>
   simp at hi
   obtain ⟨va,vm,vb,rfl,hl,hm⟩:=ih h2 hi
   exact ⟨v1++va,vm,vb,by simp [List.append_assoc],by rw [List.length_append,hl,h1.length,LawCod.width,Nat.succ_mul]; omega,hm⟩
theorem Reps.set_elem {w:World} {V:Nat→Nat→Prop} {l:Loc} {u:S.U}:∀ {xs:List (S.T u)} {va vm vb:List Value},Reps w V l (va++vm++vb) (xs.flatMap (Cod.enc u)) →
  ∀ {i:Nat} {x:S.T u} {vn:List Value},i < xs.length→va.length=i * Cod.size u→vm.length=Cod.size u→Reps w V l vn (Cod.enc u x) →
  Reps w V l (va++vn++vb) ((xs.set i x).flatMap (Cod.enc u)):=by
 intro xs
 induction xs with
 | nil=>intro va vm vb _ i x vn hi; simp at hi
 | cons y xs ih =>
  intro va vm vb h i x vn hi hl hm hn
  rw [List.flatMap_cons] at h
  obtain ⟨v1,v2,he,h1,h2⟩:=Reps.split _ h
  have hl1:v1.length=Cod.size u:=by rw [h1.length,LawCod.width]
  cases i with
  | zero =>
   have hva:va=[]:=by simpa using hl
   subst hva
   simp only [List.nil_append] at he ⊢
   have:=List.append_inj he (by omega)
   obtain ⟨rfl,rfl⟩:=this
   simp only [List.set_cons_zero,List.flatMap_cons]
   exact hn.append h2
  | succ i =>
   obtain ⟨va',rfl⟩:∃ va',va=v1++va':=by
    have h3:va++(vm++vb)=v1++v2:=by rw [←List.append_assoc]; exact he
    have hle:v1.length≤va.length:=by rw [hl,hl1,Nat.succ_mul]; omega
    have h4:=congrArg (List.take v1.length) h3
    rw [List.take_append_of_le_length hle,List.take_left'  rfl] at h4
    exact ⟨va.drop v1.length,by rw [←h4,List.length_take,Nat.min_eq_left hle,List.take_append_drop]⟩
   have he':v1++(va'++vm++vb)=v1++v2:=by simpa [List.append_assoc] using he
   have he2:=List.append_cancel_left he'
   subst he2
   simp only [List.set_cons_succ,List.flatMap_cons]
   have:=ih h2 (i:=i) (x:=x) (vn:=vn) (by simpa using hi) (by simp only [List.length_append,Nat.succ_mul] at hl; omega) hm hn
   have:=h1.append this
   simpa [List.append_assoc] using this
end Go.Ab
namespace Go.Ab
open Go
theorem Addr.add_at (b o n:Nat):(⟨b,o,none⟩:Addr).add n=⟨b,o+n,none⟩:=by
 unfold Addr.add; split
 ·rename_i h; subst h; rfl
 rfl
def putRow (w:World) (b:Nat) (c:Array Value) (el:TypeId):World:={ w with heap:=w.heap.setIfInBounds b (.cells c el (0,0)) }
theorem putRow_heap (w:World) (b:Nat) (c:Array Value) (el:TypeId) (k:Nat) :
  (putRow w b c el).heap[k]?=if k=b∧b < w.heap.size then some (.cells c el (0,0)) else w.heap[k]?:=by
 simp only [putRow,Array.getElem?_setIfInBounds]
 by_cases h:b=k
 ·subst h; simp; split <;> simp_all
 simp [h,Ne.symm h]
theorem putRow_size (w:World) (b:Nat) (c:Array Value) (el:TypeId):(putRow w b c el).heap.size=w.heap.size:=by simp [putRow]
theorem cell_of_heap {w:World} {b:Nat} {c:Array Value} {el:TypeId} {fr:Nat×Nat} (h:w.heap[b]?=some (.cells c el fr)) (o:Nat):w.cell? ⟨b,o,none⟩=c[o]?:=by
 simp [World.cell?,h]
theorem cell_congr {w w':World} {b:Nat} (h:w'.heap[b]?=w.heap[b]?) (o:Nat):eye w' b o=eye w b o:=by
 simp [eye,World.cell?,h]
theorem eye_cells {w w':World} {b o:Nat} {c c':Array Value} {el el':TypeId} {fr fr':Nat×Nat} (h:w.heap[b]?=some (.cells c el fr)) (h':w'.heap[b]?=some (.cells c' el' fr')) (hc:c'[o]?=c[o]?):eye w' b o=eye w b o:=by
 unfold eye
 rw [cell_of_heap h,cell_of_heap h',h,h',hc]
theorem frozen_of_heap {w:World} {b:Nat} {c:Array Value} {el:TypeId} (h:w.heap[b]?=some (.cells c el (0,0))) (o:Nat):w.frozen? ⟨b,o,none⟩=false:=by
 simp [World.frozen?,h]
section
variable {P:Program} {w:World}
theorem run_load {a:Addr} {v:Value} (h:w.cell? a=some v):(load a).run P w=.ok v w:=by
 simp [load,Sem.run,h]
theorem run_loadCellsFrom {b o:Nat}:∀ (ws:List Value) (i:Nat) (acc:Array Value),(∀ k v,ws[k]?=some v→w.cell? ⟨b,o+(i+k),none⟩=some v) →
  (loadCellsFrom ⟨b,o,none⟩ i ws.length acc).run P w=.ok (acc++ws.toArray) w
 | [],i,acc,_=>by simp [loadCellsFrom,pure]
 | v :: ws,i,acc,h=>by
  have h0:=h 0 v rfl
  have ih:=run_loadCellsFrom (b:=b) (o:=o) ws (i+1) (acc.push v) (fun k u hk=>by have:=h (k+1) u hk; rwa [show i+(k+1)=i+1+k by omega] at this)
  simp only [List.length_cons,loadCellsFrom,Sem.run_bind,Addr.add_at]
  rw [run_load (by simpa using h0)]
  simp only [Result.andThen]
  rw [ih]
  congr 1
  apply Array.ext'
  simp
theorem run_loadCells {b o:Nat} {ws:List Value} (h:∀ k v,ws[k]?=some v→w.cell? ⟨b,o+k,none⟩=some v) :
  (loadCells ⟨b,o,none⟩ ws.length).run P w=.ok ws.toArray w:=by
 have:=run_loadCellsFrom (P:=P) (b:=b) (o:=o) ws 0 #[] (fun k v hk=>by simpa using h k v hk)
 simpa [loadCells] using this
def Plain (v:Value):Prop:=match v with
 | .agg _ | .tuple _=>False
 | _=>True
theorem run_store {b o:Nat} {v:Value} {c:Array Value} {el:TypeId} (h:w.heap[b]?=some (.cells c el (0,0))) (ho:o < c.size) (hv:Plain v) :
  (store ⟨b,o,none⟩ v).run P w=.ok () (putRow w b (c.setIfInBounds o v) el):=by
 have hb:b < w.heap.size:=by
  rcases Nat.lt_or_ge b w.heap.size with h' | h'
  ·exact h'
  simp [Array.getElem?_eq_none h'] at h
 have hc:w.cell? ⟨b,o,none⟩=some c[o]:=by rw [cell_of_heap h]; simp [ho]
 have hf:=frozen_of_heap h o
 have he:w.setCell ⟨b,o,none⟩ v=putRow w b (c.setIfInBounds o v) el:=by
  have hwb:w.heap[b]=.cells c el (0,0):=by simpa [Array.getElem?_eq_getElem hb] using h
  simp only [World.setCell,putRow]
  congr 1
  apply Array.ext_getElem?
  intro k
  rw [Array.getElem?_modify,Array.getElem?_setIfInBounds]
  by_cases hk:b=k
  ·subst hk; simp [hb,hwb]
  simp [hk]
 cases v <;> first | exact hv.elim | (simp only [store,Sem.run,hc,hf,he]; simp)
def lay (c:Array Value) (o:Nat):List Value→Array Value
 | []=>c
 | v :: vs=>lay (c.setIfInBounds o v) (o+1) vs
theorem lay_size (c:Array Value) (o:Nat) (vs:List Value):(lay c o vs).size=c.size:=by
 induction vs generalizing c o with
 | nil=>rfl
 | cons v vs ih=>simp [lay,ih]
theorem putRow_putRow (w:World) (b:Nat) (c d:Array Value) (el:TypeId):putRow (putRow w b c el) b d el=putRow w b d el:=by
 simp [putRow,Array.setIfInBounds_setIfInBounds]
theorem putRow_self {w:World} {b:Nat} {c:Array Value} {el:TypeId} (h:w.heap[b]?=some (.cells c el (0,0))):putRow w b c el=w:=by
 simp only [putRow]
 have:w.heap.setIfInBounds b (.cells c el (0,0))=w.heap:=by
  apply Array.ext_getElem?
  intro k
  rw [Array.getElem?_setIfInBounds]
  by_cases hk:b=k
  ·subst hk
   have hb:b < w.heap.size:=by
    rcases Nat.lt_or_ge b w.heap.size with h' | h'
    ·exact h'
    simp [Array.getElem?_eq_none h'] at h
   have h2:w.heap[b]=.cells c el (0,0):=by simpa [Array.getElem?_eq_getElem hb] using h
   simp [hb,h2]
  simp [hk]
 rw [this]
theorem run_storeCells {b o:Nat} {el:TypeId}:∀ (vs:List Value) (i:Nat) (w:World) (c:Array Value),w.heap[b]?=some (.cells c el (0,0))→o+i+vs.length≤c.size→(∀ v∈vs,Plain v) →
  (storeCells ⟨b,o,none⟩ vs i).run P w=.ok () (putRow w b (lay c (o+i) vs) el)
 | [],i,w,c,h,_,_=>by simp [storeCells,pure,lay,putRow_self h]
 | v :: vs,i,w,c,h,hl,hv=>by
  simp only [List.length_cons] at hl
  simp only [storeCells,Sem.run_bind,Addr.add_at]
  rw [run_store h (by omega) (hv v (by simp))]
  simp only [Result.andThen]
  have hb:b < w.heap.size:=by
   rcases Nat.lt_or_ge b w.heap.size with h' | h'
   ·exact h'
   simp [Array.getElem?_eq_none h'] at h
  have:=run_storeCells (b:=b) (o:=o) (el:=el) vs (i+1) (putRow w b (c.setIfInBounds (o+i) v) el) (c.setIfInBounds (o+i) v)
   (by rw [putRow_heap]; simp [hb]) (by simp; omega) (fun u hu=>hv u (by simp [hu]))
  rw [this,putRow_putRow]
  simp [lay,Nat.add_assoc]
theorem lay_toList (c:Array Value) (wa wm wb vs:List Value) (h:c.toList=wa++wm++wb) (hl:vs.length=wm.length):(lay c wa.length vs).toList=wa++vs++wb:=by
 induction vs generalizing c wa wm with
 | nil =>
  have:wm=[]:=by cases wm with
   | nil=>rfl
   | cons=>simp at hl
  subst this; simpa [lay] using h
 | cons v vs ih =>
  cases wm with
  | nil=>simp at hl
  | cons m wm =>
   have:=ih (c.setIfInBounds wa.length v) (wa++[v]) wm (by
    rw [Array.toList_setIfInBounds,h]
    simp [List.append_assoc]) (by simpa using hl)
   simp only [List.length_append,List.length_cons,List.length_nil] at this
   simp only [lay]
   rw [this]; simp [List.append_assoc]
theorem run_newRow (el:TypeId) (c:Array Value):(newRow el c).run P w=.ok ⟨w.heap.size,0,none⟩ (w.alloc (.cells c el)):=by
 simp [newRow,newObj,Sem.run,Result.andThen,pure]
theorem run_typeInfo {t:TypeId} {i:TypeInfo} (h:P.info? t=some i):(typeInfo t).run P w=.ok i w:=by
 simp [typeInfo,program,Sem.run,h,Result.andThen,pure]
theorem run_sizeOf {t:TypeId} {i:TypeInfo} (h:P.info? t=some i):(sizeOf t).run P w=.ok i.size w:=by
 simp [sizeOf,run_typeInfo h,Result.andThen,Sem.run,pure]
theorem run_zeroValue {t:TypeId} {i:TypeInfo} {z:Value} (h:P.info? t=some i) (hz:i.zero=some z):(zeroValue t).run P w=.ok z w:=by
 simp [zeroValue,run_typeInfo h,hz,Result.andThen,pure]
theorem run_underlying {t:TypeId} {d:TypeDesc} (h:P.underlying t=some d):(underlying t).run P w=.ok d w:=by
 simp [underlying,program,Sem.run,h,Result.andThen,pure]
theorem run_isAgg_struct {t:TypeId} {fs:Array Field} (h:P.underlying t=some (.struct fs)):(isAgg t).run P w=.ok true w:=by
 simp [isAgg,run_underlying h,Result.andThen,Sem.run,pure]
theorem run_isAgg_array {t e:TypeId} {n:Nat} (h:P.underlying t=some (.array n e)):(isAgg t).run P w=.ok true w:=by
 simp [isAgg,run_underlying h,Result.andThen,Sem.run,pure]
end
end Go.Ab
namespace Go.Ab
open Go
variable {S:Sig}
def nilOf:AV S→AV S
 | .sl _ _ _=>.nils
 | v=>v
theorem nilsK_map:∀ (zs:List (AV S)) (K:List (AV S)→Prop),mapK nilsK zs K=K (zs.map nilOf)
 | [],K=>rfl
 | z :: zs,K=>by
  have:∀ (c:AV S) (K:AV S→Prop),nilsK c K=K (nilOf c):=fun c K=>by cases c <;> rfl
  simp only [mapK,this,List.map_cons]
  exact nilsK_map zs _
section
variable [Cod S]
def ZeroOk (z:Value) (cs:List (AV S)):Prop:=∀ w V,Reps w V Loc.none z.cells.toList cs∧Reps w V Loc.none z.cells.toList (cs.map nilOf)
def KindOk (P:Program) (t:Nat):TK S→Prop
 | .bool=>P.underlying t=some .bool
 | .int k=>P.underlying t=some (.int k)
 | .str=>P.underlying t=some .string
 | .ptr=>∃ e,P.underlying t=some (.pointer e)
 | .func=>∃ a b c,P.underlying t=some (.func a b c)
 | .struct fs=>∃ fds places,P.underlying t=some (.struct fds)∧fds.toList.mapM (fun f=>(P.info? f.type).map fun i=>(f.offset,i.size))=some places ∧
   ∀ (i off ft sz:Nat),fs[i]?=some (off,ft,sz)→places[i]?=some (off,sz)∧0 < sz∧∃ fd,fds[i]?=some fd∧fd.offset=off∧fd.type=ft∧∃ inf,P.info? ft=some inf∧inf.size=sz
 | .array u n=>∃ e i,P.underlying t=some (.array n e)∧P.info? e=some i∧i.size=Cod.size u∧2≤n
 | .slice u bytes ez=>∃ e i z,P.underlying t=some (.slice e)∧P.info? e=some i∧i.size=Cod.size u∧i.bytes=bytes∧0 < bytes∧(bytes≤128∧(Cod.lim u+(Cod.lim u+768) / 4) * bytes≤281474976710656)∧i.zero=some z∧ZeroOk z ez∧widths ez=Cod.size u
 | .map=>∃ k e,P.underlying t=some (.map k e)
structure TyOk (P:Program) (t:Nat) (ty:TyI S):Prop where
 info:∃ i z,P.info? t=some i∧i.size=ty.size∧i.zero=some z∧ZeroOk z ty.zero
 kind:KindOk P t ty.kind
def TisOk (P:Program) (ti:List (Nat×TyI S)):Prop:=∀ t ty,lookA ti t=some ty→TyOk P t ty
end
structure Keep (E:Nat→Prop) (w w':World):Prop where
 os:w'.os=w.os
 tape:w'.tape=w.tape
 output:w'.output=w.output
 size:w.heap.size≤w'.heap.size
 block:∀ b,E b→w'.heap[b]?=w.heap[b]?
theorem Keep.refl (E:Nat→Prop) (w:World):Keep E w w:=⟨rfl,rfl,rfl,Nat.le_refl _,fun _ _=>rfl⟩
theorem Keep.trans {E:Nat→Prop} {a b c:World} (h:Keep E a b) (k:Keep E b c):Keep E a c :=
 ⟨k.os.trans h.os,k.tape.trans h.tape,k.output.trans h.output,Nat.le_trans h.size k.size,fun i hi=>(k.block i hi).trans (h.block i hi)⟩
theorem Keep.mono {E E':Nat→Prop} {a b:World} (h:Keep E a b) (hE:∀ k,E' k→E k):Keep E' a b:=⟨h.os,h.tape,h.output,h.size,fun k hk=>h.block k (hE k hk)⟩
abbrev Grow (w w':World):Prop:=Keep (fun b=>b < w.heap.size) w w'
theorem Grow.trans {a b c:World} (h:Grow a b) (k:Grow b c):Grow a c :=
 Keep.trans h (k.mono fun _ hi=>Nat.lt_of_lt_of_le hi h.size)
theorem Grow.alloc (w:World) (o:Go.Obj):Grow w (w.alloc o) :=
 ⟨rfl,rfl,rfl,by simp,fun b hb=>by simp only [World.alloc]; rw [Array.getElem?_push]; rw [if_neg (by omega)]⟩
theorem Keep.putRow {E:Nat→Prop} {w:World} {b:Nat} (hb:¬ E b) (c:Array Value) (el:TypeId):Keep E w (putRow w b c el) :=
 ⟨rfl,rfl,rfl,by rw [putRow_size]; exact Nat.le_refl _,fun k hk=>by rw [putRow_heap,if_neg]; rintro ⟨rfl,_⟩; exact hb hk⟩
theorem Keep.below {n:Nat} {w w':World}:Keep (fun b=>b < n) w w'↔RowKit.Below n w w' :=
 ⟨fun h=>⟨h.os,h.tape,h.output,h.size,h.block⟩,fun h=>⟨h.os,h.tape,h.output,h.size,h.block⟩⟩
theorem lt_of_heap {w:World} {b:Nat} {o:Go.Obj} (h:w.heap[b]?=some o):b < w.heap.size:=by
 rcases Nat.lt_or_ge b w.heap.size with h' | h'
 ·exact h'
 simp [Array.getElem?_eq_none h'] at h
theorem lt_of_cell {w:World} {b o:Nat} {v:Value} (h:w.cell? ⟨b,o,none⟩=some v):b < w.heap.size:=by
 simp only [World.cell?] at h
 split at h
 ·exact lt_of_heap ‹_›
 cases h
structure Env (X:Type) where
 fv:Option Value
 ups:Nat→Option Nat
 owns:Nat→Option Nat
 fz:Nat→Nat→Look→Prop
 inv:X→World→Prop
 E:X→Nat→Prop
 EM:X→Nat→Nat→Prop
 lt:∀ x w b,inv x w→E x b→b < w.heap.size
 emE:∀ x b o,EM x b o→E x b
 stable:∀ x w w',inv x w→Keep (E x) w w'→inv x w'
structure Gl where
 g0:Nat
 G:World→Prop
 le:∀ w,G w→g0≤w.heap.size
 st:∀ w w',G w→w.heap.size≤w'.heap.size→(∀ b,b < g0→∀ o,eye w' b o=eye w b o)→G w'
section
variable [Cod S]
def CellObj (w:World) (V:Nat→Nat→Prop) (l:Loc) (b:Nat) (cs:List (AV S)):Prop :=
 ∃ c el,w.heap[b]?=some (.cells c el (0,0))∧Reps w V l c.toList cs∧∀ o,¬ V b o
def RowObj (w:World) (V:Nat→Nat→Prop) (b n cap:Nat) (u:S.U) (fresh:Bool):Prop :=
 ∃ c el,w.heap[b]?=some (.cells c el (0,0))∧cap * Cod.size u≤c.size∧n≤cap * Cod.size u ∧
  match fresh with
  | true=>∀ o,¬ V b o
  | false=>∀ o,V b o↔o < n
def Stamps (es:Array MapEntry) (clock:Nat):Prop:=(∀ e∈es.toList,e.born < clock)∧(es.toList.map fun e=>e.born).Nodup
def MapObj (w:World) (V:Nat→Nat→Prop) (b:Nat) (kvs:List (AV S×AV S)):Prop :=
 ∃ es clock,w.heap[b]?=some (.map es clock)∧(All2 (fun (e:MapEntry) (p:AV S×AV S)=>Rep w V Loc.none e.key p.1∧Rep w V Loc.none e.val p.2) es.toList kvs∧Stamps es clock)∧∀ o,¬ V b o
theorem MapObj.mono {w w':World} {V V':Nat→Nat→Prop} {b:Nat} {kvs:List (AV S×AV S)} (h:MapObj w V b kvs) (hb:w'.heap[b]?=w.heap[b]?)
  (hr:∀ {v:Value} {c:AV S},Rep w V Loc.none v c→Rep w' V' Loc.none v c) (hV:∀ o,¬ V' b o):MapObj w' V' b kvs:=by
 obtain ⟨es,clock,h1,⟨h2,hst⟩,_⟩:=h
 refine ⟨es,clock,hb.trans h1,⟨?_,hst⟩,hV⟩
 clear h1 hV hb hst
 generalize es.toList=l at h2
 induction h2 with
 | nil=>exact .nil
 | cons h _ ih=>exact .cons ⟨hr h.1,hr h.2⟩ ih
def MapFrz (w:World) (V:Nat→Nat→Prop) (b:Nat) (ks us:List (AV S)):Prop :=
 Rep w V Loc.none (.map (some b)) (.mpf ks us)
theorem MapFrz.inv {w:World} {V:Nat→Nat→Prop} {b:Nat} {ks us:List (AV S)} (h:MapFrz w V b ks us):∃ es ck,V b 0∧w.heap[b]?=some (.map es ck)∧(bareB ks=true∧bareB us=true) ∧
  Reps w V Loc.none (es.toList.map fun e=>e.key) ks∧Reps w V Loc.none (es.toList.map fun e=>e.val) us:=by
 unfold MapFrz Rep at h
 generalize hvs:[Value.map (some b)]=vs at h
 cases h with
 | flat h t=>exact h.elim
 | mpf hv hm hb r r' t=>cases hvs; exact ⟨_,_,hv,hm,hb,r,r'⟩
def ObOk (w:World) (V:Nat→Nat→Prop) (l l0:Loc) (d:Nat):AO S→Prop
 | .cells cs=>∃ b,l.own d=some b∧CellObj w V l0 b cs
 | .frz cs=>∃ b ws,l.own d=some b∧CellsAt w V b 0 ws∧Reps w V Loc.none ws cs
 | .row u fresh=>∃ t,l.tok d=some t∧match t with
  | .no=>True
  | .at b n cap=>RowObj w V b n cap u fresh
 | .mp kvs=>∃ b,l.own d=some b∧MapObj w V b kvs
 | .mpz ks us=>∃ b,l.own d=some b∧MapFrz w V b ks us
def UpOk (w:World) (V:Nat→Nat→Prop) (l l0:Loc) (d:Nat):AO S→Prop
 | .cells cs=>∃ b,l.up d=some b∧CellObj w V l0.notok b cs
 | .frz cs=>∃ b ws,l.up d=some b∧CellsAt w V b 0 ws∧Reps w V Loc.none ws cs
 | .row _ _=>True
 | .mp kvs=>∃ b,l.up d=some b∧MapObj w V b kvs
 | .mpz ks us=>∃ b,l.up d=some b∧MapFrz w V b ks us
def BoxO (ao:AO S):Prop:=match ao with
 | .row _ _=>False
 | _=>True
def MutO (l:Loc) (d:Nat) (ao:AO S) (b:Nat):Prop :=
 match ao with
 | .cells _=>l.own d=some b
 | .frz _=>False
 | .row _ _=>∃ n cap,l.tok d=some (.at b n cap)
 | .mp _=>l.own d=some b
 | .mpz _ _=>False
def MutU (ao:AO S):Prop:=match ao with
 | .cells _=>True
 | .mp _=>True
 | _=>False
def Mut (l:Loc) (st:St S):Bool→Nat→Nat→Prop
 | false,d,b=>∃ ao,lookA st.seg d=some ao∧MutO l d ao b
 | true,d,b=>∃ ao,lookA st.up d=some ao∧MutU ao∧l.up d=some b
structure Fix {X:Type} (En:Env X) (w:World) (V:Nat→Nat→Prop) (l l0:Loc):Prop where
 cb:l.cbv=En.fv
 up:l.up=En.ups
 own:∀ d b,En.owns d=some b→l0.own d=some b
 fz:∀ b o v,En.fz b o v→V b o∧eye w b o=v
theorem Fix.mono {X:Type} {En:Env X} {w w':World} {V V':Nat→Nat→Prop} {l l0 l' l0':Loc} (h:Fix En w V l l0) (hcb:l'.cbv=l.cbv) (hup:l'.up=l.up) (hown:∀ d b,En.owns d=some b→l0.own d=some b→l0'.own d=some b)
  (hV:∀ b o,V b o→V' b o) (hc:∀ b o,V b o→eye w' b o=eye w b o):Fix En w' V' l' l0' :=
 ⟨hcb.trans h.cb,hup.trans h.up,fun d b e=>hown d b e (h.own d b e),fun b o v e=>⟨hV _ _ (h.fz b o v e).1,(hc _ _ (h.fz b o v e).1).trans (h.fz b o v e).2⟩⟩
theorem Fix.world {X:Type} {En:Env X} {w w':World} {V V':Nat→Nat→Prop} {l l0:Loc} (h:Fix En w V l l0)
  (hV:∀ b o,V b o→V' b o) (hc:∀ b o,V b o→eye w' b o=eye w b o):Fix En w' V' l l0:=h.mono rfl rfl (fun _ _ _ h=>h) hV hc
structure SRx {X:Type} (gl:Gl) (En:Env X) (x:X) (w:World) (V:Nat→Nat→Prop) (l l0:Loc) (ts:Array Value) (st:St S):Prop where
 le:l0.le l
 cb:Fix En w V l l0
 inv:En.inv x w
 g:gl.G w
 vlt:∀ b o,V b o→b < w.heap.size
 vem:∀ b o,V b o→¬ En.EM x b o
 sz:ts.size=st.tmps.length
 tmps:∀ i c,st.tmps[i]?=some c→Rep w V l0 (ts.getD i Go.undef) c
 seg:∀ d ao,lookA st.seg d=some ao→ObOk w V l l0 d ao
 up:∀ d ao,lookA st.up d=some ao→UpOk w V l l0 d ao
 rego:∀ d b,l.own d=some b→∃ ao,lookA st.seg d=some ao∧BoxO ao
 regt:∀ d t,l.tok d=some t→∃ u f,lookA st.seg d=some (.row u f)
 mine:∀ k d b,Mut l st k d b→¬ En.E x b∧gl.g0≤b
 dis:∀ k d k' d' b,Mut l st k d b→Mut l st k' d' b→k=k'∧d=d'
abbrev SR {X:Type} (gl:Gl) (En:Env X) (x:X) (w:World) (V:Nat→Nat→Prop) (l:Loc) (ts:Array Value) (st:St S):Prop:=SRx gl En x w V l l ts st
variable {X:Type} {gl:Gl} {En:Env X} {x:X} {w w':World} {V V':Nat→Nat→Prop} {l l0:Loc} {ts:Array Value} {st:St S}
theorem SRx.mltO (h:SRx gl En x w V l l0 ts st) {k:Bool} {d b:Nat} (hm:Mut l st k d b):∃ o,w.heap[b]?=some o∧match o with | .cells ..=>True | .map ..=>True | _=>False:=by
 cases k with
 | false =>
  obtain ⟨ao,hl,ho⟩:=hm
  have:=h.seg _ _ hl
  cases ao with
  | cells cs =>
   obtain ⟨b',hb,c,el,hc,_⟩:=this
   have:l.own d=some b:=ho
   rw [this] at hb; cases hb; exact ⟨_,hc,trivial⟩
  | mp kvs =>
   obtain ⟨b',hb,es,ck,hc,_⟩:=this
   have:l.own d=some b:=ho
   rw [this] at hb; cases hb; exact ⟨_,hc,trivial⟩
  | frz cs=>exact ho.elim
  | mpz ks us=>exact ho.elim
  | row u f =>
   obtain ⟨t,ht,h2⟩:=this
   obtain ⟨n,cap,ho⟩:=ho
   rw [ho] at ht; cases ht
   obtain ⟨c,el,hc,_⟩:=h2
   exact ⟨_,hc,trivial⟩
 | true =>
  obtain ⟨ao,hl,hu,ho⟩:=hm
  have:=h.up _ _ hl
  cases ao with
  | cells cs =>
   obtain ⟨b',hb,c,el,hc,_⟩:=this
   rw [ho] at hb; cases hb; exact ⟨_,hc,trivial⟩
  | mp kvs =>
   obtain ⟨b',hb,es,ck,hc,_⟩:=this
   rw [ho] at hb; cases hb; exact ⟨_,hc,trivial⟩
  | frz cs=>exact hu.elim
  | mpz ks us=>exact hu.elim
  | row u f=>exact hu.elim
theorem SRx.mlt (h:SRx gl En x w V l l0 ts st) {k:Bool} {d b:Nat} (hm:Mut l st k d b):∃ o,w.heap[b]?=some o:=(h.mltO hm).imp fun _ h=>h.1
theorem Reps.grown (hg:Grow w w') (hV:∀ b o,V b o→V' b o) (hlt:∀ b o,V b o→b < w.heap.size) {vs:List Value} {cs:List (AV S)} (hr:Reps w V l vs cs):Reps w' V' l vs cs:=by
 have hc:∀ b o,V b o→eye w' b o=eye w b o:=fun b o hb=>cell_congr (hg.block b (hlt b o hb)) o
 induction hr with
 | nil l=>exact .nil l
 | flat hf _ ih=>exact .flat hf ih
 | ref hc' _ _ ih1 ih2=>exact .ref (hc'.mono hV hc) ih1 ih2
 | sl hc' _ hcp _ ih1 ih2=>exact .sl (hc'.mono hV hc) ih1 hcp ih2
 | tok hk hc' _ hcp _ ih1 ih2 =>
  refine .tok hk (fun k v hv=>?_) ih1 hcp ih2
  rw [eye_cell (cell_congr (hg.block _ (lt_of_cell (hc' k v hv))) _)]; exact hc' k v hv
 | clo _ _ _ ih1 ih2 ih3=>exact .clo ih1 ih2 ih3
 | agg _ _ ih1 ih2=>exact .agg ih1 ih2
 | tup _ _ ih1 ih2=>exact .tup ih1 ih2
 | arr hx _ _ ih1 ih2=>exact .arr hx ih1 ih2
 | mpf hv hm hb _ _ _ ih1 ih2 ih3=>exact .mpf (hV _ _ hv) ((hg.block _ (hlt _ _ hv)).trans hm) hb ih1 ih2 ih3
theorem SRx.grow (h:SRx gl En x w V l l0 ts st) (hg:Grow w w') (hV:∀ b o,V b o→V' b o)
  (hV':∀ b o,V' b o→V b o∨(w.heap.size≤b∧b < w'.heap.size)):SRx gl En x w' V' l l0 ts st:=by
 have hc:∀ b o,V b o→eye w' b o=eye w b o:=fun b o hb=>cell_congr (hg.block b (h.vlt b o hb)) o
 have hblk:∀ (b:Nat) (c:Array Value) (el:TypeId),w.heap[b]?=some (.cells c el (0,0))→w'.heap[b]?=some (.cells c el (0,0)):=fun b c el hb=>(hg.block b (lt_of_heap hb)).trans hb
 have hno:∀ b o,b < w.heap.size→¬ V b o→¬ V' b o:=fun b o hb hn hv=>(hV' b o hv).elim hn fun h1=>absurd h1.1 (Nat.not_le.2 hb)
 have hr:∀ {l1:Loc} {vs:List Value} {cs:List (AV S)},Reps w V l1 vs cs→Reps w' V' l1 vs cs:=fun hr=>hr.grown hg hV h.vlt
 have hco:∀ {l1:Loc} {b:Nat} {cs:List (AV S)},CellObj w V l1 b cs→CellObj w' V' l1 b cs:=fun ⟨c,el,h1,h2,h3⟩ =>
  ⟨c,el,hblk _ _ _ h1,hr h2,fun o=>hno _ _ (lt_of_heap h1) (h3 o)⟩
 refine ⟨h.le,h.cb.world hV hc,En.stable _ _ _ h.inv (hg.mono fun b hb=>En.lt _ _ _ h.inv hb),gl.st _ _ h.g hg.size fun b hb o=>cell_congr (hg.block b (Nat.lt_of_lt_of_le hb (gl.le _ h.g))) o,
  fun b o hb=>?_,fun b o hb hem=>?_,h.sz,fun i c hi=>hr (h.tmps i c hi),fun d ao hd=>?_,fun d ao hd=>?_,h.rego,h.regt,h.mine,h.dis⟩
 ·rcases hV' b o hb with h1 | h1
  ·exact Nat.lt_of_lt_of_le (h.vlt b o h1) hg.size
  exact h1.2
 ·rcases hV' b o hb with h1 | h1
  ·exact h.vem b o h1 hem
  have:=En.lt _ _ _ h.inv (En.emE _ _ _ hem); omega
 ·have:=h.seg d ao hd
  cases ao with
  | cells cs=>obtain ⟨b,hb,hc'⟩:=this; exact ⟨b,hb,hco hc'⟩
  | frz cs =>
   obtain ⟨b,ws,hb,hc',hr'⟩:=this
   exact ⟨b,ws,hb,hc'.mono hV hc,hr'.mono hV hc _ (Loc.le_refl _) fun d b n cap e=>by simp [Loc.none] at e⟩
  | row u f =>
   obtain ⟨t,ht,h2⟩:=this
   refine ⟨t,ht,?_⟩
   cases t with
   | no=>trivial
   | «at» b n cap =>
    obtain ⟨c,el,h3,h4,h5,h6⟩:=h2
    refine ⟨c,el,hblk _ _ _ h3,h4,h5,?_⟩
    cases f with
    | true=>exact fun o=>hno _ _ (lt_of_heap h3) (h6 o)
    | false=>exact fun o=>⟨fun hv=>(hV' b o hv).elim (h6 o).1 fun h7=>absurd h7.1 (Nat.not_le.2 (lt_of_heap h3)),fun ho=>hV _ _ ((h6 o).2 ho)⟩
  | mp kvs =>
   obtain ⟨b,hb,hmp⟩:=this
   have hlt:b < w.heap.size:=by obtain ⟨es,ck,h1,_⟩:=hmp; exact lt_of_heap h1
   exact ⟨b,hb,hmp.mono (hg.block b hlt) hr fun o=>hno _ _ hlt (by obtain ⟨es,ck,_,_,h3⟩:=hmp; exact h3 o)⟩
  | mpz ks us=>obtain ⟨b,hb,hmp⟩:=this; exact ⟨b,hb,hr hmp⟩
 have:=h.up d ao hd
 cases ao with
 | cells cs=>obtain ⟨b,hb,hc'⟩:=this; exact ⟨b,hb,hco hc'⟩
 | frz cs =>
  obtain ⟨b,ws,hb,hc',hr'⟩:=this
  exact ⟨b,ws,hb,hc'.mono hV hc,hr'.mono hV hc _ (Loc.le_refl _) fun d b n cap e=>by simp [Loc.none] at e⟩
 | row u f=>trivial
 | mp kvs =>
  obtain ⟨b,hb,hmp⟩:=this
  have hlt:b < w.heap.size:=by obtain ⟨es,ck,h1,_⟩:=hmp; exact lt_of_heap h1
  exact ⟨b,hb,hmp.mono (hg.block b hlt) hr fun o=>hno _ _ hlt (by obtain ⟨es,ck,_,_,h3⟩:=hmp; exact h3 o)⟩
 | mpz ks us=>obtain ⟨b,hb,hmp⟩:=this; exact ⟨b,hb,hr hmp⟩
theorem SRx.setTmp (h:SRx gl En x w V l l0 ts st) {v:Value} {c:AV S} (d:Nat) (hr:Rep w V l0 v c) :
  SRx gl En x w V l l0 (ts.setIfInBounds d v) { st with tmps:=st.tmps.set d c }:=by
 refine ⟨h.le,h.cb,h.inv,h.g,h.vlt,h.vem,by simp [h.sz],fun i c' hi=>?_,h.seg,h.up,h.rego,h.regt,h.mine,h.dis⟩
 simp only at hi
 rw [List.getElem?_set] at hi
 by_cases hd:d=i
 ·subst hd
  rw [if_pos rfl] at hi
  split at hi
  ·cases hi
   rename_i hlt
   have:(ts.setIfInBounds d v).getD d Go.undef=v:=by
    simp [Array.getD,h.sz,hlt]
   rw [this]; exact hr
  cases hi
 rw [if_neg hd] at hi
 have:(ts.setIfInBounds d v).getD i Go.undef=ts.getD i Go.undef:=by
  simp only [Array.getD_eq_getD_getElem?,Array.getElem?_setIfInBounds,if_neg hd]
 rw [this]; exact h.tmps i c' hi
theorem SRx.tmp (h:SRx gl En x w V l l0 ts st) (i:Nat):Rep w V l0 (ts.getD i Go.undef) (st.tmps.getD i .undef):=by
 rcases Nat.lt_or_ge i st.tmps.length with hi | hi
 ·have:=h.tmps i st.tmps[i] (by simp [hi])
  rw [List.getD_eq_getElem?_getD,List.getElem?_eq_getElem hi]; exact this
 rw [List.getD_eq_getElem?_getD,List.getElem?_eq_none hi]; exact .flat trivial (.nil _)
end
end Go.Ab
namespace Go.Ab
open Go
theorem stepOff_elim:∀ (k:Nat) (p:List Stp) (K:List Stp→Prop),stepOff k p K→∃ q,poff q=poff p+k∧K q
 | k,[],K,h=>by
  simp only [stepOff] at h
  cases hb:Nat.beq k 0 with
  | true=>simp only [hb] at h; have:=Nat.eq_of_beq_eq_true hb; subst this; exact ⟨[],rfl,h⟩
  | false=>simp only [hb] at h; exact ⟨_,by simp [poff],h⟩
 | k,[.off j],K,h=>⟨_,by simp [poff],h⟩
 | k,[.idx i es],K,h=>by
  simp only [stepOff] at h
  cases hb:Nat.beq k 0 with
  | true=>simp only [hb] at h; have:=Nat.eq_of_beq_eq_true hb; subst this; exact ⟨_,rfl,h⟩
  | false=>simp only [hb] at h; exact ⟨_,by simp [poff],h⟩
 | k,.off j :: s :: p,K,h=>by
  simp only [stepOff] at h
  obtain ⟨q,hq,hK⟩:=stepOff_elim k (s :: p) _ h
  exact ⟨_,by simp only [poff] at hq ⊢; omega,hK⟩
 | k,.idx i es :: s :: p,K,h=>by
  simp only [stepOff] at h
  obtain ⟨q,hq,hK⟩:=stepOff_elim k (s :: p) _ h
  exact ⟨_,by simp only [poff] at hq ⊢; omega,hK⟩
theorem getI_some {α:Type} {xs:List α} {i:Int} {a:α} (h:getI xs i=some a):0≤i∧xs[i.toNat]?=some a:=by
 cases i with
 | ofNat n=>exact ⟨Int.natCast_nonneg n,h⟩
 | negSucc n=>cases h
variable {S:Sig} [Cod S]
theorem overK_elim {cs vs:List (AV S)} {K:List (AV S)→Prop} (h:overK cs vs K):∃ a b,cs=a++b∧widths a=widths vs∧K (vs++b):=by
 unfold overK at h
 obtain ⟨a,b,rfl,hw,h⟩:=dropK_elim h
 rw [appK_eq] at h
 exact ⟨a,b,rfl,hw,h⟩
theorem readK_elim [LawCod S]:∀ (p:List Stp) (cs:List (AV S)) (K:List (AV S)→Prop),readK cs p K→∃ ds,K ds ∧
  ∀ w V l ws,Reps w V l ws cs→∃ wa wb wc,ws=wa++wb++wc∧wa.length=poff p∧Reps w V l wb ds
 | [],cs,K,h=>⟨cs,by simpa [readK] using h,fun w V l ws hr=>⟨[],ws,[],by simp,rfl,hr⟩⟩
 | .off k :: p,cs,K,h=>by
  rw [readK] at h
  obtain ⟨a,b,rfl,hw,h⟩:=dropK_elim h
  obtain ⟨ds,hK,hd⟩:=readK_elim p b K h
  refine ⟨ds,hK,fun w V l ws hr=>?_⟩
  obtain ⟨va,vb,rfl,h1,h2⟩:=hr.split a
  obtain ⟨wa,wb,wc,rfl,h3,h4⟩:=hd w V l vb h2
  exact ⟨va++wa,wb,wc,by simp [List.append_assoc],by rw [List.length_append,h1.length,hw,h3]; rfl,h4⟩
 | .idx i es :: p,[],K,h=>h.elim
 | .idx i es :: p,c :: rest,K,h=>by
  cases c <;> try exact h.elim
  case arr u n xs =>
   simp only [readK] at h
   cases hb:Nat.beq es (Cod.size u) with
   | false=>simp [hb] at h
   | true =>
    simp only [hb] at h
    have hes:=Nat.eq_of_beq_eq_true hb
    obtain ⟨x,hx,h⟩:=h
    obtain ⟨_,hx⟩:=getI_some hx
    obtain ⟨ds,hK,hd⟩:=readK_elim p _ K h
    refine ⟨ds,hK,fun w V l ws hr=>?_⟩
    cases hr with
    | flat hf _=>exact hf.elim
    | @arr _ _ _ _ ws' vs' _ hn r t =>
     obtain ⟨va,vm,vb,rfl,hl,hm⟩:=r.elem hx
     obtain ⟨wa,wb,wc,rfl,h3,h4⟩:=hd w V _ vm hm
     exact ⟨va++wa,wb,wc++vb++vs',by simp [List.append_assoc],by rw [List.length_append,hl,h3,hes]; rfl,h4.of_none l⟩
theorem writeK_elim [LawCod S]:∀ (p:List Stp) (cs vs:List (AV S)) (K:List (AV S)→Prop),writeK cs p vs K→∃ cs',K cs' ∧
  ∀ w V l ws nv,Reps w V l ws cs→Reps w V l nv vs→∃ wa wm wb,ws=wa++wm++wb∧wa.length=poff p∧wm.length=nv.length∧Reps w V l (wa++nv++wb) cs'
 | [],cs,vs,K,h=>by
  rw [writeK] at h
  obtain ⟨a,b,rfl,hw,h⟩:=overK_elim h
  refine ⟨_,h,fun w V l ws nv hr hn=>?_⟩
  obtain ⟨va,vb,rfl,h1,h2⟩:=hr.split a
  exact ⟨[],va,vb,by simp,rfl,by rw [h1.length,hn.length,hw],by simpa using hn.append h2⟩
 | .off k :: p,cs,vs,K,h=>by
  rw [writeK] at h
  obtain ⟨a,b,rfl,hw,h⟩:=splitK_elim _ _ _ _ h
  obtain ⟨b',hK,hd⟩:=writeK_elim p b vs _ h
  rw [appK_eq] at hK
  refine ⟨_,hK,fun w V l ws nv hr hn=>?_⟩
  obtain ⟨va,vb,rfl,h1,h2⟩:=hr.split a
  obtain ⟨wa,wm,wb,rfl,h3,h4,h5⟩:=hd w V l vb nv h2 hn
  exact ⟨va++wa,wm,wb,by simp [List.append_assoc],by rw [List.length_append,h1.length,hw,h3]; rfl,h4,by simpa [List.append_assoc] using h1.append h5⟩
 | .idx i es :: p,[],vs,K,h=>h.elim
 | .idx i es :: p,c :: rest,vs,K,h=>by
  cases c <;> try exact h.elim
  case arr u n xs =>
   simp only [writeK] at h
   cases hb:Nat.beq es (Cod.size u) with
   | false=>simp [hb] at h
   | true =>
    simp only [hb] at h
    have hes:=Nat.eq_of_beq_eq_true hb
    obtain ⟨x,hx,h⟩:=h
    obtain ⟨_,hx⟩:=getI_some hx
    obtain ⟨cs',⟨x',hx',hK⟩,hd⟩:=writeK_elim p _ vs _ h
    refine ⟨_,hK,fun w V l ws nv hr hn=>?_⟩
    cases hr with
    | flat hf _=>exact hf.elim
    | @arr _ _ _ _ ws' vs' _ hxn r t =>
     obtain ⟨va,vm,vb,rfl,hl,hm⟩:=r.elem hx
     obtain ⟨wa,wm,wb,rfl,h3,h4,h5⟩:=hd w V l vm nv (hm.of_none l) hn
     have h6:=LawCod.back u cs' x' hx' w V l _ h5
     have hvm:(wa++wm++wb).length=Cod.size u:=by rw [hm.length,LawCod.width]
     have h7:=Reps.set_elem r (i:=i.toNat) (x:=x') (vn:=wa++nv++wb) (List.getElem?_eq_some_iff.1 hx).1 hl hvm h6
     refine ⟨va++wa,wm,wb++vb++vs',by simp [List.append_assoc],by rw [List.length_append,hl,h3,hes]; rfl,h4,?_⟩
     have h8:=Reps.arr (n:=n) (by simp [hxn]) h7 t
     simpa [List.append_assoc,setI] using h8
theorem isAgg_false {P:Program} {t:TypeId} {w:World} {d:TypeDesc} (h:P.underlying t=some d) (hd:match d with | .struct _=>False | .array _ _=>False | _=>True):(isAgg t).run P w=.ok false w:=by
 cases d <;> first | exact hd.elim | simp [isAgg,run_underlying h,Result.andThen,Sem.run,pure]
def TK.isAgg:TK S→Bool
 | .struct _=>true
 | .array _ _=>true
 | _=>false
theorem run_isAgg {P:Program} {t:Nat} {k:TK S} {w:World} (h:KindOk P t k):(Go.isAgg t).run P w=.ok k.isAgg w:=by
 cases k with
 | bool=>exact isAgg_false h trivial
 | int k=>exact isAgg_false h trivial
 | str=>exact isAgg_false h trivial
 | ptr=>obtain ⟨e,h⟩:=h; exact isAgg_false h trivial
 | func=>obtain ⟨a,b,c,h⟩:=h; exact isAgg_false h trivial
 | struct fs=>obtain ⟨fds,places,h,_⟩:=h; exact run_isAgg_struct h
 | array u n=>obtain ⟨e,i,h,_⟩:=h; exact run_isAgg_array h
 | slice u b ez=>obtain ⟨e,i,z,h,_⟩:=h; exact isAgg_false h trivial
 | map=>obtain ⟨k,e,h⟩:=h; exact isAgg_false h trivial
def NotArr:AV S→Prop
 | .arr ..=>False
 | _=>True
theorem Reps.head {w:World} {V:Nat→Nat→Prop} {l:Loc} {ws:List Value} {c:AV S} {cs:List (AV S)} (h:Reps w V l ws (c :: cs)) (hc:NotArr c) :
  ∃ v vs,ws=v :: vs∧Rep w V l v c∧Reps w V l vs cs:=by
 cases h with
 | flat h t=>exact ⟨_,_,rfl,.flat h (.nil _),t⟩
 | ref h r t=>exact ⟨_,_,rfl,.ref h r (.nil _),t⟩
 | sl h r hcp t=>exact ⟨_,_,rfl,.sl h r hcp (.nil _),t⟩
 | tok ht h r hcp t=>exact ⟨_,_,rfl,.tok ht h r hcp (.nil _),t⟩
 | clo r r' t=>exact ⟨_,_,rfl,.clo r r' (.nil _),t⟩
 | agg r t=>exact ⟨_,_,rfl,.agg r (.nil _),t⟩
 | tup r t=>exact ⟨_,_,rfl,.tup r (.nil _),t⟩
 | arr hx r t=>exact hc.elim
 | mpf hv hm hb r r' t=>exact ⟨_,_,rfl,.mpf hv hm hb r r' (.nil _),t⟩
theorem oneK_elim {cs:List (AV S)} {K:AV S→Prop} (h:oneK cs K):∃ c,K c∧∀ w V l ws,Reps w V l ws cs→∃ v vs,ws=v :: vs∧Rep w V l v c:=by
 unfold oneK at h
 cases cs with
 | nil=>exact h.elim
 | cons c cs =>
  simp only at h
  have hc:NotArr c:=by cases c <;> first | trivial | exact h.elim
  have hK:K c:=by cases c <;> first | exact h | exact h.elim
  refine ⟨c,hK,fun w V l ws hr=>?_⟩
  obtain ⟨v,vs,e,h1,_⟩:=hr.head hc
  exact ⟨v,vs,e,h1⟩
theorem valK_elim [LawCod S] {ty:TyI S} {cs:List (AV S)} {K:AV S→Prop} (h:valK ty cs K):∃ c,K c∧∀ w V l ws,Reps w V l ws cs →
  match ty.kind.isAgg with
  | true=>∃ wa wb,ws=wa++wb∧wa.length=ty.size∧Rep w V l (.agg wa.toArray) c
  | false=>∃ v vs,ws=v :: vs∧Rep w V l v c:=by
 unfold valK at h
 have hagg:(takeK cs ty.size fun l=>K (.agg l))→∃ c,K c∧∀ w V l ws,Reps w V l ws cs→∃ wa wb,ws=wa++wb∧wa.length=ty.size∧Rep w V l (.agg wa.toArray) c:=by
  intro h
  obtain ⟨a,b,rfl,hw,h⟩:=takeK_elim h
  refine ⟨_,h,fun w V l ws hr=>?_⟩
  obtain ⟨va,vb,rfl,h1,_⟩:=hr.split a
  exact ⟨va,vb,rfl,by rw [h1.length,hw],.agg (by simpa using h1) (.nil _)⟩
 cases hk:ty.kind with
 | struct fs=>simp only [hk] at h; simpa [TK.isAgg] using hagg h
 | array u n=>simp only [hk] at h; simpa [TK.isAgg] using hagg h
 | bool=>simp only [hk] at h; simpa [TK.isAgg] using oneK_elim h
 | int k=>simp only [hk] at h; simpa [TK.isAgg] using oneK_elim h
 | str=>simp only [hk] at h; simpa [TK.isAgg] using oneK_elim h
 | ptr=>simp only [hk] at h; simpa [TK.isAgg] using oneK_elim h
 | func=>simp only [hk] at h; simpa [TK.isAgg] using oneK_elim h
 | slice u b ez=>simp only [hk] at h; simpa [TK.isAgg] using oneK_elim h
 | map=>simp only [hk] at h; simpa [TK.isAgg] using oneK_elim h
theorem valK_load [LawCod S] {P:Program} {t:Nat} {ty:TyI S} {cs:List (AV S)} {K:AV S→Prop} (hty:TyOk P t ty) (h:valK ty cs K) :
  ∃ c,K c∧∀ w V l ws b o,Reps w V l ws cs→(∀ k v,ws[k]?=some v→w.cell? ⟨b,o+k,none⟩=some v)→∃ v,(loadVar t ⟨b,o,none⟩).run P w=.ok v w∧Rep w V l v c:=by
 obtain ⟨c,hK,hd⟩:=valK_elim h
 refine ⟨c,hK,fun w V l ws b o hr hc=>?_⟩
 obtain ⟨i,z,hi,hs,_⟩:=hty.info
 have hag:=run_isAgg (w:=w) hty.kind
 have hd:=hd w V l ws hr
 cases hk:ty.kind.isAgg with
 | true =>
  rw [hk] at hd hag
  obtain ⟨wa,wb,rfl,hl,hrep⟩:=hd
  refine ⟨_,?_,hrep⟩
  have h1:=run_loadCells (P:=P) (w:=w) (b:=b) (o:=o) (ws:=wa) fun k v hk=>hc k v (by rw [List.getElem?_append_left (List.getElem?_eq_some_iff.1 hk).1]; exact hk)
  simp only [loadVar,Sem.run_bind,hag,Result.andThen,if_true,run_sizeOf hi,hs,←hl,h1]
  simp [pure]
 | false =>
  rw [hk] at hd hag
  obtain ⟨v,vs,rfl,hrep⟩:=hd
  refine ⟨v,?_,hrep⟩
  have h1:=hc 0 v rfl
  simp only [loadVar,Sem.run_bind,hag,Result.andThen]
  simpa using run_load (P:=P) h1
end Go.Ab
namespace Go.Ab
open Go
def Loc.setOwn (l:Loc) (d b:Nat):Loc:={ l with own:=fun k=>if k=d then some b else l.own k }
def Loc.setTok (l:Loc) (d:Nat) (t:Tk):Loc:={ l with tok:=fun k=>if k=d then some t else l.tok k }
def Loc.untok (l:Loc) (ds:List Nat):Loc:={ l with tok:=fun k=>if memb ds k=true then Option.none else l.tok k }
theorem Loc.le_setOwn {l:Loc} {d b:Nat} (h:l.own d=Option.none):l.le (l.setOwn d b):=by
 refine ⟨fun k b' e=>?_,fun _ _ h=>h,fun _ _ h=>h,fun _ h=>h⟩
 simp only [Loc.setOwn]
 by_cases hk:k=d
 ·subst hk; rw [h] at e; cases e
 rw [if_neg hk]; exact e
theorem Loc.le_setTok {l:Loc} {d:Nat} {t:Tk} (h:l.tok d=Option.none):l.le (l.setTok d t):=by
 refine ⟨fun _ _ h=>h,fun _ _ h=>h,fun k b' e=>?_,fun _ h=>h⟩
 simp only [Loc.setTok]
 by_cases hk:k=d
 ·subst hk; rw [h] at e; cases e
 rw [if_neg hk]; exact e
theorem Loc.setTok_le {l l':Loc} {d:Nat} {t:Tk} (h:l.le l'):(l.setTok d t).le (l'.setTok d t):=by
 refine ⟨h.own,h.up,fun k b' e=>?_,h.cbv⟩
 simp only [Loc.setTok] at e ⊢
 by_cases hk:k=d
 ·rw [if_pos hk] at e ⊢; exact e
 rw [if_neg hk] at e ⊢; exact h.tok _ _ e
theorem Loc.untok_le (l:Loc) (ds:List Nat):(l.untok ds).le l:=by
 refine ⟨fun _ _ h=>h,fun _ _ h=>h,fun k t e=>?_,fun _ h=>h⟩
 simp only [Loc.untok] at e
 split at e
 ·cases e
 exact e
variable {S:Sig} [Cod S]
variable {X:Type} {gl:Gl} {En:Env X} {x:X} {w w':World} {V V':Nat→Nat→Prop} {l l0:Loc} {ts:Array Value} {st:St S}
theorem Reps.more {vs:List Value} {cs:List (AV S)} {l l':Loc} (h:Reps w V l vs cs) (hV:∀ b o,V b o→V' b o) (hl:l.le l'):Reps w V' l' vs cs :=
 h.mono hV (fun _ _ _=>rfl) l' hl fun _ _ _ _ _ _ _=>rfl
theorem CellsAt.more {b o:Nat} {ws:List Value} (h:CellsAt w V b o ws) (hV:∀ b o,V b o→V' b o):CellsAt w V' b o ws:=h.mono hV fun _ _ _=>rfl
theorem SRx.turn (h:SRx gl En x w V l l0 ts st) {d:Nat} {ao:AO S} {l' l0':Loc} (hle:l0'.le l') (hl0:l0.le l0')
  (hown:∀ k,k≠d→l'.own k=l.own k) (htok:∀ k,k≠d→l'.tok k=l.tok k) (hup:l'.up=l.up) (hcb:l'.cbv=l.cbv)
  (hV:∀ b o,V b o→V' b o) (hV':∀ b o,V' b o→V b o∨(b < w.heap.size∧¬ En.E x b∧∀ k d',Mut l st k d' b→k=false∧d'=d))
  (hob:ObOk w V' l' l0' d ao) (hnew:∀ b,MutO l' d ao b→¬ En.E x b∧gl.g0≤b∧∀ k d',Mut l st k d' b→k=false∧d'=d)
  (hro:∀ b,l'.own d=some b→BoxO ao) (hrt:∀ t,l'.tok d=some t→∃ u f,ao=.row u f) :
  SRx gl En x w V' l' l0' ts { st with seg:=putA st.seg d ao }:=by
 have hno:∀ {k d' b},Mut l st k d' b→(k,d')≠(false,d)→∀ o,¬ V b o→¬ V' b o:=fun hm hne o hn hv =>
  (hV' _ o hv).elim hn fun h2=>hne (by have:=h2.2.2 _ _ hm; rw [this.1,this.2])
 have hlook:∀ d',d'≠d→lookA (putA st.seg d ao) d'=lookA st.seg d':=fun d' hd=>by rw [lookA_putA,if_neg (Ne.symm hd)]
 have hsame:lookA (putA st.seg d ao) d=some ao:=by rw [lookA_putA,if_pos rfl]
 have hmut:∀ {d' ao' b},d'≠d→MutO l' d' ao' b→MutO l d' (ao':AO S) b:=by
  intro d' ao' b hd hm
  cases ao' with
  | cells cs=>simp only [MutO] at hm ⊢; rwa [hown _ hd] at hm
  | frz cs=>exact hm
  | row u f=>simp only [MutO] at hm ⊢; rwa [htok _ hd] at hm
  | mp kvs=>simp only [MutO] at hm ⊢; rwa [hown _ hd] at hm
  | mpz ks us=>exact hm.elim
 have hM:∀ {k d' b},Mut l' { st with seg:=putA st.seg d ao } k d' b→(k,d')≠(false,d)→Mut l st k d' b:=by
  intro k d' b hm hne
  cases k with
  | false =>
   obtain ⟨ao',h1,h2⟩:=hm
   have hd:d'≠d:=fun e=>hne (by rw [e])
   simp only at h1
   rw [hlook _ hd] at h1
   exact ⟨ao',h1,hmut hd h2⟩
  | true=>obtain ⟨cs,h1,hu,h2⟩:=hm; exact ⟨cs,h1,hu,by rwa [hup] at h2⟩
 have hMd:∀ {b},Mut l' { st with seg:=putA st.seg d ao } false d b→MutO l' d ao b:=by
  rintro b ⟨ao',h1,h2⟩
  simp only at h1
  rw [hsame] at h1; cases h1; exact h2
 refine ⟨hle,h.cb.mono hcb hup (fun d b _ h=>hl0.own d b h) hV (fun _ _ _=>rfl),h.inv,h.g,fun b o hv=>(hV' b o hv).elim (h.vlt b o) fun h2=>h2.1,fun b o hv hem=>(hV' b o hv).elim (fun h1=>h.vem b o h1 hem) fun h2=>h2.2.1 (En.emE _ _ _ hem),
  h.sz,fun i c hi=>(h.tmps i c hi).more hV hl0,fun d' ao' hd=>?_,fun d' ao' hd=>?_,fun d' b hb=>?_,fun d' t ht=>?_,fun k d' b hm=>?_,fun k d1 k' d2 b h1 h2=>?_⟩
 ·by_cases hdd:d'=d
  ·subst hdd; simp only at hd; rw [hsame] at hd; cases hd; exact hob
  simp only at hd
  rw [hlook _ hdd] at hd
  have:=h.seg d' ao' hd
  cases ao' with
  | cells cs =>
   obtain ⟨b,hb,c,el,h1,h2,h3⟩:=this
   exact ⟨b,by rw [hown _ hdd]; exact hb,c,el,h1,h2.more hV hl0,fun o=>hno (k:=false) ⟨_,hd,hb⟩ (by simpa using hdd) o (h3 o)⟩
  | frz cs =>
   obtain ⟨b,ws,hb,h1,h2⟩:=this
   exact ⟨b,ws,by rw [hown _ hdd]; exact hb,h1.more hV,h2.more hV (Loc.le_refl _)⟩
  | row u f =>
   obtain ⟨t,ht,h1⟩:=this
   refine ⟨t,by rw [htok _ hdd]; exact ht,?_⟩
   cases t with
   | no=>trivial
   | «at» b n cap =>
    obtain ⟨c,el,h2,h3,h4,h5⟩:=h1
    have hm:Mut l st false d' b:=⟨_,hd,n,cap,ht⟩
    refine ⟨c,el,h2,h3,h4,?_⟩
    cases f with
    | true=>exact fun o=>hno hm (by simpa using hdd) o (h5 o)
    | false=>exact fun o=>⟨fun hv=>(hV' b o hv).elim (h5 o).1 fun h6=>absurd (h6.2.2 _ _ hm).2 hdd,fun ho=>hV _ _ ((h5 o).2 ho)⟩
  | mp kvs =>
   obtain ⟨b,hb,hmp⟩:=this
   exact ⟨b,by rw [hown _ hdd]; exact hb,hmp.mono rfl (fun h=>h.more hV (Loc.le_refl _)) fun o=>hno (k:=false) ⟨_,hd,hb⟩ (by simpa using hdd) o (by obtain ⟨es,ck,_,_,h3⟩:=hmp; exact h3 o)⟩
  | mpz ks us=>obtain ⟨b2,hb2,hmz⟩:=this; exact ⟨b2,by rw [hown _ hdd]; exact hb2,(fun h=>h.more hV (Loc.le_refl _)) hmz⟩
 ·have:=h.up d' ao' hd
  cases ao' with
  | cells cs =>
   obtain ⟨b,hb,c,el,h1,h2,h3⟩:=this
   exact ⟨b,by rw [hup]; exact hb,c,el,h1,h2.more hV (Loc.notok_le hl0),fun o=>hno (k:=true) ⟨_,hd,trivial,hb⟩ (by simp) o (h3 o)⟩
  | frz cs =>
   obtain ⟨b,ws,hb,h1,h2⟩:=this
   exact ⟨b,ws,by rw [hup]; exact hb,h1.more hV,h2.more hV (Loc.le_refl _)⟩
  | row u f=>trivial
  | mp kvs =>
   obtain ⟨b,hb,hmp⟩:=this
   exact ⟨b,by rw [hup]; exact hb,hmp.mono rfl (fun h=>h.more hV (Loc.le_refl _)) fun o=>hno (k:=true) ⟨_,hd,trivial,hb⟩ (by simp) o (by obtain ⟨es,ck,_,_,h3⟩:=hmp; exact h3 o)⟩
  | mpz ks us=>obtain ⟨b2,hb2,hmz⟩:=this; exact ⟨b2,by rw [hup]; exact hb2,(fun h=>h.more hV (Loc.le_refl _)) hmz⟩
 ·by_cases hdd:d'=d
  ·subst hdd
   exact ⟨ao,hsame,hro b hb⟩
  rw [hown _ hdd] at hb
  simp only [hlook _ hdd]
  exact h.rego d' b hb
 ·by_cases hdd:d'=d
  ·subst hdd
   obtain ⟨u,f,hc⟩:=hrt t ht
   exact ⟨u,f,by rw [←hc]; exact hsame⟩
  rw [htok _ hdd] at ht
  simp only [hlook _ hdd]
  exact h.regt d' t ht
 ·by_cases hne:(k,d')=(false,d)
  ·cases hne; exact ⟨(hnew b (hMd hm)).1,(hnew b (hMd hm)).2.1⟩
  exact h.mine k d' b (hM hm hne)
 by_cases hn1:(k,d1)=(false,d)
 ·by_cases hn2:(k',d2)=(false,d)
  ·cases hn1; cases hn2; exact ⟨rfl,rfl⟩
  cases hn1
  have:=(hnew b (hMd h1)).2.2 _ _ (hM h2 hn2)
  exact absurd (by rw [this.1,this.2]) hn2
 by_cases hn2:(k',d2)=(false,d)
 ·cases hn2
  have:=(hnew b (hMd h2)).2.2 _ _ (hM h1 hn1)
  exact absurd (by rw [this.1,this.2]) hn1
 exact h.dis k d1 k' d2 b (hM h1 hn1) (hM h2 hn2)
theorem SRx.no_mut (h:SRx gl En x w V l l0 ts st) {b:Nat} (hb:w.heap.size≤b) (k:Bool) (d:Nat):¬ Mut l st k d b:=fun hm=>by
 obtain ⟨o,hc⟩:=h.mlt hm
 exact absurd (lt_of_heap hc) (by omega)
theorem SRx.write (h:SRx gl En x w V l l0 ts st) {d b:Nat} {cs cs':List (AV S)} (hd:lookA st.seg d=some (.cells cs)) (ho:l.own d=some b) {c:Array Value} {el:TypeId}
  (hr:Reps w V l0 c.toList cs'):SRx gl En x (putRow w b c el) V l l0 ts { st with seg:=putA st.seg d (.cells cs') }:=by
 have hm:Mut l st false d b:=⟨_,hd,ho⟩
 obtain ⟨b',hb',c0,el0,h1,h2,h3⟩:=h.seg _ _ hd
 rw [ho] at hb'; cases hb'
 have hb:=lt_of_heap h1
 have hVb:∀ b' o,V b' o→b'≠b:=fun b' o hv e=>h3 o (e ▸ hv)
 have hc:∀ b' o,V b' o→eye (putRow w b c el) b' o=eye w b' o:=fun b' o hv=>cell_congr (by rw [putRow_heap,if_neg]; exact fun e=>hVb b' o hv e.1) o
 have htk:∀ {l1:Loc},l1.le l→∀ d' b' n cap,l1.tok d'=some (.at b' n cap)→b'≠b:=fun hl1 d' b' n cap ht e=>by
  obtain ⟨u,f,hreg⟩:=h.regt _ _ (hl1.tok _ _ ht)
  have:=h.dis false d' false d b ⟨_,hreg,n,cap,e ▸ hl1.tok _ _ ht⟩ hm
  rw [this.2,hd] at hreg; cases hreg
 have hrep:∀ {l1:Loc} {vs:List Value} {es:List (AV S)},(∀ d t,l1.tok d=some t→l.tok d=some t)→Reps w V l1 vs es→Reps (putRow w b c el) V l1 vs es:=fun hl1 hr =>
  hr.mono (fun _ _ h=>h) hc _ (Loc.le_refl _) fun d' b' n cap ht o _=>cell_congr (by rw [putRow_heap,if_neg]; exact fun e=>htk (Loc.le_refl _) d' b' n cap (hl1 _ _ ht) e.1) o
 have hblk:∀ b',b'≠b→(putRow w b c el).heap[b']?=w.heap[b']?:=fun b' hne=>by rw [putRow_heap,if_neg]; exact fun e=>hne e.1
 have hat:∀ {b' o:Nat} {ws:List Value},CellsAt w V b' o ws→CellsAt (putRow w b c el) V b' o ws:=fun h=>h.mono (fun _ _ h=>h) hc
 have hrn:∀ {vs:List Value} {es:List (AV S)},Reps w V Loc.none vs es→Reps (putRow w b c el) V Loc.none vs es:=fun hr =>
  hr.mono (fun _ _ h=>h) hc _ (Loc.le_refl _) fun d' b' n cap ht=>by simp [Loc.none] at ht
 have hk:=Keep.putRow (h.mine _ _ _ hm).1 c el (w:=w)
 have hMM:∀ {k d' b'},Mut l { st with seg:=putA st.seg d (.cells cs') } k d' b'→Mut l st k d' b':=by
  intro k d' b' hm'
  cases k with
  | false =>
   obtain ⟨ao',h4,h5⟩:=hm'
   simp only [lookA_putA] at h4
   by_cases hdd:d=d'
   ·subst hdd; rw [if_pos rfl] at h4; cases h4; exact ⟨_,hd,h5⟩
   rw [if_neg hdd] at h4; exact ⟨_,h4,h5⟩
  | true=>exact hm'
 refine ⟨h.le,h.cb.world (fun _ _ h=>h) hc,En.stable _ _ _ h.inv hk,gl.st _ _ h.g hk.size fun b' hb' o=>cell_congr (hblk b' fun e=>by have:=(h.mine _ _ _ hm).2; omega) o,
  fun b' o hv=>by rw [putRow_size]; exact h.vlt b' o hv,h.vem,h.sz,fun i c' hi=>hrep h.le.tok (h.tmps i c' hi),fun d' ao' hd'=>?_,fun d' ao' hd'=>?_,fun d' b' hb'=>?_,fun d' t ht=>?_,
  fun k d' b' hm'=>h.mine k d' b' (hMM hm'),fun k d1 k' d2 b' h4 h5=>h.dis k d1 k' d2 b' (hMM h4) (hMM h5)⟩
 ·simp only [lookA_putA] at hd'
  by_cases hdd:d=d'
  ·subst hdd; rw [if_pos rfl] at hd'; cases hd'
   exact ⟨b,ho,c,el,by rw [putRow_heap,if_pos ⟨rfl,hb⟩],hrep h.le.tok hr,h3⟩
  rw [if_neg hdd] at hd'
  have:=h.seg d' ao' hd'
  cases ao' with
  | cells es =>
   obtain ⟨b',hb',c',el',h4,h5,h6⟩:=this
   have hne:b'≠b:=fun e=>hdd (h.dis false d false d' b hm ⟨_,hd',e ▸ hb'⟩).2
   exact ⟨b',hb',c',el',by rw [hblk _ hne]; exact h4,hrep h.le.tok h5,h6⟩
  | frz es =>
   obtain ⟨b',ws,hb',h4,h5⟩:=this
   exact ⟨b',ws,hb',hat h4,hrn h5⟩
  | row u f =>
   obtain ⟨t,ht,h4⟩:=this
   refine ⟨t,ht,?_⟩
   cases t with
   | no=>trivial
   | «at» b' n cap =>
    obtain ⟨c',el',h5,h6⟩:=h4
    exact ⟨c',el',by rw [hblk _ (htk (Loc.le_refl _) _ _ _ _ ht)]; exact h5,h6⟩
  | mp kvs =>
   obtain ⟨b',hb',hmp⟩:=this
   have hne:b'≠b:=fun e=>hdd (h.dis false d false d' b hm ⟨_,hd',e ▸ hb'⟩).2
   exact ⟨b',hb',hmp.mono (hblk _ hne) hrn fun o=>by obtain ⟨es,ck,_,_,h3⟩:=hmp; exact h3 o⟩
  | mpz ks us=>obtain ⟨b2,hb2,hmz⟩:=this; exact ⟨b2,hb2,hrn hmz⟩
 ·have:=h.up d' ao' hd'
  cases ao' with
  | cells es =>
   obtain ⟨b',hb',c',el',h4,h5,h6⟩:=this
   have hne:b'≠b:=fun e=>by have:=(h.dis false d true d' b hm ⟨_,hd',trivial,e ▸ hb'⟩).1; cases this
   exact ⟨b',hb',c',el',by rw [hblk _ hne]; exact h4,hrep (fun _ _ e=>by simp [Loc.notok] at e) h5,h6⟩
  | frz es =>
   obtain ⟨b',ws,hb',h4,h5⟩:=this
   exact ⟨b',ws,hb',hat h4,hrn h5⟩
  | row u f=>trivial
  | mp kvs =>
   obtain ⟨b',hb',hmp⟩:=this
   have hne:b'≠b:=fun e=>by have:=(h.dis false d true d' b hm ⟨_,hd',trivial,e ▸ hb'⟩).1; cases this
   exact ⟨b',hb',hmp.mono (hblk _ hne) hrn fun o=>by obtain ⟨es,ck,_,_,h3⟩:=hmp; exact h3 o⟩
  | mpz ks us=>obtain ⟨b2,hb2,hmz⟩:=this; exact ⟨b2,hb2,hrn hmz⟩
 ·obtain ⟨es,h4⟩:=h.rego d' b' hb'
  by_cases hdd:d=d'
  ·subst hdd; exact ⟨.cells cs',by simp [lookA_putA],trivial⟩
  exact ⟨es,by simp only [lookA_putA,if_neg hdd]; exact h4⟩
 obtain ⟨u,f,h4⟩:=h.regt d' t ht
 refine ⟨u,f,?_⟩
 simp only [lookA_putA]
 by_cases hdd:d=d'
 ·subst hdd; rw [hd] at h4; cases h4
 rw [if_neg hdd]; exact h4
end Go.Ab
namespace Go.Ab
open Go
variable {S:Sig}
theorem Flat.untok [Cod S] {v:Value} {c:AV S} {ds:List Nat} {l:Loc} (h:Flat l v c) (hc:match c with | .sl _ _ (some d)=>memb ds d=false | .elp _ d _ _=>memb ds d=false | _=>True):Flat (l.untok ds) v c:=by
 cases c <;> try exact h
 case elp u d i p=>obtain ⟨b,n,cap,h1,h2⟩:=h; exact ⟨b,n,cap,⟨by simp only [Loc.untok,hc]; exact h1.1,h1.2⟩,h2⟩
 case sl u xs o =>
  cases o with
  | none=>exact h
  | some d=>exact ⟨h.1,by simp only [Loc.untok,hc]; exact h.2.1,h.2.2⟩
def ObR (R:AV S→AV S→Prop) (p p':Nat×AO S):Prop:=p.1=p'.1 ∧
 match p.2,p'.2 with
 | .cells cs,.cells cs'=>All2 R cs cs'
 | .frz cs,.frz cs'=>cs=cs'
 | .row u f,.row u' f'=>u=u'∧f=f'
 | .mp kvs,.mp kvs'=>kvs=kvs'
 | .mpz ks us,.mpz ks' us'=>ks=ks'∧us=us'
 | _,_=>False
theorem lookA_all2 {R:AV S→AV S→Prop} {sg sg':List (Nat×AO S)} (h:All2 (ObR R) sg sg') (d:Nat) :
  match lookA sg d,lookA sg' d with
  | some ao,some ao'=>ObR R (d,ao) (d,ao')
  | none,none=>True
  | _,_=>False:=by
 induction h with
 | nil=>trivial
 | @cons p p' sg sg' hp _ ih =>
  obtain ⟨k,ao⟩:=p
  obtain ⟨k',ao'⟩:=p'
  obtain ⟨rfl,h2⟩:=hp
  simp only [lookA]
  by_cases hk:k=d
  ·subst hk; simp only [if_true]; exact ⟨rfl,h2⟩
  simp only [if_neg hk]; exact ih
variable [Cod S]
variable {X:Type} {gl:Gl} {En:Env X} {x:X} {w w':World} {V V':Nat→Nat→Prop} {l l0:Loc} {ts:Array Value} {st:St S}
def Shared (V:Nat→Nat→Prop) (l:Loc) (ds:List Nat):Prop:=∀ d,memb ds d=true→∀ b n cap,l.tok d=some (.at b n cap)→∀ o,o < n→V b o
theorem Reps.list {R:AV S→AV S→Prop} {l l':Loc} (hR:∀ c c',R c c'→∀ ws,Reps w V l ws [c]→Reps w V l' ws [c']) :
  ∀ {cs cs':List (AV S)},All2 R cs cs'→∀ ws,Reps w V l ws cs→Reps w V l' ws cs'
 | _,_,.nil,ws,h=>by rw [h.nil_inv]; exact .nil _
 | _,_,.cons h1 h2,ws,h=>by
  obtain ⟨va,vb,rfl,ha,hb⟩:=h.uncons
  exact (hR _ _ h1 _ ha).append (Reps.list hR h2 _ hb)
def LetR (ds:List Nat) (c c':AV S):Prop:=∀ w V l,Shared V l ds→∀ ws,Reps w V l ws [c]→Reps w V (l.untok ds) ws [c']
theorem LetR.same {ds:List Nat} {c:AV S} (hc:match c with | .sl _ _ (some d)=>memb ds d=false | .elp _ d _ _=>memb ds d=false | .agg _=>False | .tup _=>False | _=>True):LetR ds c c:=by
 intro w V l _ ws h
 cases h with
 | flat h t=>exact .flat (h.untok (by cases c <;> first | trivial | (rename_i o; cases o <;> first | trivial | exact hc))) (by rw [t.nil_inv]; exact .nil _)
 | ref h r t=>rw [t.nil_inv]; exact .ref h r (.nil _)
 | sl h r hcp t=>rw [t.nil_inv]; exact .sl h r hcp (.nil _)
 | tok ht h r hcp t=>rw [t.nil_inv]; exact .tok (by simp only [Loc.untok,hc]; exact ht) h r hcp (.nil _)
 | clo r r' t=>rw [t.nil_inv]; exact .clo (l:=l.untok ds) r r' (.nil _)
 | agg r t=>exact hc.elim
 | tup r t=>exact hc.elim
 | arr hx r t=>rw [t.nil_inv]; exact .arr hx r (.nil _)
 | mpf hv hm hb r r' t=>rw [t.nil_inv]; exact .mpf hv hm hb r r' (.nil _)
theorem letK_elim:∀ (n:Nat) (ds:List Nat) (v:AV S) (K:AV S→Prop),letK n ds v K→∃ v',LetR ds v v'∧K v'
 | n, ds,v,K,h=>by
  have hlist:∀ m,m < n→∀ (cs:List (AV S)) (K:List (AV S)→Prop),mapK (letK m ds) cs K→∃ cs',All2 (LetR ds) cs cs'∧K cs':=fun m hm cs K h =>
   mapK_elim (fun a K h=>letK_elim m ds a K h) cs K h
  cases v with
  | sl u xs o =>
   cases o with
   | none=>exact ⟨_,LetR.same trivial,by cases n <;> exact h⟩
   | some d =>
    cases hm:memb ds d with
    | false=>exact ⟨_,LetR.same hm,by cases n <;> (simp only [letK,hm] at h; exact h)⟩
    | true =>
     refine ⟨.sl u xs none,fun w V l hsh ws hr=>?_,by cases n <;> (simp only [letK,hm] at h; exact h)⟩
     cases hr with
     | flat h t=>rw [t.nil_inv]; obtain ⟨h1,_,base,h2⟩:=h; exact .flat ⟨h1,base,0,h2⟩ (.nil _)
     | tok ht hc r hcp t =>
      rw [t.nil_inv]
      exact .sl (fun k v hk=>by rw [Nat.zero_add]; exact ⟨hsh d hm _ _ _ ht k (List.getElem?_eq_some_iff.1 hk).1,hc k v hk⟩) r hcp (.nil _)
  | elp u d i p =>
   cases hm:memb ds d with
   | false=>exact ⟨_,LetR.same hm,by cases n <;> (simp only [letK,hm] at h; exact h)⟩
   | true =>
    refine ⟨.undef,fun w V l hsh ws hr=>?_,by cases n <;> (simp only [letK,hm] at h; exact h)⟩
    cases hr with
    | flat h t=>rw [t.nil_inv]; exact .flat trivial (.nil _)
  | agg cs =>
   cases n with
   | zero=>exact ⟨.undef,fun w V l _ ws hr=>by
     cases hr with
     | flat h _=>exact h.elim
     | agg r t=>rw [t.nil_inv]; exact .flat trivial (.nil _),h⟩
   | succ n =>
    obtain ⟨cs',h1,h2⟩:=hlist n (Nat.lt_succ_self n) cs _ h
    refine ⟨_,fun w V l hsh ws hr=>?_,h2⟩
    cases hr with
    | flat h _=>exact h.elim
    | agg r t=>rw [t.nil_inv]; exact .agg (Reps.list (fun c c' hR=>hR w V l hsh) h1 _ r) (.nil _)
  | tup cs =>
   cases n with
   | zero=>exact ⟨.undef,fun w V l _ ws hr=>by
     cases hr with
     | flat h _=>exact h.elim
     | tup r t=>rw [t.nil_inv]; exact .flat trivial (.nil _),h⟩
   | succ n =>
    obtain ⟨cs',h1,h2⟩:=hlist n (Nat.lt_succ_self n) cs _ h
    refine ⟨_,fun w V l hsh ws hr=>?_,h2⟩
    cases hr with
    | flat h _=>exact h.elim
    | tup r t=>rw [t.nil_inv]; exact .tup (Reps.list (fun c c' hR=>hR w V l hsh) h1 _ r) (.nil _)
  | _=>exact ⟨_,LetR.same trivial,by cases n <;> exact h⟩
termination_by n=>n
theorem SRx.reread (h:SRx gl En x w V l l0 ts st) {l1:Loc} (hle:l1.le l) (hlo:l1.own=l0.own) {R:AV S→AV S→Prop} (hR:∀ c c',R c c'→∀ ws,Reps w V l0 ws [c]→Reps w V l1 ws [c'])
  (hup:∀ ws cs,Reps w V l0.notok ws cs→Reps w V l1.notok ws (cs:List (AV S)))
  {tm:List (AV S)} {sg:List (Nat×AO S)} (ht:All2 R st.tmps tm) (hs:All2 (ObR R) st.seg sg):SRx gl En x w V l l1 ts { st with tmps:=tm,seg:=sg }:=by
 have hlen:∀ {a b:List (AV S)},All2 R a b→a.length=b.length:=fun h=>by
  induction h with
  | nil=>rfl
  | cons _ _ ih=>simp [ih]
 have hget:∀ {a b:List (AV S)},All2 R a b→∀ {i:Nat} {c':AV S},b[i]?=some c'→∃ c,a[i]?=some c∧R c c':=fun h=>by
  induction h with
  | nil=>intro i c' h; simp at h
  | cons h1 _ ih =>
   intro i c' h
   cases i with
   | zero=>simp at h; subst h; exact ⟨_,rfl,h1⟩
   | succ i=>simp at h; simpa using ih h
 have hlook:∀ {d ao'},lookA sg d=some ao'→∃ ao,lookA st.seg d=some ao∧ObR R (d,ao) (d,ao'):=fun {d ao'} hd=>by
  have:=lookA_all2 hs d
  rw [hd] at this
  cases hl:lookA st.seg d with
  | none=>rw [hl] at this; exact this.elim
  | some ao=>rw [hl] at this; exact ⟨ao,rfl,this⟩
 have hlook':∀ {d ao},lookA st.seg d=some ao→∃ ao',lookA sg d=some ao'∧ObR R (d,ao) (d,ao'):=fun {d ao} hd=>by
  have:=lookA_all2 hs d
  rw [hd] at this
  cases hl:lookA sg d with
  | none=>rw [hl] at this; exact this.elim
  | some ao'=>rw [hl] at this; exact ⟨ao',rfl,this⟩
 have hM:∀ {k d b},Mut l { st with tmps:=tm,seg:=sg } k d b→Mut l st k d b:=by
  intro k d b hm
  cases k with
  | true=>exact hm
  | false =>
   obtain ⟨ao',h1,h2⟩:=hm
   obtain ⟨ao,h3,_,h4⟩:=hlook h1
   refine ⟨ao,h3,?_⟩
   cases ao <;> cases ao' <;> first | exact h4.elim | exact h2
 refine ⟨hle,h.cb.mono rfl rfl (fun d b _ h=>by rw [hlo]; exact h) (fun _ _ h=>h) (fun _ _ _=>rfl),h.inv,h.g,h.vlt,h.vem,by rw [h.sz]; exact hlen ht,fun i c' hi=>?_,fun d ao' hd=>?_,fun d ao hd=>?_,fun d b hb=>?_,fun d t ht=>?_,
  fun k d b hm=>h.mine k d b (hM hm),fun k d k' d' b h1 h2=>h.dis k d k' d' b (hM h1) (hM h2)⟩
 ·obtain ⟨c,h1,h2⟩:=hget ht hi
  exact hR c c' h2 _ (h.tmps i c h1)
 ·obtain ⟨ao,h1,_,h2⟩:=hlook hd
  have h3:=h.seg d ao h1
  cases ao <;> cases ao' <;> try exact h2.elim
  case cells.cells cs cs' =>
   obtain ⟨b,hb,c,el,h4,h5,h6⟩:=h3
   exact ⟨b,hb,c,el,h4,Reps.list hR h2 _ h5,h6⟩
  case frz.frz =>
   cases h2; exact h3
  case row.row u f u' f'=>obtain ⟨rfl,rfl⟩:=h2; exact h3
  case mp.mp=>cases h2; exact h3
  case mpz.mpz=>obtain ⟨rfl,rfl⟩:=h2; exact h3
 ·have h3:=h.up d ao hd
  cases ao with
  | cells cs =>
   obtain ⟨b,hb,c,el,h4,h5,h6⟩:=h3
   exact ⟨b,hb,c,el,h4,hup _ _ h5,h6⟩
  | frz cs=>exact h3
  | row u f=>trivial
  | mp kvs=>trivial
  | mpz ks us=>trivial
 ·obtain ⟨ao,h1,hb⟩:=h.rego d b hb
  obtain ⟨ao',h2,_,h3⟩:=hlook' h1
  exact ⟨_,h2,by cases ao <;> cases ao' <;> first | exact h3.elim | exact hb | trivial⟩
 obtain ⟨u,f,h1⟩:=h.regt d t ht
 obtain ⟨ao',h2,_,h3⟩:=hlook' h1
 cases ao' <;> try exact h3.elim
 exact ⟨_,_,h2⟩
theorem letAllK_elim {ds:List Nat} {K:St S→Prop} (h:letAllK ds st K):∃ st',K st'∧st'.tmps.length=st.tmps.length∧(∀ d,(∃ u f,lookA st.seg d=some (.row u f))→lookA st'.seg d=lookA st.seg d) ∧
  ∀ {gl:Gl} {En:Env X} {x:X} {w:World} {V:Nat→Nat→Prop} {l l0:Loc} {ts:Array Value},Shared V l0 ds→SRx gl En x w V l l0 ts st→SRx gl En x w V l (l0.untok ds) ts st':=by
 unfold letAllK at h
 obtain ⟨tm,h1,h⟩:=mapK_elim (letK_elim 4 ds) _ _ h
 obtain ⟨sg,h2,hK⟩:=mapK_elim (G:=ObR (LetR ds)) (fun p K h=>by
  obtain ⟨k,ao⟩:=p
  cases ao with
  | cells cs =>
   obtain ⟨cs',h3,h4⟩:=mapK_elim (letK_elim 4 ds) _ _ h
   exact ⟨(k,.cells cs'),⟨rfl,h3⟩,h4⟩
  | frz cs=>exact ⟨_,⟨rfl,rfl⟩,h⟩
  | row u f=>exact ⟨_,⟨rfl,rfl,rfl⟩,h⟩
  | mpz ks us=>exact ⟨_,⟨rfl,rfl,rfl⟩,h⟩
  | mp kvs=>exact ⟨_,⟨rfl,rfl⟩,h⟩) _ _ h
 refine ⟨_,hK,?_,fun d hd=>?_,fun hsh hs=>?_⟩
 ·clear hK h2 h
  generalize st.tmps=a at h1
  induction h1 with
  | nil=>rfl
  | cons _ _ ih=>simp_all
 ·obtain ⟨u,f,hd⟩:=hd
  have:=lookA_all2 h2 d
  simp only
  rw [hd] at this ⊢
  cases hl:lookA sg d with
  | none=>rw [hl] at this; exact this.elim
  | some ao=>rw [hl] at this; cases ao <;> first | exact this.2.elim | (obtain ⟨_,rfl,rfl⟩:=this; rfl)
 exact hs.reread (Loc.le_trans (Loc.untok_le _ _) hs.le) rfl (fun c c' hR ws=>hR _ _ _ hsh ws) (fun ws cs h=>h) h1 h2
def UndR (ds:List Nat) (c c':AV S):Prop:=∀ w V l,∀ ws,Reps w V l ws [c]→Reps w V (l.untok ds) ws [c']
theorem UndR.same {ds:List Nat} {c:AV S} (hc:match c with | .sl _ _ (some d)=>memb ds d=false | .elp _ d _ _=>memb ds d=false | .agg _=>False | .tup _=>False | _=>True):UndR ds c c:=by
 intro w V l ws h
 cases h with
 | flat h t=>exact .flat (h.untok (by cases c <;> first | trivial | (rename_i o; cases o <;> first | trivial | exact hc))) (by rw [t.nil_inv]; exact .nil _)
 | ref h r t=>rw [t.nil_inv]; exact .ref h r (.nil _)
 | sl h r hcp t=>rw [t.nil_inv]; exact .sl h r hcp (.nil _)
 | tok ht h r hcp t=>rw [t.nil_inv]; exact .tok (by simp only [Loc.untok,hc]; exact ht) h r hcp (.nil _)
 | clo r r' t=>rw [t.nil_inv]; exact .clo (l:=l.untok ds) r r' (.nil _)
 | agg r t=>exact hc.elim
 | tup r t=>exact hc.elim
 | arr hx r t=>rw [t.nil_inv]; exact .arr hx r (.nil _)
 | mpf hv hm hb r r' t=>rw [t.nil_inv]; exact .mpf hv hm hb r r' (.nil _)
theorem undK_elim:∀ (n:Nat) (ds:List Nat) (v:AV S) (K:AV S→Prop),undK n ds v K→∃ v',UndR ds v v'∧K v'
 | n, ds,v,K,h=>by
  have hlist:∀ m,m < n→∀ (cs:List (AV S)) (K:List (AV S)→Prop),mapK (undK m ds) cs K→∃ cs',All2 (UndR ds) cs cs'∧K cs':=fun m hm cs K h =>
   mapK_elim (fun a K h=>undK_elim m ds a K h) cs K h
  cases v with
  | sl u xs o =>
   cases o with
   | none=>exact ⟨_,UndR.same trivial,by cases n <;> exact h⟩
   | some d =>
    cases hm:memb ds d with
    | false=>exact ⟨_,UndR.same hm,by cases n <;> (simp only [undK,hm] at h; exact h)⟩
    | true =>
     refine ⟨.undef,fun w V l ws hr=>?_,by cases n <;> (simp only [undK,hm] at h; exact h)⟩
     cases hr with
     | flat h t=>rw [t.nil_inv]; exact .flat trivial (.nil _)
     | tok ht hc r hcp t=>rw [t.nil_inv]; exact .flat trivial (.nil _)
  | elp u d i p =>
   cases hm:memb ds d with
   | false=>exact ⟨_,UndR.same hm,by cases n <;> (simp only [undK,hm] at h; exact h)⟩
   | true =>
    refine ⟨.undef,fun w V l ws hr=>?_,by cases n <;> (simp only [undK,hm] at h; exact h)⟩
    cases hr with
    | flat h t=>rw [t.nil_inv]; exact .flat trivial (.nil _)
  | agg cs =>
   cases n with
   | zero=>exact ⟨.undef,fun w V l ws hr=>by
     cases hr with
     | flat h _=>exact h.elim
     | agg r t=>rw [t.nil_inv]; exact .flat trivial (.nil _),h⟩
   | succ n =>
    obtain ⟨cs',h1,h2⟩:=hlist n (Nat.lt_succ_self n) cs _ h
    refine ⟨_,fun w V l ws hr=>?_,h2⟩
    cases hr with
    | flat h _=>exact h.elim
    | agg r t=>rw [t.nil_inv]; exact .agg (Reps.list (fun c c' hR=>hR w V l) h1 _ r) (.nil _)
  | tup cs =>
   cases n with
   | zero=>exact ⟨.undef,fun w V l ws hr=>by
     cases hr with
     | flat h _=>exact h.elim
     | tup r t=>rw [t.nil_inv]; exact .flat trivial (.nil _),h⟩
   | succ n =>
    obtain ⟨cs',h1,h2⟩:=hlist n (Nat.lt_succ_self n) cs _ h
    refine ⟨_,fun w V l ws hr=>?_,h2⟩
    cases hr with
    | flat h _=>exact h.elim
    | tup r t=>rw [t.nil_inv]; exact .tup (Reps.list (fun c c' hR=>hR w V l) h1 _ r) (.nil _)
  | _=>exact ⟨_,UndR.same trivial,by cases n <;> exact h⟩
termination_by n=>n
theorem undAllK_elim {ds:List Nat} {K:St S→Prop} (h:undAllK ds st K):∃ st',K st'∧(∀ d,(∃ u f,lookA st.seg d=some (.row u f))→lookA st'.seg d=lookA st.seg d) ∧
  ∀ {gl:Gl} {En:Env X} {x:X} {w:World} {V:Nat→Nat→Prop} {l l0:Loc} {ts:Array Value},SRx gl En x w V l l0 ts st→SRx gl En x w V l (l0.untok ds) ts st':=by
 unfold undAllK at h
 obtain ⟨tm,h1,h⟩:=mapK_elim (undK_elim 4 ds) _ _ h
 obtain ⟨sg,h2,hK⟩:=mapK_elim (G:=ObR (UndR ds)) (fun p K h=>by
  obtain ⟨k,ao⟩:=p
  cases ao with
  | cells cs =>
   obtain ⟨cs',h3,h4⟩:=mapK_elim (undK_elim 4 ds) _ _ h
   exact ⟨(k,.cells cs'),⟨rfl,h3⟩,h4⟩
  | frz cs=>exact ⟨_,⟨rfl,rfl⟩,h⟩
  | row u f=>exact ⟨_,⟨rfl,rfl,rfl⟩,h⟩
  | mpz ks us=>exact ⟨_,⟨rfl,rfl,rfl⟩,h⟩
  | mp kvs=>exact ⟨_,⟨rfl,rfl⟩,h⟩) _ _ h
 refine ⟨_,hK,fun d hd=>?_,fun hs=>?_⟩
 ·obtain ⟨u,f,hd⟩:=hd
  have:=lookA_all2 h2 d
  simp only
  rw [hd] at this ⊢
  cases hl:lookA sg d with
  | none=>rw [hl] at this; exact this.elim
  | some ao=>rw [hl] at this; cases ao <;> first | exact this.2.elim | (obtain ⟨_,rfl,rfl⟩:=this; rfl)
 exact hs.reread (Loc.le_trans (Loc.untok_le _ _) hs.le) rfl (fun c c' hR ws=>hR _ _ _ ws) (fun ws cs h=>h) h1 h2
end Go.Ab
namespace Go.Ab
open Go
variable {S:Sig} [Cod S]
structure OutOk (sg sg':List (Nat×AO S)) (Rel:(World→(Nat→Nat→Prop)→Loc→(Nat→Nat→Prop)→Prop)):Prop where
 out:∀ {X:Type} {gl:Gl} {En:Env X} {x:X} {w:World} {V:Nat→Nat→Prop} {l l0:Loc} {ts:Array Value} {tm:List (AV S)} {up:List (Nat×AO S)},
  SRx gl En x w V l l0 ts { tmps:=tm,seg:=sg,up:=up } →
  ∃ V',(∀ b o,V b o→V' b o)∧SRx gl En x w V' l l0 ts { tmps:=tm,seg:=sg',up:=up } ∧
   (∀ {k d b},Mut l ({ tmps:=tm,seg:=sg',up:=up }:St S) k d b→Mut l ({ tmps:=tm,seg:=sg,up:=up }:St S) k d b)∧Rel w V l0 V'
theorem OutOk.refl {sg:List (Nat×AO S)} {Rel} (h:∀ w V l,Rel w V l V):OutOk sg sg Rel:=⟨fun hs=>⟨_,fun _ _ h=>h,hs,fun h=>h,h _ _ _⟩⟩
theorem OutOk.trans {a b c:List (Nat×AO S)} {R1 R2 R3} (h1:OutOk a b R1) (h2:OutOk b c R2) (hR:∀ w V l V1 V2,(∀ b o,V b o→V1 b o)→(∀ b o,V1 b o→V2 b o)→R1 w V l V1→R2 w V1 l V2→R3 w V l V2):OutOk a c R3:=⟨fun hs=>by
 obtain ⟨V1,hV1,hs1,hm1,hr1⟩:=h1.out hs
 obtain ⟨V2,hV2,hs2,hm2,hr2⟩:=h2.out hs1
 exact ⟨V2,fun b o h=>hV2 _ _ (hV1 _ _ h),hs2,fun h=>hm1 (hm2 h),hR _ _ _ _ _ hV1 hV2 hr1 hr2⟩⟩
theorem publish {sg:List (Nat×AO S)} {d:Nat} {u:S.U} {f:Bool} (hd:lookA sg d=some (.row u f)) :
  OutOk sg (putA sg d (.row u false)) fun _ _ l V'=>∀ b n cap,l.tok d=some (.at b n cap)→∀ o,o < n→V' b o:=by
 refine ⟨?_⟩
 intro X gl En x w V l l0 ts tm up hs
 obtain ⟨t,ht,h1⟩:=hs.seg d _ hd
 have hlook:∀ {k d' b},Mut l ({ tmps:=tm,seg:=putA sg d (.row u false),up:=up }:St S) k d' b→Mut l ({ tmps:=tm,seg:=sg,up:=up }:St S) k d' b:=by
  intro k d' b hm
  cases k with
  | true=>exact hm
  | false =>
   obtain ⟨ao,h2,h3⟩:=hm
   simp only [lookA_putA] at h2
   by_cases hdd:d=d'
   ·subst hdd; rw [if_pos rfl] at h2; cases h2; exact ⟨_,hd,h3⟩
   rw [if_neg hdd] at h2; exact ⟨_,h2,h3⟩
 have hrt:∀ t,l.tok d=some t→∃ u' f',(AO.row u false:AO S)=.row u' f':=fun _ _=>⟨_,_,rfl⟩
 have hro:∀ b,l.own d=some b→BoxO (.row u false:AO S):=fun b hb=>by
  obtain ⟨ao,h2,h3⟩:=hs.rego d b hb
  simp only [hd] at h2
  cases h2; exact h3
 cases t with
 | no =>
  refine ⟨V,fun _ _ h=>h,hs.turn hs.le (Loc.le_refl _) (fun _ _=>rfl) (fun _ _=>rfl) rfl rfl (fun _ _ h=>h) (fun _ _ h=>.inl h) ⟨_,ht,trivial⟩ (fun b hm=>?_) hro hrt,hlook,fun b n cap ht'=>?_⟩
  ·obtain ⟨n,cap,h2⟩:=hm; rw [ht] at h2; cases h2
  have:=hs.le.tok _ _ ht'; rw [ht] at this; cases this
 | «at» b n cap =>
  obtain ⟨c,el,h2,h3,h4,h5⟩:=h1
  have hm:Mut l ({ tmps:=tm,seg:=sg,up:=up }:St S) false d b:=⟨_,hd,n,cap,ht⟩
  have hall:∀ k d',Mut l ({ tmps:=tm,seg:=sg,up:=up }:St S) k d' b→k=false∧d'=d:=fun k d' h=>hs.dis k d' false d b h hm
  refine ⟨fun b' o=>V b' o∨(b'=b∧o < n),fun _ _ h=>.inl h,hs.turn hs.le (Loc.le_refl _) (fun _ _=>rfl) (fun _ _=>rfl) rfl rfl (fun _ _ h=>.inl h)
   (fun b' o h=>h.imp id fun h=>by rw [h.1]; exact ⟨lt_of_heap h2,(hs.mine _ _ _ hm).1,hall⟩) ⟨_,ht,c,el,h2,h3,h4,fun o=>?_⟩ (fun b' hm'=>?_) hro hrt,hlook,fun b' n' cap' ht' o ho=>?_⟩
  ·cases f with
   | true=>exact ⟨fun h=>h.elim (fun h=>absurd h (h5 o)) fun h=>h.2,fun h=>.inr ⟨rfl,h⟩⟩
   | false=>exact ⟨fun h=>h.elim (h5 o).1 fun h=>h.2,fun h=>.inl ((h5 o).2 h)⟩
  ·obtain ⟨n',cap',h6⟩:=hm'; rw [ht] at h6; cases h6
   exact ⟨(hs.mine _ _ _ hm).1,(hs.mine _ _ _ hm).2,hall⟩
  have:=hs.le.tok _ _ ht'; rw [ht] at this; cases this; exact .inr ⟨rfl,ho⟩
theorem pubK_elim {o:Option Nat} {sg:List (Nat×AO S)} {K:List (Nat×AO S)→Prop} (h:pubK o sg K) :
  ∃ sg',K sg'∧OutOk sg sg' fun _ _ l V'=>∀ d,o=some d→∀ b n cap,l.tok d=some (.at b n cap)→∀ o,o < n→V' b o:=by
 unfold pubK at h
 cases o with
 | none=>exact ⟨sg,h,⟨fun hs=>⟨_,fun _ _ h=>h,hs,fun h=>h,fun d e=>by cases e⟩⟩⟩
 | some d =>
  simp only at h
  rw [findK_eq] at h
  cases hl:lookA sg d with
  | none=>rw [hl] at h; exact h.elim
  | some ao =>
   rw [hl] at h
   cases ao with
   | row u f =>
    simp only [putK_eq] at h
    refine ⟨_,h,⟨fun hs=>?_⟩⟩
    obtain ⟨V',h1,h2,h3,h4⟩:=(publish hl).out hs
    exact ⟨V',h1,h2,h3,fun d' e=>by cases e; exact h4⟩
   | _=>exact h.elim
theorem slice_out {w:World} {V:Nat→Nat→Prop} {l:Loc} {u:S.U} {xs:List (S.T u)} {o:Option Nat} {ws:List Value} (h:Reps w V l ws [.sl u xs o])
  {V':Nat→Nat→Prop} (hV:∀ b o,V b o→V' b o) (hp:∀ d,o=some d→∀ b n cap,l.tok d=some (.at b n cap)→∀ o,o < n→V' b o):Reps w V' Loc.none ws [.sl u xs none]:=by
 cases h with
 | flat h t =>
  rw [t.nil_inv]
  cases o with
  | none=>exact .flat h (.nil _)
  | some d=>obtain ⟨h1,_,base,h2⟩:=h; exact .flat ⟨h1,base,0,h2⟩ (.nil _)
 | sl h r hcp t=>rw [t.nil_inv]; exact .sl (h.more hV) (r.more hV (Loc.le_refl _)) hcp (.nil _)
 | tok ht hc r hcp t =>
  rw [t.nil_inv]
  exact .sl (fun k v hk=>by rw [Nat.zero_add]; exact ⟨hp _ rfl _ _ _ ht k (List.getElem?_eq_some_iff.1 hk).1,hc k v hk⟩) (r.more hV (Loc.le_refl _)) hcp (.nil _)
theorem freeze {sg:List (Nat×AO S)} {d:Nat} {cs cs':List (AV S)} (hd:lookA sg d=some (.cells cs)) {sg1:List (Nat×AO S)}
  (h1:OutOk sg sg1 fun w V l V'=>∀ ws,Reps w V l ws cs→Reps w V' Loc.none ws cs') :
  OutOk sg (putA sg1 d (.frz cs')) fun w _ l V'=>∀ b,l.own d=some b→∃ ws,CellsAt w V' b 0 ws∧Reps w V' Loc.none ws cs':=by
 refine ⟨?_⟩
 intro X gl En x w V l l0 ts tm up hs
 obtain ⟨b,hb,c,el,h2,h3,h4⟩:=hs.seg d _ hd
 have hm:Mut l ({ tmps:=tm,seg:=sg,up:=up }:St S) false d b:=⟨_,hd,hb⟩
 obtain ⟨V1,hV1,hs1,hm1,hr1⟩:=h1.out hs
 have h5:=hr1 _ h3
 have hall:∀ k d',Mut l ({ tmps:=tm,seg:=sg1,up:=up }:St S) k d' b→k=false∧d'=d:=fun k d' h=>hs.dis k d' false d b (hm1 h) hm
 have hV2:∀ b' o,V1 b' o→V1 b' o∨(b'=b∧o < c.size):=fun _ _ h=>.inl h
 have hcells:CellsAt w (fun b' o=>V1 b' o∨(b'=b∧o < c.size)) b 0 c.toList:=fun k v hk=>by
  rw [Nat.zero_add]
  have hk2:=List.getElem?_eq_some_iff.1 hk
  have hlt:k < c.size:=by simpa using hk2.1
  exact ⟨.inr ⟨rfl,hlt⟩,by rw [cell_of_heap h2]; simpa using hk⟩
 have hrep:Reps w (fun b' o=>V1 b' o∨(b'=b∧o < c.size)) Loc.none c.toList cs':=h5.more hV2 (Loc.le_refl _)
 refine ⟨fun b' o=>V1 b' o∨(b'=b∧o < c.size),fun b' o h=>.inl (hV1 _ _ h),
  hs1.turn hs1.le (Loc.le_refl _) (fun _ _=>rfl) (fun _ _=>rfl) rfl rfl hV2 (fun b' o h=>h.imp id fun h=>by rw [h.1]; exact ⟨lt_of_heap h2,(hs.mine _ _ _ hm).1,hall⟩)
   ⟨b,_,hb,hcells,hrep⟩ (fun b' h=>h.elim) (fun b' _=>trivial) (fun t ht=>?_),?_,fun b' hb'=>?_⟩
 ·obtain ⟨u,f,h6⟩:=hs.regt d t ht
  simp only [hd] at h6; cases h6
 ·intro k d' b' h
  cases k with
  | true=>exact hm1 (k:=true) h
  | false =>
   obtain ⟨ao,h6,h7⟩:=h
   simp only [lookA_putA] at h6
   by_cases hdd:d=d'
   ·subst hdd; rw [if_pos rfl] at h6; cases h6; exact h7.elim
   rw [if_neg hdd] at h6; exact hm1 ⟨_,h6,h7⟩
 have:=hs.le.own _ _ hb'; rw [hb] at this; cases this
 exact ⟨_,hcells,hrep⟩
theorem own_out {w:World} {V V':Nat→Nat→Prop} {l:Loc} {d:Nat} {p:List Stp} {cs ds:List (AV S)} {vs:List Value} (h:Reps w V l vs [(.own d p:AV S)])
  (hf:∀ b,l.own d=some b→∃ ws,CellsAt w V' b 0 ws∧Reps w V' Loc.none ws cs)
  (hd:∀ w V l ws,Reps w V l ws cs→∃ wa wb wc,ws=wa++wb++wc∧wa.length=poff p∧Reps w V l wb ds):Reps w V' Loc.none vs [.ref ds]:=by
 cases h with
 | flat h t =>
  rw [t.nil_inv]
  obtain ⟨b,hb,rfl⟩:=h
  obtain ⟨ws,h1,h2⟩:=hf b hb
  obtain ⟨wa,wb,wc,rfl,h3,h4⟩:=hd _ _ _ _ h2
  refine .ref (ws:=wb) (fun k v hk=>?_) h4 (.nil _)
  have:=h1 (poff p+k) v (by
   rw [List.append_assoc,List.getElem?_append_right (by omega),h3,Nat.add_sub_cancel_left,List.getElem?_append_left (List.getElem?_eq_some_iff.1 hk).1]; exact hk)
  simpa using this
theorem freezeM {sg:List (Nat×AO S)} {d:Nat} {kvs:List (AV S×AV S)} (hd:lookA sg d=some (.mp kvs)) (hb1:bareB (kvs.map fun p=>p.1)=true) (hb2:bareB (kvs.map fun p=>p.2)=true) :
  OutOk sg (putA sg d (.mpz (kvs.map fun p=>p.1) (kvs.map fun p=>p.2))) fun w _ l V'=>∀ b,l.own d=some b→MapFrz w V' b (kvs.map fun p=>p.1) (kvs.map fun p=>p.2):=by
 refine ⟨?_⟩
 intro X gl En x w V l l0 ts tm up hs
 obtain ⟨b,hb,es,ck,h2,⟨h3,_⟩,h4⟩:=hs.seg d _ hd
 have hm:Mut l ({ tmps:=tm,seg:=sg,up:=up }:St S) false d b:=⟨_,hd,hb⟩
 have hall:∀ k d',Mut l ({ tmps:=tm,seg:=sg,up:=up }:St S) k d' b→k=false∧d'=d:=fun k d' h=>hs.dis k d' false d b h hm
 have hV2:∀ b' o,V b' o→V b' o∨b'=b:=fun _ _ h=>.inl h
 have hkv:∀ {L:List MapEntry} {M:List (AV S×AV S)},All2 (fun (e:MapEntry) (p:AV S×AV S)=>Rep w V Loc.none e.key p.1∧Rep w V Loc.none e.val p.2) L M →
   Reps w (fun b' o=>V b' o∨b'=b) Loc.none (L.map fun e=>e.key) (M.map fun p=>p.1)∧Reps w (fun b' o=>V b' o∨b'=b) Loc.none (L.map fun e=>e.val) (M.map fun p=>p.2):=fun h=>by
  induction h with
  | nil=>exact ⟨.nil _,.nil _⟩
  | cons h _ ih=>exact ⟨(h.1.more hV2 (Loc.le_refl _)).append ih.1,(h.2.more hV2 (Loc.le_refl _)).append ih.2⟩
 have hfz:MapFrz w (fun b' o=>V b' o∨b'=b) b (kvs.map fun p=>p.1) (kvs.map fun p=>p.2):=.mpf (.inr rfl) h2 ⟨hb1,hb2⟩ (hkv h3).1 (hkv h3).2 (.nil _)
 refine ⟨fun b' o=>V b' o∨b'=b,hV2,
  hs.turn hs.le (Loc.le_refl _) (fun _ _=>rfl) (fun _ _=>rfl) rfl rfl hV2 (fun b' o h=>h.imp id fun h=>by rw [h]; exact ⟨lt_of_heap h2,(hs.mine _ _ _ hm).1,hall⟩)
   ⟨b,hb,hfz⟩ (fun b' h=>h.elim) (fun b' _=>trivial) (fun t ht=>?_),?_,fun b' hb'=>?_⟩
 ·obtain ⟨u,f,h6⟩:=hs.regt d t ht
  simp only [hd] at h6; cases h6
 ·intro k d' b' h
  cases k with
  | true=>exact h
  | false =>
   obtain ⟨ao,h6,h7⟩:=h
   simp only [lookA_putA] at h6
   by_cases hdd:d=d'
   ·subst hdd; rw [if_pos rfl] at h6; cases h6; exact h7.elim
   rw [if_neg hdd] at h6; exact ⟨_,h6,h7⟩
 have:=hs.le.own _ _ hb'; rw [hb] at this; cases this
 exact hfz
theorem map_out {w:World} {V V':Nat→Nat→Prop} {l:Loc} {d:Nat} {ks us:List (AV S)} {vs:List Value} (h:Reps w V l vs [(.mpv d:AV S)]) (hf:∀ b,l.own d=some b→MapFrz w V' b ks us) :
  Reps w V' Loc.none vs [.mpf ks us]:=by
 cases h with
 | flat h t =>
  rw [t.nil_inv]
  obtain ⟨b,hb,rfl⟩:=h
  exact hf b hb
theorem outK_elim [LawCod S]:∀ (n:Nat),(∀ (v:AV S) (sg:List (Nat×AO S)) (K:AV S→List (Nat×AO S)→Prop),outK n v sg K →
      ∃ v' sg',K v' sg'∧OutOk sg sg' fun w V l V'=>∀ ws,Reps w V l ws [v]→Reps w V' Loc.none ws [v']) ∧
  (∀ (vs:List (AV S)) (sg:List (Nat×AO S)) (K:List (AV S)→List (Nat×AO S)→Prop),outK.outLK n vs sg K →
   ∃ vs' sg',K vs' sg'∧vs'.length=vs.length∧OutOk sg sg' fun w V l V'=>∀ ws,Reps w V l ws vs→Reps w V' Loc.none ws vs')
 | 0=>⟨fun v sg K h=>by simp [outK] at h,fun vs sg K h=>by
   cases vs with
   | nil=>exact ⟨[],sg,by simpa [outK.outLK] using h,rfl,OutOk.refl fun w V l ws h=>by rw [h.nil_inv]; exact .nil _⟩
   | cons v vs=>simp [outK.outLK] at h⟩
 | n + 1 => by
  obtain ⟨ih1,ih2⟩:=outK_elim n
  constructor
  ·intro v sg K h
   cases v with
   | undef=>simp [outK] at h
   | up d p=>simp [outK] at h
   | cb=>simp [outK] at h
   | mpv d =>
    simp only [outK] at h
    rw [findK_eq] at h
    cases hl:lookA sg d with
    | none=>rw [hl] at h; exact h.elim
    | some ao =>
     rw [hl] at h
     cases ao with
     | mp kvs =>
      simp only at h
      cases hb1:bareB (kvs.map fun p=>p.1) with
      | false=>rw [hb1] at h; exact h.elim
      | true =>
       cases hb2:bareB (kvs.map fun p=>p.2) with
       | false=>rw [hb1,hb2] at h; exact h.elim
       | true =>
        rw [hb1,hb2] at h
        simp only [Bool.and_self,putK_eq] at h
        refine ⟨_,_,h,⟨fun hs=>?_⟩⟩
        obtain ⟨V',hV,hs',hm,hr⟩:=(freezeM hl hb1 hb2).out hs
        exact ⟨V',hV,hs',hm,fun ws hw=>map_out hw hr⟩
     | mpz ks us =>
      refine ⟨_,_,h,⟨fun hs=>⟨_,fun _ _ h=>h,hs,fun h=>h,fun ws hw=>map_out hw fun b hb=>?_⟩⟩⟩
      obtain ⟨b',h1,h2⟩:=hs.seg d _ hl
      have:=hs.le.own _ _ hb; rw [h1] at this; cases this
      exact h2
     | _=>exact h.elim
   | mpu d=>simp [outK] at h
   | elp u d i p=>simp [outK] at h
   | mpf ks us=>exact ⟨_,_,by simpa [outK] using h,OutOk.refl fun w V l ws hr=>by
     cases hr with
     | flat h t=>exact h.elim
     | mpf hv hm hb r r' t=>rw [t.nil_inv]; exact .mpf hv hm hb r r' (.nil _)⟩
   | own d p =>
    simp only [outK] at h
    rw [findK_eq] at h
    cases hl:lookA sg d with
    | none=>rw [hl] at h; exact h.elim
    | some ao =>
     rw [hl] at h
     cases ao with
     | cells cs =>
      obtain ⟨cs',sg1,h,_,h1⟩:=ih2 _ _ _ h
      rw [putK_eq] at h
      obtain ⟨ds,hK,hd⟩:=readK_elim p cs' _ h
      refine ⟨_,_,hK,⟨fun hs=>?_⟩⟩
      obtain ⟨V',hV,hs',hm,hr⟩:=(freeze hl h1).out hs
      exact ⟨V',hV,hs',hm,fun ws hw=>own_out hw hr hd⟩
     | frz cs =>
      obtain ⟨ds,hK,hd⟩:=readK_elim p cs _ h
      refine ⟨_,_,hK,⟨fun hs=>⟨_,fun _ _ h=>h,hs,fun h=>h,fun ws hw=>own_out hw (fun b hb=>?_) hd⟩⟩⟩
      obtain ⟨b',ws',h1,h2,h3⟩:=hs.seg d _ hl
      have:=hs.le.own _ _ hb; rw [h1] at this; cases this
      exact ⟨ws',h2,h3⟩
     | row u f=>exact h.elim
     | mp kvs=>exact h.elim
     | mpz ks us=>exact h.elim
   | sl u xs o =>
    cases o with
    | none=>exact ⟨_,_,by simpa [outK] using h,OutOk.refl fun w V l ws hr=>slice_out hr (fun _ _ h=>h) fun d e=>by cases e⟩
    | some d =>
     simp only [outK] at h
     rw [findK_eq] at h
     cases hl:lookA sg d with
     | none=>rw [hl] at h; exact h.elim
     | some ao =>
      rw [hl] at h
      cases ao with
      | row u' f =>
       simp only [putK_eq] at h
       refine ⟨_,_,h,⟨fun hs=>?_⟩⟩
       obtain ⟨V',hV,hs',hm,hr⟩:=(publish hl).out hs
       exact ⟨V',hV,hs',hm,fun ws hw=>slice_out hw hV fun d' e=>by cases e; exact hr⟩
      | _=>exact h.elim
   | agg cs =>
    obtain ⟨cs',sg',hK,_,h1⟩:=ih2 cs sg (fun l sg'=>K (.agg l) sg') (by simpa [outK] using h)
    refine ⟨_,_,hK,⟨fun hs=>?_⟩⟩
    obtain ⟨V',hV,hs',hm,hr⟩:=h1.out hs
    refine ⟨V',hV,hs',hm,fun ws hw=>?_⟩
    cases hw with
    | flat h _=>exact h.elim
    | agg r t=>rw [t.nil_inv]; exact .agg (hr _ r) (.nil _)
   | tup cs =>
    obtain ⟨cs',sg',hK,_,h1⟩:=ih2 cs sg (fun l sg'=>K (.tup l) sg') (by simpa [outK] using h)
    refine ⟨_,_,hK,⟨fun hs=>?_⟩⟩
    obtain ⟨V',hV,hs',hm,hr⟩:=h1.out hs
    refine ⟨V',hV,hs',hm,fun ws hw=>?_⟩
    cases hw with
    | flat h _=>exact h.elim
    | tup r t=>rw [t.nil_inv]; exact .tup (hr _ r) (.nil _)
   | clo fn f c =>
    obtain ⟨f',sg1,h2,_,h1⟩:=ih2 f sg (fun f' sg'=>outK.outLK n c sg' fun c' sg''=>K (.clo fn f' c') sg'') (by simpa [outK] using h)
    obtain ⟨c',sg2,hK,_,h3⟩:=ih2 c sg1 _ h2
    refine ⟨_,_,hK,OutOk.trans h1 h3 fun w V l V1 V2 hV1 hV2 r1 r2 ws hw=>?_⟩
    have hnl:l.notok.le l:=⟨fun _ _ h=>h,fun _ _ h=>h,fun _ _ h=>by simp [Loc.notok] at h,fun _ h=>h⟩
    cases hw with
    | flat h _=>exact h.elim
    | clo r r' t =>
     rw [t.nil_inv]
     exact .clo (l:=Loc.none) ((r1 _ (r.more (fun _ _ h=>h) hnl)).more hV2 (Loc.le_refl _)) (r2 _ (r'.more hV1 hnl)) (.nil _)
   | skip=>exact ⟨_,_,by simpa [outK] using h,OutOk.refl fun w V l ws hr=>by cases hr with | flat h t=>rw [t.nil_inv]; exact .flat h (.nil _)⟩
   | bool b=>exact ⟨_,_,by simpa [outK] using h,OutOk.refl fun w V l ws hr=>by cases hr with | flat h t=>rw [t.nil_inv]; exact .flat h (.nil _)⟩
   | int k i=>exact ⟨_,_,by simpa [outK] using h,OutOk.refl fun w V l ws hr=>by cases hr with | flat h t=>rw [t.nil_inv]; exact .flat h (.nil _)⟩
   | str s=>exact ⟨_,_,by simpa [outK] using h,OutOk.refl fun w V l ws hr=>by cases hr with | flat h t=>rw [t.nil_inv]; exact .flat h (.nil _)⟩
   | nilp=>exact ⟨_,_,by simpa [outK] using h,OutOk.refl fun w V l ws hr=>by cases hr with | flat h t=>rw [t.nil_inv]; exact .flat h (.nil _)⟩
   | nil0=>exact ⟨_,_,by simpa [outK] using h,OutOk.refl fun w V l ws hr=>by cases hr with | flat h t=>rw [t.nil_inv]; exact .flat h (.nil _)⟩
   | nils=>exact ⟨_,_,by simpa [outK] using h,OutOk.refl fun w V l ws hr=>by cases hr with | flat h t=>rw [t.nil_inv]; exact .flat h (.nil _)⟩
   | nilf=>exact ⟨_,_,by simpa [outK] using h,OutOk.refl fun w V l ws hr=>by cases hr with | flat h t=>rw [t.nil_inv]; exact .flat h (.nil _)⟩
   | lens m=>exact ⟨_,_,by simpa [outK] using h,OutOk.refl fun w V l ws hr=>by cases hr with | flat h t=>rw [t.nil_inv]; exact .flat h (.nil _)⟩
   | ref cs=>exact ⟨_,_,by simpa [outK] using h,OutOk.refl fun w V l ws hr=>by
     cases hr with
     | flat h t=>exact h.elim
     | ref h r t=>rw [t.nil_inv]; exact .ref h r (.nil _)⟩
   | arr u m xs=>exact ⟨_,_,by simpa [outK] using h,OutOk.refl fun w V l ws hr=>by
     cases hr with
     | flat h t=>exact h.elim
     | arr hx r t=>rw [t.nil_inv]; exact .arr hx r (.nil _)⟩
  intro vs sg K h
  cases vs with
  | nil=>exact ⟨[],sg,by simpa [outK.outLK] using h,rfl,OutOk.refl fun w V l ws h=>by rw [h.nil_inv]; exact .nil _⟩
  | cons v vs =>
   simp only [outK.outLK] at h
   obtain ⟨v',sg1,h,h1⟩:=ih1 _ _ _ h
   obtain ⟨vs',sg2,hK,hlen,h2⟩:=ih2 _ _ _ h
   refine ⟨_,_,hK,by simp [hlen],OutOk.trans h1 h2 fun w V l V1 V2 hV1 hV2 r1 r2 ws hw=>?_⟩
   obtain ⟨va,vb,rfl,ha,hb⟩:=hw.uncons
   exact ((r1 _ ha).more hV2 (Loc.le_refl _)).append (r2 _ (hb.more hV1 (Loc.le_refl _)))
def seeV (w:World):Nat→Nat→Prop:=fun b _=>b < w.heap.size
theorem peekK_elim [LawCod S]:∀ (n:Nat),(∀ (v:AV S) (sg:List (Nat×AO S)) (K:AV S→Prop),peekK n v sg K →
      ∃ v',K v'∧∀ {X:Type} {gl:Gl} {En:Env X} {x:X} {w:World} {V:Nat→Nat→Prop} {l l0:Loc} {ts:Array Value} {st:St S},st.seg=sg→SRx gl En x w V l l0 ts st→∀ ws,Reps w V l0 ws [v]→Reps w (seeV w) Loc.none ws [v']) ∧
  (∀ (vs:List (AV S)) (sg:List (Nat×AO S)) (K:List (AV S)→Prop),peekK.peekLK n vs sg K →
   ∃ vs',K vs'∧∀ {X:Type} {gl:Gl} {En:Env X} {x:X} {w:World} {V:Nat→Nat→Prop} {l l0:Loc} {ts:Array Value} {st:St S},st.seg=sg→SRx gl En x w V l l0 ts st→∀ ws,Reps w V l0 ws vs→Reps w (seeV w) Loc.none ws vs')
 | 0=>⟨fun v sg K h=>by simp [peekK] at h,fun vs sg K h=>by
   cases vs with
   | nil=>exact ⟨[],by simpa [peekK.peekLK] using h,fun _ _ ws h=>by rw [h.nil_inv]; exact .nil _⟩
   | cons v vs=>simp [peekK.peekLK] at h⟩
 | n + 1 => by
  obtain ⟨ih1,ih2⟩:=peekK_elim n
  constructor
  ·intro v sg K h
   cases v with
   | undef=>simp [peekK] at h
   | up d p=>simp [peekK] at h
   | cb=>simp [peekK] at h
   | mpu d=>simp [peekK] at h
   | elp u d i p=>simp [peekK] at h
   | mpv d =>
    simp only [peekK] at h
    rw [findK_eq] at h
    cases hl:lookA sg d with
    | none=>rw [hl] at h; exact h.elim
    | some ao =>
     rw [hl] at h
     cases ao with
     | mp kvs =>
      simp only at h
      cases hb1:bareB (kvs.map fun p=>p.1) with
      | false=>rw [hb1] at h; exact h.elim
      | true =>
       cases hb2:bareB (kvs.map fun p=>p.2) with
       | false=>rw [hb1,hb2] at h; exact h.elim
       | true =>
        rw [hb1,hb2] at h
        refine ⟨_,h,fun {X gl En x w V l l0 ts st} hst hs ws hw=>map_out hw fun b hb=>?_⟩
        obtain ⟨b',hb',es,ck,h2,h3,h4⟩:=hs.seg d _ (by rw [hst]; exact hl)
        have:=hs.le.own _ _ hb; rw [hb'] at this; cases this
        have hV2:∀ b o,V b o→seeV w b o:=fun b o hv=>hs.vlt b o hv
        have hkv:∀ {L:List MapEntry} {M:List (AV S×AV S)},All2 (fun (e:MapEntry) (p:AV S×AV S)=>Rep w V Loc.none e.key p.1∧Rep w V Loc.none e.val p.2) L M →
          Reps w (seeV w) Loc.none (L.map fun e=>e.key) (M.map fun p=>p.1)∧Reps w (seeV w) Loc.none (L.map fun e=>e.val) (M.map fun p=>p.2):=fun h=>by
         induction h with
         | nil=>exact ⟨.nil _,.nil _⟩
         | cons h _ ih=>exact ⟨(h.1.more hV2 (Loc.le_refl _)).append ih.1,(h.2.more hV2 (Loc.le_refl _)).append ih.2⟩
        exact .mpf (lt_of_heap h2) h2 ⟨hb1,hb2⟩ (hkv h3.1).1 (hkv h3.1).2 (.nil _)
     | mpz ks us =>
      refine ⟨_,h,fun {X gl En x w V l l0 ts st} hst hs ws hw=>map_out hw fun b hb=>?_⟩
      obtain ⟨b',h1,h2⟩:=hs.seg d _ (by rw [hst]; exact hl)
      have:=hs.le.own _ _ hb; rw [h1] at this; cases this
      exact Reps.more h2 (fun b o hv=>hs.vlt b o hv) (Loc.le_refl _)
     | _=>exact h.elim
   | own d p =>
    simp only [peekK] at h
    rw [findK_eq] at h
    cases hl:lookA sg d with
    | none=>rw [hl] at h; exact h.elim
    | some ao =>
     rw [hl] at h
     cases ao with
     | cells cs =>
      obtain ⟨cs',h,h1⟩:=ih2 _ _ _ h
      obtain ⟨ds,hK,hd⟩:=readK_elim p cs' _ h
      refine ⟨_,hK,fun {X gl En x w V l l0 ts st} hst hs ws hw=>own_out hw (fun b hb=>?_) hd⟩
      obtain ⟨b',hb',c,el,h2,h3,h4⟩:=hs.seg d _ (by rw [hst]; exact hl)
      have:=hs.le.own _ _ hb; rw [hb'] at this; cases this
      refine ⟨c.toList,fun k v hk=>?_,h1 hst hs _ h3⟩
      rw [Nat.zero_add]
      exact ⟨lt_of_heap h2,by rw [cell_of_heap h2]; simpa using hk⟩
     | frz cs =>
      obtain ⟨ds,hK,hd⟩:=readK_elim p cs _ h
      refine ⟨_,hK,fun {X gl En x w V l l0 ts st} hst hs ws hw=>own_out hw (fun b hb=>?_) hd⟩
      obtain ⟨b',ws',h1,h2,h3⟩:=hs.seg d _ (by rw [hst]; exact hl)
      have:=hs.le.own _ _ hb; rw [h1] at this; cases this
      exact ⟨ws',h2.more fun b o hv=>hs.vlt b o hv,h3.more (fun b o hv=>hs.vlt b o hv) (Loc.le_refl _)⟩
     | _=>exact h.elim
   | sl u xs o =>
    cases o with
    | none=>exact ⟨_,by simpa [peekK] using h,fun {X gl En x w V l l0 ts st} hst hs ws hw=>slice_out hw (fun b o hv=>hs.vlt b o hv) fun d e=>by cases e⟩
    | some d =>
     refine ⟨_,by simpa [peekK] using h,fun {X gl En x w V l l0 ts st} hst hs ws hw=>slice_out hw (fun b o hv=>hs.vlt b o hv) fun d' e b n cap ht o ho=>?_⟩
     obtain ⟨u',f,hreg⟩:=hs.regt _ _ (hs.le.tok _ _ ht)
     obtain ⟨o',hc⟩:=hs.mlt (k:=false) (d:=d') (b:=b) ⟨_,hreg,n,cap,hs.le.tok _ _ ht⟩
     exact lt_of_heap hc
   | agg cs =>
    obtain ⟨cs',hK,h1⟩:=ih2 cs sg (fun l=>K (.agg l)) (by simpa [peekK] using h)
    refine ⟨_,hK,fun {X gl En x w V l l0 ts st} hst hs ws hw=>?_⟩
    cases hw with
    | flat h _=>exact h.elim
    | agg r t=>rw [t.nil_inv]; exact .agg (h1 hst hs _ r) (.nil _)
   | tup cs =>
    obtain ⟨cs',hK,h1⟩:=ih2 cs sg (fun l=>K (.tup l)) (by simpa [peekK] using h)
    refine ⟨_,hK,fun {X gl En x w V l l0 ts st} hst hs ws hw=>?_⟩
    cases hw with
    | flat h _=>exact h.elim
    | tup r t=>rw [t.nil_inv]; exact .tup (h1 hst hs _ r) (.nil _)
   | clo fn f c =>
    obtain ⟨f',h2,h1⟩:=ih2 f sg (fun f'=>peekK.peekLK n c sg fun c'=>K (.clo fn f' c')) (by simpa [peekK] using h)
    obtain ⟨c',hK,h3⟩:=ih2 c sg _ h2
    refine ⟨_,hK,fun {X gl En x w V l l0 ts st} hst hs ws hw=>?_⟩
    have hnl:l0.notok.le l0:=⟨fun _ _ h=>h,fun _ _ h=>h,fun _ _ h=>by simp [Loc.notok] at h,fun _ h=>h⟩
    cases hw with
    | flat h _=>exact h.elim
    | clo r r' t=>rw [t.nil_inv]; exact .clo (l:=Loc.none) (h1 hst hs _ (r.more (fun _ _ h=>h) hnl)) (h3 hst hs _ (r'.more (fun _ _ h=>h) hnl)) (.nil _)
   | ref cs=>exact ⟨_,by simpa [peekK] using h,fun {X gl En x w V l l0 ts st} hst hs ws hw=>by
     cases hw with
     | flat h t=>exact h.elim
     | ref h r t=>rw [t.nil_inv]; exact .ref (h.more fun b o hv=>hs.vlt b o hv) (r.more (fun b o hv=>hs.vlt b o hv) (Loc.le_refl _)) (.nil _)⟩
   | arr u m xs=>exact ⟨_,by simpa [peekK] using h,fun {X gl En x w V l l0 ts st} hst hs ws hw=>by
     cases hw with
     | flat h t=>exact h.elim
     | arr hx r t=>rw [t.nil_inv]; exact .arr hx (r.more (fun b o hv=>hs.vlt b o hv) (Loc.le_refl _)) (.nil _)⟩
   | mpf ks us=>exact ⟨_,by simpa [peekK] using h,fun {X gl En x w V l l0 ts st} hst hs ws hw=>by
     cases hw with
     | flat h t=>exact h.elim
     | mpf hv hm hb r r' t=>rw [t.nil_inv]; exact .mpf (hs.vlt _ _ hv) hm hb (r.more (fun b o hv=>hs.vlt b o hv) (Loc.le_refl _)) (r'.more (fun b o hv=>hs.vlt b o hv) (Loc.le_refl _)) (.nil _)⟩
   | _=>exact ⟨_,by simpa [peekK] using h,fun {X gl En x w V l l0 ts st} hst hs ws hw=>by
     cases hw with
     | flat h t=>rw [t.nil_inv]; exact .flat h (.nil _)⟩
  intro vs sg K h
  cases vs with
  | nil=>exact ⟨[],by simpa [peekK.peekLK] using h,fun _ _ ws h=>by rw [h.nil_inv]; exact .nil _⟩
  | cons v vs =>
   simp only [peekK.peekLK] at h
   obtain ⟨v',h,h1⟩:=ih1 _ _ _ h
   obtain ⟨vs',hK,h2⟩:=ih2 _ _ _ h
   refine ⟨_,hK,fun {X gl En x w V l l0 ts st} hst hs ws hw=>?_⟩
   obtain ⟨va,vb,rfl,ha,hb⟩:=hw.uncons
   exact (h1 hst hs _ ha).append (h2 hst hs _ hb)
theorem Reps.keep {w w':World} {V V':Nat→Nat→Prop} {l:Loc} {vs:List Value} {cs:List (AV S)} (h:Reps w V l vs cs):∀ n,cs.all (plainB n)=true→∀ l',Reps w' V' l' vs cs:=by
 have hcons:∀ {n:Nat} {c:AV S} {cs:List (AV S)},(c :: cs).all (plainB n)=true→plainB n c=true∧cs.all (plainB n)=true:=fun h=>by simpa using h
 induction h with
 | nil=>exact fun _ _ _=>.nil _
 | flat hf _ ih =>
  rename_i c _ _ _
  intro n hn l'
  obtain ⟨h1,h2⟩:=hcons hn
  refine .flat ?_ (ih n h2 _)
  cases n with
  | zero=>simp [plainB] at h1
  | succ n=>cases c <;> first | exact hf | (simp [plainB] at h1)
 | agg r _ ih1 ih =>
  intro n hn l'
  obtain ⟨h1,h2⟩:=hcons hn
  cases n with
  | zero=>simp [plainB] at h1
  | succ n=>simp only [plainB] at h1; exact .agg (ih1 n h1 _) (ih _ h2 _)
 | tup r _ ih1 ih =>
  intro n hn l'
  obtain ⟨h1,h2⟩:=hcons hn
  cases n with
  | zero=>simp [plainB] at h1
  | succ n=>simp only [plainB] at h1; exact .tup (ih1 n h1 _) (ih _ h2 _)
 | _=>intro n hn; have h1:=(hcons hn).1; cases n <;> simp [plainB] at h1
end Go.Ab
namespace Go.Ab
open Go
section
variable {P:Program} {w:World}
theorem foldl_lay (vs:List Value) (off:Nat):∀ (k:Nat) (c:Array Value),(vs.zipIdx k).foldl (fun cs p=>cs.setIfInBounds (off+p.2) p.1) c=lay c (off+k) vs:=by
 induction vs with
 | nil=>intro k c; rfl
 | cons v vs ih=>intro k c; simp only [List.zipIdx_cons,List.foldl_cons,ih,lay,Nat.add_assoc]
theorem fill_cons {place:Nat→Option (Nat×Nat)} {c:Array Value} {i off size:Nat} {v:Value} {rest:List (Nat×Value)} (hp:place i=some (off,size)) (hs:v.cells.size=size) (hb:off+size≤c.size) :
  Instr.fill place c ((i,v) :: rest)=Instr.fill place (lay c off v.cells.toList) rest:=by
 have h:=foldl_lay v.cells.toList off 0 c
 simp only [Nat.add_zero] at h
 rw [Instr.fill,hp]
 have h1:(decide (v.cells.size≠size)||decide (off+v.cells.size > c.size))=false:=by
  simp only [hs,Bool.or_eq_false_iff,decide_eq_false_iff_not]; omega
 simp only [h1,Bool.false_eq_true,if_false]
 rw [←h]
 congr 1
 rw [←Array.foldl_toList,Array.toList_zipIdx]
theorem fill_row {size : Nat} : ∀ (ps : List (Nat × Value)) (k:Nat) (pre:List Value) (c:Array Value) (tail:List Value),(∀ j p,ps[j]?=some p→p.1=k+j∧p.2.cells.size=size) →
  pre.length=k * size→c.toList=pre++tail→tail.length=ps.length * size →
  ∃ d,Instr.fill (fun i=>some (i * size,size)) c ps=some d∧d.toList=pre++ps.flatMap fun p=>p.2.cells.toList
 | [], k, pre, c, tail, _, _, hc, ht => ⟨c, rfl, by have:tail=[]:=by simpa using ht
                                                    simp [hc,this]⟩
 | (i,v) :: ps,k,pre,c,tail,hp,hl,hc,ht=>by
  obtain ⟨hi,hs⟩:=hp 0 _ rfl
  simp only [Nat.add_zero] at hi
  subst hi
  simp only [List.length_cons,Nat.succ_mul] at ht
  have hsz:c.size=pre.length+tail.length:=by rw [←Array.length_toList,hc,List.length_append]
  have hs':v.cells.size=size:=hs
  rw [fill_cons (size:=size) rfl hs' (by omega)]
  have hsplit:tail=tail.take size++tail.drop size:=(List.take_append_drop _ _).symm
  have hlay:=lay_toList c pre (tail.take size) (tail.drop size) v.cells.toList (by rw [List.append_assoc,List.take_append_drop]; exact hc) (by rw [Array.length_toList,hs',List.length_take]; omega)
  rw [hl] at hlay
  obtain ⟨d,h1,h2⟩:=fill_row ps (i+1) (pre++v.cells.toList) (lay c (i * size) v.cells.toList) (tail.drop size)
   (fun j p hj=>by have:=hp (j+1) p hj; exact ⟨by rw [this.1]; omega,this.2⟩)
   (by rw [List.length_append,hl,Array.length_toList,hs',Nat.succ_mul]) hlay (by rw [List.length_drop]; omega)
  exact ⟨d,h1,by rw [h2]; simp [List.append_assoc]⟩
theorem growBy_le {L:Nat} (n:Nat):∀ r c,c < L→n≤L→Builtin.growBy n r c≤L+(L+768) / 4
 | 0,c,h,_=>by simp only [Builtin.growBy]; omega
 | r+1,c,h,hn=>by
  simp only [Builtin.growBy]
  split
  ·omega
  rename_i hc
  by_cases h2:c+(c+768) / 4 < L
  ·exact growBy_le n r _ h2 hn
  cases r with
  | zero=>simp only [Builtin.growBy]; omega
  | succ r=>simp only [Builtin.growBy]; rw [if_pos (by omega)]; omega
theorem nextslicecap_le {L n c:Nat} (hn:n≤L) (hc:c < n):Builtin.nextslicecap n c≤L+(L+768) / 4:=by
 unfold Builtin.nextslicecap
 split
 ·omega
 split
 ·omega
 exact growBy_le n 4 c (by omega) hn
theorem run_firstCells {b o n size cap:Nat} {ws:List Value} (hl:ws.length=n * size) (h:∀ k v,ws[k]?=some v→w.cell? ⟨b,o+k,none⟩=some v) :
  (Builtin.firstCells size n (.slice (some ⟨b,o,none⟩) n cap)).run P w=.ok ws.toArray w:=by
 simp only [Builtin.firstCells,←hl]
 exact run_loadCells h
theorem run_firstCells' {size n cap:Nat} {base:Option Addr} {ws:List Value} (hl:ws.length=n * size)
  (h:(base=none∧n=0)∨(n=0∧∃ a,base=some a)∨∃ b o,base=some ⟨b,o,none⟩∧∀ k v,ws[k]?=some v→w.cell? ⟨b,o+k,none⟩=some v) :
  (Builtin.firstCells size n (.slice base n cap)).run P w=.ok ws.toArray w:=by
 rcases h with ⟨rfl,rfl⟩ | ⟨rfl,a,rfl⟩ | ⟨b,o,rfl,h⟩
 ·have:ws=[]:=by simpa using hl
  subst this; simp [Builtin.firstCells,pure]
 ·have:ws=[]:=by simpa using hl
  subst this; simp [Builtin.firstCells,loadCells,loadCellsFrom,pure]
 exact run_firstCells hl h
structure AppTy (P:Program) (sT xT elem:TypeId) (i:TypeInfo) (z:Value) (L:Nat):Prop where
 s:P.underlying sT=some (.slice elem)
 x:∃ e,P.underlying xT=some (.slice e)
 e:P.info? elem=some i
 hz:i.zero=some z
 zs:z.cells.size=i.size
 b0:0 < i.bytes
 b1:(L+(L+768) / 4) * i.bytes≤281474976710656
theorem run_append_room {sT xT elem:TypeId} {i:TypeInfo} {z:Value} {L:Nat} (ht:AppTy P sT xT elem i z L) {b n cap m mcap:Nat} {xb:Option Addr} {ys:List Value} {c:Array Value} {el:TypeId} {type:TypeId} {rest:List TypeId}
  (hroom:n+m≤cap) (hys:(Builtin.firstCells i.size m (.slice xb m mcap)).run P w=.ok ys.toArray w)
  (hc:w.heap[b]?=some (.cells c el (0,0))) (hsz:n * i.size+ys.length≤c.size) (hp:∀ v∈ys,Plain v) :
  (Builtin.append_ (sT :: xT :: rest).toArray type #[.slice (some ⟨b,0,none⟩) n cap,.slice xb m mcap]).run P w =
   .ok (.slice (some ⟨b,0,none⟩) (n+m) cap) (putRow w b (lay c (n * i.size) ys) el):=by
 obtain ⟨e,hx⟩:=ht.x
 have hst:=run_storeCells (P:=P) (b:=b) (o:=n * i.size) (el:=el) ys 0 w c hc (by simpa using hsz) hp
 simp only [Nat.add_zero] at hst
 simp only [Builtin.append_]
 simp [Sem.run_bind,run_underlying ht.s,run_underlying hx,run_sizeOf ht.e,Result.andThen,Sem.run,pure,Builtin.lenOf,hroom,hys,Addr.add_at,hst]
theorem run_append_grows {sT xT elem:TypeId} {i:TypeInfo} {z:Value} {L:Nat} (ht:AppTy P sT xT elem i z L) {base:Option Addr} {n cap m mcap:Nat} {xb:Option Addr} {xs ys:List Value} {type:TypeId} {rest:List TypeId}
  (hroom:cap < n+m) (hlim:n+m≤L)
  (hys:∀ w':World,(∀ k:Nat,w'.heap[k]?=w.heap[k]?)→(Builtin.firstCells i.size m (.slice xb m mcap)).run P w'=.ok ys.toArray w')
  (hxs:∀ w':World,(∀ k:Nat,w'.heap[k]?=w.heap[k]?)→(Builtin.firstCells i.size n (.slice base n cap)).run P w'=.ok xs.toArray w') :
  ∃ newCap tail,n+m≤newCap∧tail.length=(newCap - (n+m)) * i.size ∧
  (Builtin.append_ (sT :: xT :: rest).toArray type #[.slice base n cap,.slice xb m mcap]).run P w =
   .ok (.slice (some ⟨w.heap.size,0,none⟩) (n+m) newCap) (w.drew.alloc (.cells (xs++ys++tail:List Value).toArray elem)):=by
 obtain ⟨e,hx⟩:=ht.x
 let nc:=(Question.appendCap (n+m) cap elem).cut (w.tape w.drawn (Question.appendCap (n+m) cap elem))
 have hnc:n+m≤nc:=by show n+m≤_; simp only [Question.cut,nc]; omega
 refine ⟨nc,(Builtin.zeroCells z.cells (nc - (n+m))).toList,hnc,by simp [Builtin.zeroCells,ht.zs],?_⟩
 have h1:¬ n+m≤cap:=by omega
 have h3:¬ Builtin.nextslicecap (n+m) cap * i.bytes > 2 ^ 48:=by
  have h4:=nextslicecap_le hlim hroom
  have h5:=Nat.mul_le_mul_right i.bytes h4
  have h6:=ht.b1
  omega
 have hb:i.bytes≠0:=by have:=ht.b0; omega
 have hch:(choose (.appendCap (n+m) cap elem)).run P w=.ok nc w.drew:=by
  simp [choose,Sem.run,Question.forced,nc]
 simp only [Builtin.append_]
 simp [Sem.run_bind,run_underlying ht.s,run_underlying hx,run_sizeOf ht.e,run_typeInfo ht.e,Result.andThen,pure,Builtin.lenOf,h1,h3,hb,hch,run_zeroValue ht.e ht.hz,run_newRow]
 rw [hxs w.drew fun _=>rfl]
 simp only
 rw [hys w.drew fun _=>rfl]
 simp
 congr 2
 apply Array.ext'
 simp
end
end Go.Ab
namespace Go.Ab
open Go
def Fo (ro:Option Nat):Fence:={ Fence.wide with round:=ro }
theorem callsIn_fo {ro:Option Nat} {n:Nat} {P:Program} {f:FuncId} {args:Array Value} {w:World} {R:Ending→World→Prop} (h:Calls P f args w R):CallsIn (Fo ro) n P f args w R :=
 (callsIn_wide (n:=n)).2 h
def OpOK (ro:Option Nat) (n:Nat) (P:Program) (o:Oper) (a:Act) (w:World) (R:Value→World→Prop):Prop :=
 ∀ (next:Act→World→Prop) (Q:Exit→Act→World→Prop),(∀ v w',R v w'→next (a.put o.dst v) w')→o.wpIn (Fo ro) n P a w next Q
section
variable {ro:Option Nat} {n:Nat} {P:Program} {o:Oper} {a:Act} {w:World} {R:Value→World→Prop}
theorem OpOK.value {v:Value} {w':World} (hd:∀ c,o.op≠.defer c) (hrun:(execOp a.eval o).run P w=.ok (.value v) w') (hR:R v w'):OpOK ro n P o a w R:=by
 intro next Q hn
 refine ⟨fun _ _=>trivial,?_⟩
 rw [Oper.semAt_plain _ _ _ hd,hrun]
 exact hn v w' hR
theorem OpOK.skip {w':World} (hd:∀ c,o.op≠.defer c) (hrun:(execOp a.eval o).run P w=.ok .skip w') (hR:R Go.undef w'):OpOK ro n P o a w R:=by
 intro next Q hn
 refine ⟨fun _ _=>trivial,?_⟩
 rw [Oper.semAt_plain _ _ _ hd,hrun]
 exact hn _ w' hR
theorem OpOK.enter {f:FuncId} {args:Array Value} {w':World} (hd:∀ c,o.op≠.defer c) (hrun:(execOp a.eval o).run P w=.ok (.enter f args) w')
  (hR:Calls P f args w' fun e w''=>∃ v,e=.returned v∧R v w''):OpOK ro n P o a w R:=by
 intro next Q hn
 refine ⟨fun _ _=>trivial,?_⟩
 rw [Oper.semAt_plain _ _ _ hd,hrun]
 refine ⟨fun h=>by simp [Fo,Fence.wide] at h,callsIn_fo (hR.mono ?_)⟩
 rintro e w'' ⟨v,rfl,h⟩
 exact hn v w'' h
theorem OpOK.mono {R':Value→World→Prop} (h:OpOK ro n P o a w R) (hr:∀ v w',R v w'→R' v w'):OpOK ro n P o a w R' :=
 fun next Q hn=>h next Q fun v w' hR=>hn v w' (hr v w' hR)
end
def Invokes (ro:Option Nat) (n:Nat) (P:Program) (fv:Value) (vs:List Value) (w:World) (R:Value→World→Prop):Prop :=
 ∀ (o:Oper) (a:Act) (c:Call) (f:Operand),o.op=.call c→c.callee=.value f→a.eval f=fv→c.args.toList.map a.eval=vs→OpOK ro n P o a w R
structure EnvStep {X:Type} (gl:Gl) (En:Env X) (x:X) (w:World) (x':X) (w':World):Prop where
 inv:En.inv x' w'
 g:gl.G w'
 size:w.heap.size≤w'.heap.size
 block:∀ b,b < w.heap.size→¬ En.E x b→w'.heap[b]?=w.heap[b]?
 cell:∀ b o,b < w.heap.size→¬ En.EM x b o→eye w' b o=eye w b o
 e:∀ b,En.E x' b→En.E x b∨w.heap.size≤b
 em:∀ b o,En.EM x' b o→En.EM x b o∨w.heap.size≤b
def freshV (V:Nat→Nat→Prop) (w w':World):Nat→Nat→Prop:=fun b o=>V b o∨(w.heap.size≤b∧b < w'.heap.size)
section
variable {S:Sig} [Cod S]
def RetOk (w:World) (V:Nat→Nat→Prop) (w':World) (v:Value) (r:AV S):Prop :=
 match r with
 | .sl u xs (some _)=>(xs=[]∧∃ base,v=.slice base 0 0)∨∃ b cap ws c el,v=.slice (some ⟨b,0,none⟩) xs.length cap∧w.heap.size≤b∧w'.heap[b]?=some (.cells c el (0,0)) ∧
   cap * Cod.size u≤c.size∧xs.length≤cap∧ws.length=xs.length * Cod.size u∧(∀ k q,ws[k]?=some q→w'.cell? ⟨b,k,none⟩=some q)∧∀ V',Reps w' V' Loc.none ws (xs.flatMap (Cod.enc u))
 | r=>Rep w' (freshV V w w') Loc.none v r
def PCalls (P:Program) (gl:Gl) (f:FuncId) (args:List (AV S)) (Q:AV S→Prop):Prop :=
 ∀ (w:World) (V:Nat→Nat→Prop) (vs:List Value),gl.G w→(∀ b o,V b o→b < w.heap.size)→Reps w V Loc.none vs args →
  Calls P f vs.toArray w fun e w'=>∃ v,e=.returned v∧∃ r,Q r∧Grow w w'∧RetOk w V w' v r
def CbOk {X:Type} (P:Program) (gl:Gl) (En:Env X) (B:List (AV S)→X→(AV S→X→Prop)→Prop):Prop :=
 ∀ args x K,B args x K→∀ (ro:Option Nat) (n:Nat) (w:World) (V:Nat→Nat→Prop) (fv:Value) (vs:List Value),En.fv=some fv→En.inv x w→gl.G w→(∀ b o,V b o→b < w.heap.size)→(∀ b o,V b o→¬ En.EM x b o) →
  Reps w V Loc.none vs args→Invokes ro n P fv vs w fun v w'=>∃ r x',K r x'∧EnvStep gl En x w x' w'∧Rep w' V Loc.none v r
structure SubStep {X:Type} (gl:Gl) (En:Env X) (x:X) (w:World) (U:Nat→Prop) (x':X) (w':World):Prop where
 inv:En.inv x' w'
 g:gl.G w'
 size:w.heap.size≤w'.heap.size
 block:∀ b,b < w.heap.size→¬ En.E x b→¬ U b→w'.heap[b]?=w.heap[b]?
 cell:∀ b o,b < w.heap.size→¬ U b→¬ En.EM x b o→eye w' b o=eye w b o
 e:∀ b,En.E x' b→En.E x b∨w.heap.size≤b
 em:∀ b o,En.EM x' b o→En.EM x b o∨w.heap.size≤b
theorem SubStep.env {X:Type} {gl:Gl} {En:Env X} {x x':X} {w w':World} (h:SubStep gl En x w (fun _=>False) x' w'):EnvStep gl En x w x' w' :=
 ⟨h.inv,h.g,h.size,fun b hb hE=>h.block b hb hE id,fun b o hb hM=>h.cell b o hb id hM,h.e,h.em⟩
theorem EnvStep.sub {X:Type} {gl:Gl} {En:Env X} {x x':X} {w w':World} (h:EnvStep gl En x w x' w') (U:Nat→Prop):SubStep gl En x w U x' w' :=
 ⟨h.inv,h.g,h.size,fun b hb hE _=>h.block b hb hE,fun b o hb _ hM=>h.cell b o hb hM,h.e,h.em⟩
def lc (fv:Option Value) (lu:Nat→Option Nat):Loc:=⟨fun _=>none,lu,fun _=>none,fv⟩
structure UpsOk (gl:Gl) (w:World) (V:Nat→Nat→Prop) (l:Loc) (ups:List (Nat×AO S)) (U:Nat→Prop):Prop where
 ok:∀ d ao,lookA ups d=some ao→UpOk w V l l d ao
 mine:∀ d ao b,lookA ups d=some ao→MutU ao→l.up d=some b→U b∧gl.g0≤b
 dis:∀ d ao d' ao' b,lookA ups d=some ao→MutU ao→lookA ups d'=some ao'→MutU ao'→l.up d=some b→l.up d'=some b→d=d'
def UCalls {X:Type} (P:Program) (gl:Gl) (En:Env X) (f:FuncId) (args:List (AV S)) (ups:List (Nat×AO S)) (x:X) (Q:AV S→List (Nat×AO S)→X→Prop):Prop :=
 ∀ (w:World) (V:Nat→Nat→Prop) (vs:List Value) (lu:Nat→Option Nat) (U:Nat→Prop),En.inv x w→gl.G w→(∀ b o,V b o→b < w.heap.size)→(∀ b o,V b o→¬ En.EM x b o) →
  UpsOk gl w V (lc En.fv lu) ups U→(∀ b,U b→¬ En.E x b)→Reps w V (lc En.fv lu) vs args →
  Calls P f vs.toArray w fun e w'=>∃ v,e=.returned v∧∃ r ups' x' V',Q r ups' x'∧upB ups ups'=true∧SubStep gl En x w U x' w' ∧
   (∀ b o,V b o→V' b o∧eye w' b o=eye w b o)∧(∀ b o,V' b o→b < w'.heap.size∧¬ En.EM x' b o∧(V b o∨U b∨w.heap.size≤b))∧UpsOk gl w' V' (lc En.fv lu) ups' U∧Rep w' V' Loc.none v r
def ICalls (P:Program) (gl:Gl) (f:FuncId) (caps:List (AV S)) (vss:List (List (AV S))):Prop :=
 ∀ (Y:Type) (En:Env Y) (B:List (AV S)→Y→(AV S→Y→Prop)→Prop),CbOk P gl En B→(∀ args y K K',(∀ r y,K r y→K' r y)→B args y K→B args y K') →
  ∀ (y:Y) (Q:Y→Prop),eachB B vss y Q→∀ (w:World) (V:Nat→Nat→Prop) (fn:Fn) (ff fc:Array Value) (vs:List Value),En.fv=some (.func fn ff fc)→En.inv y w→gl.G w →
  (∀ b o,V b o→b < w.heap.size)→(∀ b o,V b o→¬ En.EM y b o)→Reps w V Loc.none vs caps →
  Calls P f (Value.func fn ff fc :: vs).toArray w fun e w'=>∃ v,e=.returned v∧∃ y',Q y'∧EnvStep gl En y w y' w'
def MutB (l:Loc) (st:St S) (b:Nat):Prop:=∃ k d,Mut l st k d b
def Env.lent (w0:World):Env Unit where
 fv:=none
 ups _:=none
 owns _:=none
 fz _ _ _:=False
 inv _ w:=w.os=w0.os∧w.tape=w0.tape∧w.output=w0.output
 E _ _:=False
 EM _ _ _:=False
 lt _ _ _ _ h:=h.elim
 emE _ _ _ h:=h
 stable _ _ _ h k:=⟨k.os.trans h.1,k.tape.trans h.2.1,k.output.trans h.2.2⟩
structure Lent (w:World) (V:Nat→Nat→Prop) (U:Nat→Prop) (w':World) (V':Nat→Nat→Prop):Prop where
 os:w'.os=w.os
 tape:w'.tape=w.tape
 output:w'.output=w.output
 size:w.heap.size≤w'.heap.size
 block:∀ b,b < w.heap.size→¬ U b→w'.heap[b]?=w.heap[b]?
 v:∀ b o,V b o→V' b o∧eye w' b o=eye w b o
 v':∀ b o,V' b o→V b o∨U b∨w.heap.size≤b
def LCalls (P:Program) (gl:Gl) (f:FuncId) (args:List (AV S)) (sg:List (Nat×AO S)) (Q:AV S→List (Nat×AO S)→Prop):Prop :=
 ∀ (w:World) (V:Nat→Nat→Prop) (l:Loc) (vs:List Value),SR gl (Env.lent w) () w V l vs.toArray { tmps:=args,seg:=sg,up:=[] } →
  Calls P f vs.toArray w fun e w'=>∃ v,e=.returned v∧∃ r sg' V' l',Q r sg'∧SR gl (Env.lent w) () w' V' l' #[v] { tmps:=[r],seg:=sg',up:=[] } ∧
   Lent w V (MutB l ({ tmps:=args,seg:=sg,up:=[] }:St S)) w' V'∧(∀ e b,l.own e=some b→l'.own e=some b) ∧
   ∀ b,MutB l' ({ tmps:=[r],seg:=sg',up:=[] }:St S) b→MutB l ({ tmps:=args,seg:=sg,up:=[] }:St S) b∨w.heap.size≤b
def Opens (P:Program) (f:FuncId):Prop:=∃ fn,P.funcs[f]?=some fn∧fn.body.isSome=true∧(fn.name == "runtime.NumGoroutine")=false
def MapOk (P:Program) (t:TypeId) (m:MapI S):Prop :=
 ∃ key kd,P.underlying t=some (.map key m.elem)∧P.underlying key=some kd∧(∃ i z,P.info? m.elem=some i∧i.zero=some z∧z.cells=#[z])∧∀ k k' b,m.keq k k'=some b→∀ (w:World) V V' l l' v v',Rep w V l v k→Rep w V' l' v' k' →
  (∀ e,(Instr.checkKey e 10000 key v).run P w=.ok () w)∧(Op.equal key v v').run P w=.ok b w∧(Instr.sameNow kd v v'=some b∨Instr.sameNow kd v v'=none)∧(b=true→v'=v∧Instr.sameBits 10000 v' v=true)
def EqtOk (P:Program) (eqt:TypeId→List (AV S)→List (AV S)→Option Bool):Prop :=
 ∀ t xs ys b,eqt t xs ys=some b→∀ (w:World) V l v u y z,Rep w V l v (.agg xs)→Rep w V l u (.agg ys) →
  (do eqGuard .eql t y z v u; binOp .eql t v u:Sem Value).run P w=.ok (.bool b) w∧(do eqGuard .neq t y z v u; binOp .neq t v u:Sem Value).run P w=.ok (.bool (!b)) w
def RgOk {X:Type} (P:Program) (gl:Gl) (rg:Array Oper→St S→X→(St S→X→Prop)→Prop):Prop :=
 ∀ ops st x K,rg ops st x K→∀ (En:Env X) (ro:Option Nat) (n id:Nat) (a:Act) (w:World) (V:Nat→Nat→Prop) (l:Loc) (Q:Exit→Act→World→Prop),SR gl En x w V l a.tmps st →
  (∀ a' w' V' l' st' x',a'.defers=a.defers→K st' x'→SR gl En x' w' V' l' a'.tmps st'→Q .normal a' w')→(Code.region id ops true).wpIn (Fo ro) n P Q a w
structure ParOk {X:Type} (P:Program) (gl:Gl) (par:Par S X) (En:Env X):Prop where
 ti:TisOk P par.ti
 call:∀ f args Q,par.call f args Q→PCalls P gl f args Q
 mono:∀ f args Q Q',(∀ r,Q r→Q' r)→par.call f args Q→par.call f args Q'
 wit:∀ f args Q,par.call f args Q→∃ r,Q r
 mix:P.follows .mixedOrders=true
 fn:∀ f args Q,par.call f args Q→Opens P f
 ucall:∀ f args ups x Q,par.ucall f args ups x Q→UCalls P gl En f args ups x Q
 ufn:∀ f args ups x Q,par.ucall f args ups x Q→Opens P f
 iter:∀ f caps vss,par.iter f caps vss→ICalls P gl f caps vss
 ifn:∀ f caps vss,par.iter f caps vss→Opens P f
 lcall:∀ f args sg Q,par.lcall f args sg Q→LCalls P gl f args sg Q
 lfn:∀ f args sg Q,par.lcall f args sg Q→Opens P f
 rg:RgOk P gl par.rg
 cb:CbOk P gl En par.cb
 eqt:EqtOk P par.eqt
 mi:∀ t m,lookA par.mi t=some m→MapOk P t m
 ai:∀ t e,lookA par.ai t=some e→∃ n,P.underlying t=some (.array n e)
structure Env.Ext {X:Type} (gl:Gl) (En En':Env X):Prop where
 fv:En'.fv=En.fv
 inv:∀ x w,En'.inv x w→En.inv x w
 e:∀ x b,En.E x b→En'.E x b
 em:∀ x b o,En.EM x b o→En'.EM x b o
 emN:∀ x w x' b o,En'.inv x w→w.heap.size≤b→En'.EM x' b o→En.EM x' b o
 lift:∀ x w U x' w',En'.inv x w→(∀ b,U b→¬ En'.E x b)→SubStep gl En x w U x' w'→SubStep gl En' x w U x' w'
theorem CbOk.ext {X:Type} {P:Program} {gl:Gl} {En En':Env X} {B:List (AV S)→X→(AV S→X→Prop)→Prop} (h:CbOk P gl En B) (he:Env.Ext gl En En'):CbOk P gl En' B:=by
 intro args x K hc ro n w V fv vs hfv hinv hg hlt hem hr o a c f ho hcal hev hargs
 refine OpOK.mono (h args x K hc ro n w V fv vs (he.fv ▸ hfv) (he.inv _ _ hinv) hg hlt (fun b o hv hm=>hem b o hv (he.em _ _ _ hm)) hr o a c f ho hcal hev hargs) ?_
 rintro v w' ⟨r,x',hK,hs,hrep⟩
 exact ⟨r,x',hK,(he.lift _ _ _ _ _ hinv (fun _ h=>h.elim) (hs.sub _)).env,hrep⟩
theorem ParOk.ext {X:Type} {P:Program} {gl:Gl} {par:Par S X} {En En':Env X} (h:ParOk P gl par En) (he:Env.Ext gl En En'):ParOk P gl par En' where
 ti:=h.ti
 call:=h.call
 mono:=h.mono
 wit:=h.wit
 mix:=h.mix
 fn:=h.fn
 ucall:=fun f args ups x Q hc w V vs lu U hinv hg hlt hem hu hU hr=>by
  rw [he.fv] at hu hr
  refine (h.ucall f args ups x Q hc w V vs lu U (he.inv _ _ hinv) hg hlt (fun b o hv hm=>hem b o hv (he.em _ _ _ hm)) hu (fun b hb hE=>hU b hb (he.e _ _ hE)) hr).mono ?_
  rintro e w' ⟨v,he',r,ups',x',V',h1,h2,h3,h4,h5,h6,h7⟩
  have hst:=he.lift _ _ _ _ _ hinv hU h3
  refine ⟨v,he',r,ups',x',V',h1,h2,hst,h4,fun b o hv=>⟨(h5 b o hv).1,fun hm=>?_,(h5 b o hv).2.2⟩,by rw [he.fv]; exact h6,h7⟩
  rcases Nat.lt_or_ge b w.heap.size with hb | hb
  ·rcases hst.em b o hm with hm | hm
   ·rcases (h5 b o hv).2.2 with h8 | h8 | h8
    ·exact hem b o h8 hm
    ·exact hU b h8 (En'.emE _ _ _ hm)
    omega
   omega
  exact (h5 b o hv).2.1 (he.emN _ _ _ _ _ hinv hb hm)
 ufn:=h.ufn
 iter:=h.iter
 ifn:=h.ifn
 lcall:=h.lcall
 lfn:=h.lfn
 rg:=h.rg
 cb:=h.cb.ext he
 eqt:=h.eqt
 mi:=h.mi
 ai:=h.ai
variable {X:Type} {gl:Gl} {En:Env X} {x x':X} {w w':World} {V V':Nat→Nat→Prop} {l l0:Loc} {ts:Array Value} {st:St S}
theorem SRx.env (h:SRx gl En x w V l l0 ts st) (he:EnvStep gl En x w x' w'):SRx gl En x' w' V l l0 ts st:=by
 have hc:∀ b o,V b o→eye w' b o=eye w b o:=fun b o hv=>he.cell b o (h.vlt b o hv) (h.vem b o hv)
 have hmb:∀ {k d b},Mut l st k d b→b < w.heap.size∧¬ En.E x b:=fun hm=>⟨by obtain ⟨o,hc⟩:=h.mlt hm; exact lt_of_heap hc,(h.mine _ _ _ hm).1⟩
 have hblk:∀ {k d b},Mut l st k d b→w'.heap[b]?=w.heap[b]?:=fun hm=>he.block _ (hmb hm).1 (hmb hm).2
 have hr:∀ {l1:Loc} {vs:List Value} {cs:List (AV S)},(∀ d t,l1.tok d=some t→l.tok d=some t)→Reps w V l1 vs cs→Reps w' V l1 vs cs:=fun hl1 hr =>
  hr.mono (fun _ _ h=>h) hc _ (Loc.le_refl _) fun d b n cap ht o _=>by
   obtain ⟨u,f,hreg⟩:=h.regt _ _ (hl1 _ _ ht)
   exact cell_congr (hblk (k:=false) (d:=d) ⟨_,hreg,n,cap,hl1 _ _ ht⟩) o
 have hat:∀ {b o:Nat} {ws:List Value},CellsAt w V b o ws→CellsAt w' V b o ws:=fun h=>h.mono (fun _ _ h=>h) hc
 have hno:∀ d t,Loc.none.tok d=some t→l.tok d=some t:=fun d t e=>by simp [Loc.none] at e
 have hnk:∀ d t,l0.notok.tok d=some t→l.tok d=some t:=fun d t e=>by simp [Loc.notok] at e
 refine ⟨h.le,h.cb.world (fun _ _ h=>h) hc,he.inv,he.g,fun b o hv=>Nat.lt_of_lt_of_le (h.vlt b o hv) he.size,fun b o hv hem=>(he.em b o hem).elim (h.vem b o hv) fun h2=>absurd (h.vlt b o hv) (by omega),
  h.sz,fun i c hi=>hr h.le.tok (h.tmps i c hi),fun d ao hd=>?_,fun d ao hd=>?_,h.rego,h.regt,fun k d b hm=>⟨fun hE=>(he.e b hE).elim (hmb hm).2 fun h2=>absurd (hmb hm).1 (by omega),(h.mine _ _ _ hm).2⟩,h.dis⟩
 ·have:=h.seg d ao hd
  cases ao with
  | cells cs =>
   obtain ⟨b,hb,c,el,h1,h2,h3⟩:=this
   exact ⟨b,hb,c,el,by rw [hblk (k:=false) (d:=d) ⟨_,hd,hb⟩]; exact h1,hr h.le.tok h2,h3⟩
  | frz cs =>
   obtain ⟨b,ws,hb,h1,h2⟩:=this
   exact ⟨b,ws,hb,hat h1,hr hno h2⟩
  | row u f =>
   obtain ⟨t,ht,h1⟩:=this
   refine ⟨t,ht,?_⟩
   cases t with
   | no=>trivial
   | «at» b n cap =>
    obtain ⟨c,el,h2,h3⟩:=h1
    exact ⟨c,el,by rw [hblk (k:=false) (d:=d) ⟨_,hd,n,cap,ht⟩]; exact h2,h3⟩
  | mp kvs =>
   obtain ⟨b,hb,hmp⟩:=this
   exact ⟨b,hb,hmp.mono (hblk (k:=false) (d:=d) ⟨_,hd,hb⟩) (hr hno) fun o=>by obtain ⟨es,ck,_,_,h3⟩:=hmp; exact h3 o⟩
  | mpz ks us=>obtain ⟨b,hb,hmp⟩:=this; exact ⟨b,hb,hr hno hmp⟩
 have:=h.up d ao hd
 cases ao with
 | cells cs =>
  obtain ⟨b,hb,c,el,h1,h2,h3⟩:=this
  exact ⟨b,hb,c,el,by rw [hblk (k:=true) (d:=d) ⟨_,hd,trivial,hb⟩]; exact h1,hr hnk h2,h3⟩
 | frz cs =>
  obtain ⟨b,ws,hb,h1,h2⟩:=this
  exact ⟨b,ws,hb,hat h1,hr hno h2⟩
 | row u f=>trivial
 | mp kvs =>
  obtain ⟨b,hb,hmp⟩:=this
  exact ⟨b,hb,hmp.mono (hblk (k:=true) (d:=d) ⟨_,hd,trivial,hb⟩) (hr hno) fun o=>by obtain ⟨es,ck,_,_,h3⟩:=hmp; exact h3 o⟩
 | mpz ks us=>obtain ⟨b,hb,hmp⟩:=this; exact ⟨b,hb,hr hno hmp⟩
theorem constK_elim {v:Value} {K:AV S→Prop} (h:constK v K):∃ c,K c∧∀ w V l,Rep w V l v c:=by
 unfold constK at h
 split at h <;> first
  | exact h.elim
  | exact ⟨_,h,fun w V l=>.flat rfl (.nil _)⟩
  | exact ⟨_,h,fun w V l=>.flat ⟨none,rfl⟩ (.nil _)⟩
theorem evK_elim {a:Act} (hs:SRx gl En x w V l l0 a.tmps st) {y:Operand} {K:AV S→Prop} (h:evK st.tmps y K):∃ c,K c∧Rep w V l0 (a.eval y) c:=by
 cases y with
 | tmp t =>
  simp only [evK,nthK_eq] at h
  exact ⟨_,h,hs.tmp t⟩
 | const v =>
  obtain ⟨c,h1,h2⟩:=constK_elim h
  exact ⟨c,h1,h2 _ _ _⟩
 | func f=>exact ⟨_,h,.clo (.nil _) (.nil _) (.nil _)⟩
 | global g=>exact h.elim
theorem evLK_elim {a:Act} (hs:SRx gl En x w V l l0 a.tmps st):∀ {ys:List Operand} {K:List (AV S)→Prop},evLK st.tmps ys K→∃ cs,K cs∧cs.length=ys.length∧Reps w V l0 (ys.map a.eval) cs
 | [],K,h=>⟨[],h,rfl,.nil _⟩
 | y :: ys,K,h=>by
  unfold evLK at h
  simp only [mapK] at h
  obtain ⟨c,h,h1⟩:=evK_elim hs h
  obtain ⟨cs,h,h2,h3⟩:=evLK_elim hs (K:=fun l=>K (c :: l)) h
  exact ⟨c :: cs,h,by simp [h2],h1.append h3⟩
theorem tyK_elim {par:Par S X} {t:Nat} {K:TyI S→Prop} {P:Program} (ht:TisOk P par.ti) (h:tyK par t K):∃ ty,K ty∧TyOk P t ty:=by
 unfold tyK at h
 rw [findK_eq] at h
 cases hl:lookA par.ti t with
 | none=>rw [hl] at h; exact h.elim
 | some ty=>rw [hl] at h; exact ⟨ty,h,ht _ _ hl⟩
end
end Go.Ab
namespace Go.Ab
open Go
section
variable {S:Sig} [Cod S]
variable {w w':World} {V V':Nat→Nat→Prop} {l l0:Loc}
def FlatShape:AV S→Prop
 | .ref _=>False
 | .sl _ _ _=>False
 | .clo ..=>False
 | .agg _=>False
 | .tup _=>False
 | .arr ..=>False
 | .mpf ..=>False
 | _=>True
theorem Rep.flat' {v:Value} {c:AV S} (h:Rep w V l v c) (hc:FlatShape c):Flat l v c:=by
 unfold Rep at h
 generalize hvs:[v]=vs at h
 generalize hcs:[c]=cs at h
 cases h with
 | nil=>cases hcs
 | flat h t=>cases hvs; cases hcs; exact h
 | ref h r t=>cases hcs; exact hc.elim
 | sl h r hcp t=>cases hcs; exact hc.elim
 | tok ht h r hcp t=>cases hcs; exact hc.elim
 | clo r r' t=>cases hcs; exact hc.elim
 | agg r t=>cases hcs; exact hc.elim
 | tup r t=>cases hcs; exact hc.elim
 | arr hx r t=>cases hcs; exact hc.elim
 | mpf hv hm hb r r' t=>cases hcs; exact hc.elim
theorem Rep.bool {v:Value} {b:Bool} (h:Rep w V l v (.bool b:AV S)):v=.bool b:=h.flat' trivial
theorem Rep.int {v:Value} {k:IntKind} {n:Int} (h:Rep w V l v (.int k n:AV S)):v=.int k n:=h.flat' trivial
theorem Rep.str {v:Value} {s:ByteArray} (h:Rep w V l v (.str s:AV S)):v=.string s:=h.flat' trivial
theorem Rep.nils {v:Value} (h:Rep w V l v (.nils:AV S)):∃ base,v=.slice base 0 0:=h.flat' trivial
theorem Rep.nil0 {v:Value} (h:Rep w V l v (.nil0:AV S)):v=.slice none 0 0:=h.flat' trivial
theorem Rep.lens {v:Value} {n:Nat} (h:Rep w V l v (.lens n:AV S)):∃ base cap,v=.slice base n cap:=h.flat' trivial
theorem Rep.own {v:Value} {d:Nat} {p:List Stp} (h:Rep w V l v (.own d p:AV S)):∃ b,l.own d=some b∧v=.pointer (some ⟨b,poff p,none⟩):=h.flat' trivial
theorem Rep.up {v:Value} {d:Nat} {p:List Stp} (h:Rep w V l v (.up d p:AV S)):∃ b,l.up d=some b∧v=.pointer (some ⟨b,poff p,none⟩):=h.flat' trivial
theorem Rep.elp {v:Value} {u:S.U} {d i:Nat} {p:List Stp} (h:Rep w V l v (.elp u d i p:AV S)):∃ b n cap,(l.tok d=some (.at b n cap)∧(i+1) * Cod.size u≤n)∧v=.pointer (some ⟨b,i * Cod.size u+poff p,none⟩):=h.flat' trivial
theorem Rep.cb {v:Value} (h:Rep w V l v (.cb:AV S)):l.cbv=some v∧∃ fn f c,v=.func fn f c:=h.flat' trivial
theorem Rep.ref {v:Value} {ds:List (AV S)} (h:Rep w V l v (.ref ds)):∃ b o ws,v=.pointer (some ⟨b,o,none⟩)∧CellsAt w V b o ws∧Reps w V Loc.none ws ds:=by
 unfold Rep at h
 generalize hvs:[v]=vs at h
 cases h with
 | flat h t=>cases hvs; exact h.elim
 | ref h r t=>cases hvs; exact ⟨_,_,_,rfl,h,r⟩
theorem Rep.agg {v:Value} {ds:List (AV S)} (h:Rep w V l v (.agg ds)):∃ c,v=.agg c∧Reps w V l c.toList ds:=by
 unfold Rep at h
 generalize hvs:[v]=vs at h
 cases h with
 | flat h t=>cases hvs; exact h.elim
 | agg r t=>cases hvs; exact ⟨_,rfl,r⟩
theorem Rep.tup {v:Value} {ds:List (AV S)} (h:Rep w V l v (.tup ds)):∃ c,v=.tuple c∧Reps w V l c.toList ds:=by
 unfold Rep at h
 generalize hvs:[v]=vs at h
 cases h with
 | flat h t=>cases hvs; exact h.elim
 | tup r t=>cases hvs; exact ⟨_,rfl,r⟩
theorem Rep.clo {v:Value} {fn:Fn} {f c:List (AV S)} (h:Rep w V l v (.clo fn f c)):∃ f' c',v=.func fn f' c'∧Reps w V l.notok f'.toList f∧Reps w V l.notok c'.toList c:=by
 unfold Rep at h
 generalize hvs:[v]=vs at h
 cases h with
 | flat h t=>cases hvs; exact h.elim
 | clo r r' t=>cases hvs; exact ⟨_,_,rfl,r,r'⟩
theorem Rep.sl {v:Value} {u:S.U} {xs:List (S.T u)} {o:Option Nat} (h:Rep w V l v (.sl u xs o)) :
  ∃ base cap ws,v=.slice base xs.length cap∧Reps w V Loc.none ws (xs.flatMap (Cod.enc u))∧((xs=[]∧ws=[])∨∃ b off,base=some ⟨b,off,none⟩∧∀ k v,ws[k]?=some v→w.cell? ⟨b,off+k,none⟩=some v):=by
 unfold Rep at h
 generalize hvs:[v]=vs at h
 cases h with
 | flat h t =>
  cases hvs
  cases o with
  | none=>obtain ⟨hx,base,cap,hv⟩:=h; subst hx; exact ⟨base,cap,[],hv,.nil _,.inl ⟨rfl,rfl⟩⟩
  | some d=>obtain ⟨hx,_,base,hv⟩:=h; subst hx; exact ⟨base,0,[],hv,.nil _,.inl ⟨rfl,rfl⟩⟩
 | sl h r hcp t=>cases hvs; exact ⟨_,_,_,rfl,r,.inr ⟨_,_,rfl,fun k v hk=>(h k v hk).2⟩⟩
 | tok ht h r hcp t=>cases hvs; exact ⟨_,_,_,rfl,r,.inr ⟨_,_,rfl,fun k v hk=>by rw [Nat.zero_add]; exact h k v hk⟩⟩
theorem Rep.slcap {v:Value} {u:S.U} {xs:List (S.T u)} {o:Option Nat} (h:Rep w V l v (.sl u xs o)):∃ base cap,v=.slice base xs.length cap∧xs.length≤cap:=by
 unfold Rep at h
 generalize hvs:[v]=vs at h
 cases h with
 | flat h t =>
  cases hvs
  cases o with
  | none=>obtain ⟨hx,base,cap,hv⟩:=h; subst hx; exact ⟨base,cap,hv,Nat.zero_le _⟩
  | some d=>obtain ⟨hx,_,base,hv⟩:=h; subst hx; exact ⟨base,0,hv,Nat.zero_le _⟩
 | sl h r hcp t=>cases hvs; exact ⟨_,_,rfl,hcp⟩
 | tok ht h r hcp t=>cases hvs; exact ⟨_,_,rfl,hcp⟩
theorem plain_of {ws:List Value} {cs:List (AV S)} [LawCod S] (h:Reps w V l ws cs) (hc:cs.all cellOk=true):∀ v∈ws,Plain v:=by
 induction h with
 | nil=>intro v hv; cases hv
 | @flat l v c vs cs h _ ih =>
  simp only [List.all_cons,Bool.and_eq_true] at hc
  intro u hu
  rcases List.mem_cons.1 hu with rfl | hu
  ·have hc1:=hc.1
   cases c with
   | undef=>cases hc1
   | skip=>cases hc1
   | agg=>cases hc1
   | tup=>cases hc1
   | mpv=>obtain ⟨b,_,rfl⟩:=h; trivial
   | mpu=>obtain ⟨b,_,rfl⟩:=h; trivial
   | elp=>cases hc1
   | cb=>obtain ⟨_,_,_,_,rfl⟩:=h; trivial
   | lens=>obtain ⟨_,_,rfl⟩:=h; trivial
   | bool=>rw [show u=_ from h]; trivial
   | int=>rw [show u=_ from h]; trivial
   | str=>rw [show u=_ from h]; trivial
   | nilp=>rw [show u=_ from h]; trivial
   | nil0=>rw [show u=_ from h]; trivial
   | ref=>exact h.elim
   | own=>obtain ⟨b,_,rfl⟩:=h; trivial
   | up=>obtain ⟨b,_,rfl⟩:=h; trivial
   | nils=>obtain ⟨_,rfl⟩:=h; trivial
   | sl u xs o =>
    cases o with
    | none=>obtain ⟨_,_,_,rfl⟩:=h; trivial
    | some d=>obtain ⟨_,_,_,rfl⟩:=h; trivial
   | arr=>exact h.elim
   | mpf=>exact h.elim
   | clo=>exact h.elim
   | nilf=>rw [show u=_ from h]; trivial
  exact ih hc.2 u hu
 | ref _ _ _ _ ih =>
  simp only [List.all_cons,Bool.and_eq_true] at hc
  intro u hu
  rcases List.mem_cons.1 hu with rfl | hu
  ·trivial
  exact ih hc.2 u hu
 | sl _ _ _ _ _ ih =>
  simp only [List.all_cons,Bool.and_eq_true] at hc
  intro u hu
  rcases List.mem_cons.1 hu with rfl | hu
  ·trivial
  exact ih hc.2 u hu
 | tok _ _ _ _ _ _ ih =>
  simp only [List.all_cons,Bool.and_eq_true] at hc
  intro u hu
  rcases List.mem_cons.1 hu with rfl | hu
  ·trivial
  exact ih hc.2 u hu
 | clo _ _ _ _ _ ih =>
  simp only [List.all_cons,Bool.and_eq_true] at hc
  intro u hu
  rcases List.mem_cons.1 hu with rfl | hu
  ·trivial
  exact ih hc.2 u hu
 | agg _ _ _ _=>simp [cellOk] at hc
 | tup _ _ _ _=>simp [cellOk] at hc
 | arr _ _ _ ih1 ih2 =>
  simp only [List.all_cons,Bool.and_eq_true] at hc
  intro u hu
  rcases List.mem_append.1 hu with hu | hu
  ·refine ih1 ?_ u hu
   rw [List.all_eq_true]
   intro c hc'
   obtain ⟨y,_,hy⟩:=List.mem_flatMap.1 hc'
   exact List.all_eq_true.1 (LawCod.cell _ y) c hy
  exact ih2 hc.2 u hu
 | mpf _ _ _ _ _ _ _ _ ih =>
  simp only [List.all_cons,Bool.and_eq_true] at hc
  intro u hu
  rcases List.mem_cons.1 hu with rfl | hu
  ·trivial
  exact ih hc.2 u hu
theorem cellsK_elim [LawCod S] {c:AV S} {K:List (AV S)→Prop} (h:cellsK c K):∃ vs,K vs∧∀ w V l v,Rep w V l v c→Reps w V l v.cells.toList vs∧∀ u∈v.cells.toList,Plain u:=by
 have hone:∀ {c:AV S},cellOk c=true→K [c]→(∀ cs,c≠.agg cs)→∃ vs,K vs∧∀ w V l v,Rep w V l v c→Reps w V l v.cells.toList vs∧∀ u∈v.cells.toList,Plain u:=by
  intro c hc hK hna
  refine ⟨_,hK,fun w V l v hr=>?_⟩
  have hp:=plain_of hr (by simp [hc]) v (by simp)
  have:v.cells=#[v]:=by cases v <;> first | rfl | exact hp.elim
  rw [this]
  exact ⟨hr,fun u hu=>by simp at hu; subst hu; exact hp⟩
 cases c with
 | agg cs =>
  simp only [cellsK] at h
  cases hc:cs.all cellOk with
  | false=>rw [hc] at h; exact h.elim
  | true =>
   rw [hc] at h
   refine ⟨cs,h,fun w V l v hr=>?_⟩
   obtain ⟨c,rfl,hr'⟩:=hr.agg
   exact ⟨hr',plain_of hr' hc⟩
 | undef=>exact absurd h (by simp [cellsK,cellOk])
 | skip=>exact absurd h (by simp [cellsK,cellOk])
 | tup vs=>exact absurd h (by simp [cellsK,cellOk])
 | elp u d i p=>exact absurd h (by simp [cellsK,cellOk])
 | _=>exact hone rfl (by simpa [cellsK,cellOk] using h) (fun cs e=>by cases e)
end
section
variable {S:Sig} [Cod S] {X:Type} {gl:Gl} {En:Env X} {x:X} {w:World} {V:Nat→Nat→Prop} {l:Loc} {st:St S}
def Res (gl:Gl) (En:Env X) (a:Act) (K:AV S→St S→X→Prop) (v:Value) (w':World):Prop :=
 ∃ c st' x' V' l',K c st' x'∧SR gl En x' w' V' l' a.tmps st'∧Rep w' V' l' v c
theorem run_v {P:Program} {s:Sem Value} {v:Value} {w':World} (h:s.run P w=.ok v w'):(do pure (Next.value (←s)):Sem Next).run P w=.ok (.value v) w':=by
 simp [Sem.run_bind,h,Result.andThen,pure]
theorem run_u {P:Program} {s:Sem Unit} {w':World} (h:s.run P w=.ok () w'):(do s; pure Next.skip:Sem Next).run P w=.ok .skip w':=by
 simp [Sem.run_bind,h,Result.andThen,pure]
theorem intBin_run {P:Program} {op:BinOp} {k:IntKind} {p q:Int} {K:AV S→Prop} (h:intBinK op k p q K) :
  ∃ c v,K c∧(∀ w V l,Rep w V l v c)∧(binOp op 0 (.int k p) (.int k q)).run P w=.ok v w∧∀ t,(binOp op t (.int k p) (.int k q))=binOp op 0 (.int k p) (.int k q):=by
 cases op <;> simp only [intBinK] at h <;> try exact h.elim
 case quo=>exact ⟨_,.int k _,h.2,fun _ _ _=>.flat rfl (.nil _),by simp [binOp,Op.intDiv,h.1,pure],fun _=>rfl⟩
 case rem=>exact ⟨_,.int k _,h.2,fun _ _ _=>.flat rfl (.nil _),by simp [binOp,Op.intDiv,h.1,pure],fun _=>rfl⟩
 case add=>exact ⟨_,.int k _,h,fun _ _ _=>.flat rfl (.nil _),by simp [binOp,Op.intArith,pure],fun _=>rfl⟩
 case sub=>exact ⟨_,.int k _,h,fun _ _ _=>.flat rfl (.nil _),by simp [binOp,Op.intArith,pure],fun _=>rfl⟩
 case mul=>exact ⟨_,.int k _,h,fun _ _ _=>.flat rfl (.nil _),by simp [binOp,Op.intArith,pure],fun _=>rfl⟩
 case and=>exact ⟨_,.int k _,h,fun _ _ _=>.flat rfl (.nil _),by simp [binOp,Op.intBits,bitsI,pure],fun _=>rfl⟩
 case or=>exact ⟨_,.int k _,h,fun _ _ _=>.flat rfl (.nil _),by simp [binOp,Op.intBits,bitsI,pure],fun _=>rfl⟩
 case xor=>exact ⟨_,.int k _,h,fun _ _ _=>.flat rfl (.nil _),by simp [binOp,Op.intBits,bitsI,pure],fun _=>rfl⟩
 case andNot=>exact ⟨_,.int k _,h,fun _ _ _=>.flat rfl (.nil _),by simp [binOp,Op.intBits,bitsI,pure],fun _=>rfl⟩
 case eql=>exact ⟨_,.bool _,h,fun _ _ _=>.flat rfl (.nil _),by simp [binOp,Op.intCmp,pure],fun _=>rfl⟩
 case neq=>exact ⟨_,.bool _,h,fun _ _ _=>.flat rfl (.nil _),by simp [binOp,Op.intCmp,pure],fun _=>rfl⟩
 case lss=>exact ⟨_,.bool _,h,fun _ _ _=>.flat rfl (.nil _),by simp [binOp,Op.intCmp,pure],fun _=>rfl⟩
 case leq=>exact ⟨_,.bool _,h,fun _ _ _=>.flat rfl (.nil _),by simp [binOp,Op.intCmp,pure],fun _=>rfl⟩
 case gtr=>exact ⟨_,.bool _,h,fun _ _ _=>.flat rfl (.nil _),by simp [binOp,Op.intCmp,pure],fun _=>rfl⟩
 case geq=>exact ⟨_,.bool _,h,fun _ _ _=>.flat rfl (.nil _),by simp [binOp,Op.intCmp,pure],fun _=>rfl⟩
theorem eqGuard_int {P:Program} {op:BinOp} {t:TypeId} {y z:Operand} {j k:IntKind} {p q:Int}:(eqGuard op t y z (.int j p) (.int k q)).run P w=.ok () w:=by
 unfold eqGuard; cases op <;> simp [pure]
theorem eqGuard_str {P:Program} {op:BinOp} {t:TypeId} {y z:Operand} {p q:ByteArray}:(eqGuard op t y z (.string p) (.string q)).run P w=.ok () w:=by
 unfold eqGuard; cases op <;> simp [pure]
theorem binK_run {P:Program} {op:BinOp} {t:TypeId} {y z:Operand} {c d:AV S} {v u:Value} {K:AV S→Prop} (h:binK op c d K) (hv:Rep w V l v c) (hu:Rep w V l u d) :
  ∃ e r,K e∧Rep w V l r e∧(do eqGuard op t y z v u; binOp op t v u:Sem Value).run P w=.ok r w:=by
 cases c <;> try exact h.elim
 case int k p =>
  cases d <;> try exact h.elim
  case int k' q =>
   obtain rfl:=hv.int
   obtain rfl:=hu.int
   simp only [binK] at h
   by_cases hs:op=.shl∨op=.shr
   ·rcases hs with rfl | rfl
    ·simp only at h
     have h0:¬ q < 0:=by have:=h.1; omega
     exact ⟨_,.int k _,h.2,.flat rfl (.nil _),by simp [Sem.run_bind,eqGuard_int,Result.andThen,binOp,Op.shift,h0,shlI,pure]⟩
    simp only at h
    have h0:¬ q < 0:=by have:=h.1; omega
    exact ⟨_,.int k _,h.2,.flat rfl (.nil _),by simp [Sem.run_bind,eqGuard_int,Result.andThen,binOp,Op.shift,h0,shrI,pure]⟩
   have h':(match decide (k=k') with | true=>intBinK op k p q K | false=>False):=by
    cases op <;> first | exact absurd (.inl rfl) hs | exact absurd (.inr rfl) hs | exact h
   cases hk:decide (k=k') with
   | false=>rw [hk] at h'; exact h'.elim
   | true =>
    rw [hk] at h'
    obtain rfl:=of_decide_eq_true hk
    obtain ⟨e,r,h1,h2,h3,h4⟩:=intBin_run (P:=P) (w:=w) h'
    exact ⟨e,r,h1,h2 _ _ _,by simp only [Sem.run_bind,eqGuard_int,Result.andThen]; rw [h4]; exact h3⟩
 case str p =>
  cases d <;> try exact h.elim
  case str q =>
   obtain rfl:=hv.str
   obtain rfl:=hu.str
   cases op <;> simp only [binK] at h <;> try exact h.elim
   ·have hn:¬ ((p.size+q.size:Nat):Int) > IntKind.i64.max:=by have:=h.1; show ¬ ((p.size+q.size:Nat):Int) > 9223372036854775807; omega
    exact ⟨_,.string _,h.2,.flat rfl (.nil _),by simp only [Sem.run_bind,eqGuard_str,Result.andThen,binOp,Op.stringOp]; rw [if_neg hn]; rfl⟩
   ·exact ⟨_,.bool _,h,.flat rfl (.nil _),by simp [Sem.run_bind,eqGuard_str,Result.andThen,binOp,Op.stringOp,strEq,pure]⟩
   exact ⟨_,.bool _,h,.flat rfl (.nil _),by simp [Sem.run_bind,eqGuard_str,Result.andThen,binOp,Op.stringOp,strEq,pure]⟩
end
end Go.Ab
namespace Go.Ab
open Go
variable {S:Sig} [Cod S]
variable {X:Type} {gl:Gl} {En:Env X} {x:X} {w w':World} {V V':Nat→Nat→Prop} {l l0:Loc} {ts:Array Value} {st:St S}
theorem SRx.own_none (h:SRx gl En x w V l l0 ts st) {d:Nat} (hd:lookA st.seg d=none):l.own d=none∧l.tok d=none:=by
 constructor
 ·cases ho:l.own d with
  | none=>rfl
  | some b=>obtain ⟨cs,h1,_⟩:=h.rego d b ho; rw [hd] at h1; cases h1
 cases ho:l.tok d with
 | none=>rfl
 | some t=>obtain ⟨u,f,h1⟩:=h.regt d t ho; rw [hd] at h1; cases h1
theorem SR.newTok (h:SR gl En x w V l ts st) {d:Nat} (hd:lookA st.seg d=none) (u:S.U) (f:Bool) :
  l.le (l.setTok d .no)∧SR gl En x w V (l.setTok d .no) ts { st with seg:=putA st.seg d (.row u f) }:=by
 obtain ⟨h1,h2⟩:=h.own_none hd
 have hle:=Loc.le_setTok (t:=.no) h2
 refine ⟨hle,h.turn (Loc.le_refl _) hle (fun _ _=>rfl) (fun k hk=>by simp [Loc.setTok,hk]) rfl rfl (fun _ _ h=>h) (fun _ _ h=>.inl h) ⟨.no,by simp [Loc.setTok],trivial⟩
  (fun b hm=>?_) (fun b hb=>?_) (fun t _=>⟨_,_,rfl⟩)⟩
 ·obtain ⟨n,cap,h3⟩:=hm; simp [Loc.setTok] at h3
 have:l.own d=some b:=hb
 rw [h1] at this; cases this
theorem tokK_elim:∀ (zs:List (AV S)) (id:Nat) (cs:List (AV S)) (st:St S) (K:List (AV S)→List (Nat×AO S)→Prop),tokK id zs cs st.seg K →
  ∃ cs' sg',K cs' sg'∧(∀ k ao,lookA st.seg k=some ao→lookA sg' k=some ao)∧∀ {l:Loc} {ts:Array Value} {w:World} {V:Nat→Nat→Prop},SR gl En x w V l ts st→∃ l',l.le l'∧SR gl En x w V l' ts { st with seg:=sg' }∧∀ ws,Reps w V l ws cs→Reps w V l' ws cs'
 | [],id,cs,st,K,h=>⟨cs,st.seg,by cases cs <;> exact h,fun _ _ h=>h,fun hs=>⟨_,Loc.le_refl _,hs,fun _ h=>h⟩⟩
 | z :: zs,id,[],st,K,h=>⟨[],st.seg,h,fun _ _ h=>h,fun hs=>⟨_,Loc.le_refl _,hs,fun _ h=>h⟩⟩
 | z :: zs,id,c :: cs,st,K,h=>by
  have hplain:(tokK (id+1000) zs cs st.seg fun l sg'=>K (c :: l) sg')→∃ cs' sg',K cs' sg'∧(∀ k ao,lookA st.seg k=some ao→lookA sg' k=some ao)∧∀ {l:Loc} {ts:Array Value} {w:World} {V:Nat→Nat→Prop},SR gl En x w V l ts st →
    ∃ l',l.le l'∧SR gl En x w V l' ts { st with seg:=sg' }∧∀ ws,Reps w V l ws (c :: cs)→Reps w V l' ws cs':=fun h=>by
   obtain ⟨cs',sg',hK,hkeep,h1⟩:=tokK_elim zs (id+1000) cs st _ h
   refine ⟨_,_,hK,hkeep,fun hs=>?_⟩
   obtain ⟨l',hle,hs',hr⟩:=h1 hs
   refine ⟨l',hle,hs',fun ws hw=>?_⟩
   obtain ⟨va,vb,rfl,ha,hb⟩:=hw.uncons
   exact (ha.more (fun _ _ h=>h) hle).append (hr _ hb)
  by_cases hc:c=.nils
  ·subst hc
   simp only [tokK] at h
   cases z <;> try exact h.elim
   case sl u xs o =>
    simp only at h
    rw [findK_eq] at h
    cases hl:lookA st.seg id with
    | none =>
     rw [hl] at h
     simp only [putK_eq] at h
     obtain ⟨cs',sg',hK,hkeep,h1⟩:=tokK_elim zs (id+1000) cs { st with seg:=putA st.seg id (.row u true) } _ h
     refine ⟨_,_,hK,fun k ao hk=>hkeep k ao (by simp only [lookA_putA]; rw [if_neg (fun e=>by subst e; rw [hl] at hk; cases hk)]; exact hk),fun hs=>?_⟩
     obtain ⟨hle,hs1⟩:=SR.newTok hs hl u true
     obtain ⟨l',hle',hs',hr⟩:=h1 hs1
     refine ⟨l',Loc.le_trans hle hle',hs',fun ws hw=>?_⟩
     obtain ⟨va,vb,rfl,ha,hb⟩:=hw.uncons
     refine Reps.append (a:=[AV.sl u [] (some id)]) ?_ (hr _ (hb.more (fun _ _ h=>h) hle))
     obtain ⟨v,vs,rfl,hv,ht⟩:=ha.head trivial
     rw [ht.nil_inv]
     exact .flat ⟨rfl,hle'.tok _ _ (by simp [Loc.setTok]),hv.nils⟩ (.nil _)
    | some ao =>
     rw [hl] at h
     obtain ⟨cs',sg',hK,hkeep,h1⟩:=tokK_elim zs (id+1000) cs st _ h
     refine ⟨_,_,hK,hkeep,fun hs=>?_⟩
     obtain ⟨l',hle,hs',hr⟩:=h1 hs
     refine ⟨l',hle,hs',fun ws hw=>?_⟩
     obtain ⟨va,vb,rfl,ha,hb⟩:=hw.uncons
     refine Reps.append (a:=[AV.sl u [] none]) ?_ (hr _ hb)
     obtain ⟨v,vs,rfl,hv,ht⟩:=ha.head trivial
     rw [ht.nil_inv]
     obtain ⟨base,hb⟩:=hv.nils
     exact .flat ⟨rfl,base,0,hb⟩ (.nil _)
  exact hplain (by cases c <;> first | exact absurd rfl hc | exact h)
theorem heap_alloc_new (w:World) (o:Go.Obj):(w.alloc o).heap[w.heap.size]?=some o:=by
 show (w.heap.push o)[w.heap.size]?=_; simp
theorem SR.newBox (h:SR gl En x w V l ts st) {d:Nat} (hd:lookA st.seg d=none) {c:Array Value} {el:TypeId} {cs:List (AV S)} (hr:Reps w V l c.toList cs) :
  ∃ l',l.le l'∧SR gl En x (w.alloc (.cells c el)) V l' ts { st with seg:=putA st.seg d (.cells cs) }∧Rep (w.alloc (.cells c el)) V l' (.pointer (some ⟨w.heap.size,0,none⟩)) (.own d []:AV S):=by
 have hg:=Grow.alloc w (.cells c el)
 have h1:SR gl En x (w.alloc (.cells c el)) V l ts st:=h.grow hg (fun _ _ h=>h) (fun _ _ h=>.inl h)
 obtain ⟨h2,h3⟩:=h.own_none hd
 have hle:=Loc.le_setOwn (b:=w.heap.size) h2
 have hnm:∀ k d',¬ Mut l st k d' w.heap.size:=fun k d'=>h.no_mut (Nat.le_refl _) k d'
 refine ⟨_,hle,h1.turn (Loc.le_refl _) hle (fun k hk=>by simp [Loc.setOwn,hk]) (fun _ _=>rfl) rfl rfl (fun _ _ h=>h) (fun _ _ h=>.inl h)
  ⟨w.heap.size,by simp [Loc.setOwn],c,el,heap_alloc_new _ _,(hr.grown hg (fun _ _ h=>h) h.vlt).more (fun _ _ h=>h) hle,fun o hv=>absurd (h.vlt _ _ hv) (Nat.lt_irrefl _)⟩
  (fun b hm=>?_) (fun b _=>trivial) (fun t ht=>?_),.flat ⟨w.heap.size,by simp [Loc.setOwn],rfl⟩ (.nil _)⟩
 ·have hm':(if d=d then some w.heap.size else l.own d)=some b:=hm
  rw [if_pos rfl] at hm'; cases hm'
  exact ⟨fun hE=>absurd (En.lt _ _ _ h.inv hE) (Nat.lt_irrefl _),gl.le _ h.g,fun k d' hm=>absurd hm (hnm k d')⟩
 have:l.tok d=some t:=ht
 rw [h3] at this; cases this
theorem SR.newMap (h:SR gl En x w V l ts st) {d:Nat} (hd:lookA st.seg d=none) (ck:Nat) :
  ∃ l',l.le l'∧SR gl En x (w.alloc (.map #[] ck)) V l' ts { st with seg:=putA st.seg d (.mp []) }∧Rep (w.alloc (.map #[] ck)) V l' (.map (some w.heap.size)) (.mpv d:AV S):=by
 have hg:=Grow.alloc w (.map #[] ck)
 have h1:SR gl En x (w.alloc (.map #[] ck)) V l ts st:=h.grow hg (fun _ _ h=>h) (fun _ _ h=>.inl h)
 obtain ⟨h2,h3⟩:=h.own_none hd
 have hle:=Loc.le_setOwn (b:=w.heap.size) h2
 have hnm:∀ k d',¬ Mut l st k d' w.heap.size:=fun k d'=>h.no_mut (Nat.le_refl _) k d'
 refine ⟨_,hle,h1.turn (Loc.le_refl _) hle (fun k hk=>by simp [Loc.setOwn,hk]) (fun _ _=>rfl) rfl rfl (fun _ _ h=>h) (fun _ _ h=>.inl h)
  ⟨w.heap.size,by simp [Loc.setOwn],_,_,heap_alloc_new _ _,⟨.nil,by simp [Stamps]⟩,fun o hv=>absurd (h.vlt _ _ hv) (Nat.lt_irrefl _)⟩
  (fun b hm=>?_) (fun b _=>trivial) (fun t ht=>?_),.flat ⟨w.heap.size,by simp [Loc.setOwn],rfl⟩ (.nil _)⟩
 ·have hm':(if d=d then some w.heap.size else l.own d)=some b:=hm
  rw [if_pos rfl] at hm'; cases hm'
  exact ⟨fun hE=>absurd (En.lt _ _ _ h.inv hE) (Nat.lt_irrefl _),gl.le _ h.g,fun k d' hm=>absurd hm (hnm k d')⟩
 have:l.tok d=some t:=ht
 rw [h3] at this; cases this
theorem alloc_ok {P:Program} {par:Par S X} (ht:TisOk P par.ti) {a:Act} {d t:Nat} {K:AV S→St S→X→Prop} (hs:SR gl En x w V l a.tmps st)
  (h:tyK par t fun ty=>mapK nilsK ty.zero fun zs=>tokK (d+1000) ty.zero zs st.seg fun cs sg=>findK sg d (putK sg d (.cells cs) fun sg'=>K (.own d []) { st with seg:=sg' } x) fun _=>False) :
  ∃ v w',(Instr.alloc t true (.tuple #[])).run P w=.ok v w'∧Res gl En a K v w':=by
 obtain ⟨ty,h,hty⟩:=tyK_elim ht h
 rw [nilsK_map] at h
 obtain ⟨cs,sg,h,_,h1⟩:=tokK_elim (gl:=gl) (En:=En) (x:=x) _ _ _ st _ h
 rw [findK_eq] at h
 cases hl:lookA sg d with
 | some ao=>rw [hl] at h; exact h.elim
 | none =>
  rw [hl] at h
  simp only [putK_eq] at h
  obtain ⟨i,z,hi,hsz,hz,hz0⟩:=hty.info
  obtain ⟨l',hle,hs',hr⟩:=h1 hs
  obtain ⟨l'',hle',hs'',hrep⟩:=SR.newBox hs' (d:=d) hl (el:=t) (hr _ ((hz0 w V).2.of_none l))
  refine ⟨_,_,?_,_,_,_,_,_,h,hs'',hrep⟩
  simp [Instr.alloc,run_zeroValue hi hz,Sem.run_bind,Result.andThen,newVar,run_newRow,pure]
theorem box_ok [LawCod S] {P:Program} {par:Par S X} (ht:TisOk P par.ti) {a:Act} {d t:Nat} {y:Operand} {K:AV S→St S→X→Prop} (hs:SR gl En x w V l a.tmps st)
  (h:tyK par t fun ty=>evK st.tmps y fun v=>cellsK v fun vs=>tokK (d+1000) ty.zero vs st.seg fun cs sg=>findK sg d (putK sg d (.cells cs) fun sg'=>K (.own d []) { st with seg:=sg' } x) fun _=>False) :
  ∃ v w',(Instr.box t (a.eval y)).run P w=.ok v w'∧Res gl En a K v w':=by
 obtain ⟨ty,h,hty⟩:=tyK_elim ht h
 obtain ⟨c,h,hc⟩:=evK_elim hs h
 obtain ⟨vs,h,hv⟩:=cellsK_elim h
 obtain ⟨cs,sg,h,_,h1⟩:=tokK_elim (gl:=gl) (En:=En) (x:=x) _ _ _ st _ h
 rw [findK_eq] at h
 cases hl:lookA sg d with
 | some ao=>rw [hl] at h; exact h.elim
 | none =>
  rw [hl] at h
  simp only [putK_eq] at h
  obtain ⟨l',hle,hs',hr⟩:=h1 hs
  obtain ⟨l'',hle',hs'',hrep⟩:=SR.newBox hs' (d:=d) hl (el:=t) (hr _ (hv _ _ _ _ hc).1)
  refine ⟨_,_,?_,_,_,_,_,_,h,hs'',hrep⟩
  simp [Instr.box,Sem.run_bind,Result.andThen,newVar,run_newRow,pure]
theorem holdK_elim {u:S.U} {d:Nat}:∀ {ts:List (AV S)} {K:List (S.T u)→Prop},holdK u d ts K→∃ xs:List (S.T u),K xs∧∃ j:Nat,ts[j]?=some (AV.sl (S:=S) u xs (some d))
 | [],K,h=>h.elim
 | v :: ts,K,h=>by
  have hgo:holdK u d ts K→∃ xs:List (S.T u),K xs∧∃ j:Nat,(v :: ts)[j]?=some (AV.sl (S:=S) u xs (some d)):=fun h=>by
   obtain ⟨xs,h1,j,h2⟩:=holdK_elim h
   exact ⟨xs,h1,j+1,by simpa using h2⟩
  cases v with
  | sl w xs o =>
   cases o with
   | none=>exact hgo h
   | some e =>
    simp only [holdK] at h
    cases hb:Nat.beq d e with
    | false=>rw [hb] at h; exact hgo h
    | true =>
     rw [hb] at h
     have:=Nat.eq_of_beq_eq_true hb
     subst this
     simp only [castL] at h
     cases hu:Cod.ueq w u with
     | isFalse hne=>rw [hu] at h; exact h.elim
     | isTrue he=>rw [hu] at h; subst he; exact ⟨xs,h,0,rfl⟩
  | _=>exact hgo h
theorem load_ok [LawCod S] {P:Program} {a:Act} {t:Nat} {ty:TyI S} (hty:TyOk P t ty) {pv:Value} {p:AV S} {K:AV S→Prop} (hs:SR gl En x w V l a.tmps st) (hp:Rep w V l pv p)
  (h:loadK ty p st K):∃ v c,(Instr.loadAt t pv).run P w=.ok v w∧K c∧Rep w V l v c:=by
 have hgo:∀ {l1:Loc} {b o:Nat} {ws:List Value} {cs:List (AV S)},valK ty cs K→Reps w V l1 ws cs→l1.le l→(∀ k v,ws[k]?=some v→w.cell? ⟨b,o+k,none⟩=some v)→pv=.pointer (some ⟨b,o,none⟩) →
   ∃ v c,(Instr.loadAt t pv).run P w=.ok v w∧K c∧Rep w V l v c:=by
  intro l1 b o ws cs h hr hle hc hpv
  obtain ⟨c,hK,h1⟩:=valK_load hty h
  obtain ⟨v,h2,h3⟩:=h1 w V l1 ws b o hr hc
  refine ⟨v,c,?_,hK,h3.more (fun _ _ h=>h) hle⟩
  subst hpv
  simp [Instr.loadAt,Instr.sureAddr,Sem.run_bind,Result.andThen,pure,h2]
 have hrd:∀ {l1:Loc} {b:Nat} {q:List Stp} {ws:List Value} {cs:List (AV S)},(readK cs q fun m=>valK ty m K)→Reps w V l1 ws cs→l1.le l→(∀ k v,ws[k]?=some v→w.cell? ⟨b,k,none⟩=some v)→pv=.pointer (some ⟨b,poff q,none⟩) →
   ∃ v c,(Instr.loadAt t pv).run P w=.ok v w∧K c∧Rep w V l v c:=by
  intro l1 b q ws cs h hr hle hc hpv
  obtain ⟨ds,h,h1⟩:=readK_elim q cs _ h
  obtain ⟨wa,wb,wc,rfl,h2,h3⟩:=h1 w V l1 ws hr
  refine hgo h h3 hle (fun k v hk=>hc (poff q+k) v ?_) hpv
  rw [List.append_assoc,List.getElem?_append_right (by omega),h2,Nat.add_sub_cancel_left,List.getElem?_append_left (List.getElem?_eq_some_iff.1 hk).1]; exact hk
 have hcell:∀ {l1:Loc} {b b':Nat} {cs:List (AV S)},CellObj w V l1 b cs→b'=b→∃ ws,Reps w V l1 ws cs∧∀ k v,ws[k]?=some v→w.cell? ⟨b',k,none⟩=some v:=by
  rintro l1 b b' cs ⟨c,el,h1,h2,_⟩ rfl
  exact ⟨_,h2,fun k v hk=>by rw [cell_of_heap h1]; simpa using hk⟩
 cases p <;> try exact h.elim
 case ref cs =>
  obtain ⟨b,o,ws,rfl,h1,h2⟩:=hp.ref
  exact hgo h h2 (Loc.none_le _) (fun k v hk=>(h1 k v hk).2) rfl
 case own d q =>
  obtain ⟨b,hb,hpv⟩:=hp.own
  simp only [loadK] at h
  rw [findK_eq] at h
  cases hl:lookA st.seg d with
  | none=>rw [hl] at h; exact h.elim
  | some ao =>
   rw [hl] at h
   have h0:=hs.seg d _ hl
   cases ao with
   | cells cs =>
    obtain ⟨b',hb',h1⟩:=h0
    rw [hb] at hb'; cases hb'
    obtain ⟨ws,h2,h3⟩:=hcell h1 rfl
    exact hrd h h2 (Loc.le_refl _) h3 hpv
   | frz cs =>
    obtain ⟨b',ws,hb',h1,h2⟩:=h0
    rw [hb] at hb'; cases hb'
    exact hrd h h2 (Loc.none_le _) (fun k v hk=>by have:=(h1 k v hk).2; rwa [Nat.zero_add] at this) hpv
   | row u f=>exact h.elim
   | mp kvs=>exact h.elim
   | mpz ks us=>exact h.elim
 case up d q =>
  obtain ⟨b,hb,hpv⟩:=hp.up
  simp only [loadK] at h
  rw [findK_eq] at h
  cases hl:lookA st.up d with
  | none=>rw [hl] at h; exact h.elim
  | some ao =>
   rw [hl] at h
   have h0:=hs.up d _ hl
   cases ao with
   | cells cs =>
    obtain ⟨b',hb',h1⟩:=h0
    rw [hb] at hb'; cases hb'
    obtain ⟨ws,h2,h3⟩:=hcell h1 rfl
    exact hrd h h2 ⟨fun _ _ h=>h,fun _ _ h=>h,fun _ _ e=>by simp [Loc.notok] at e,fun _ h=>h⟩ h3 hpv
   | frz cs =>
    obtain ⟨b',ws,hb',h1,h2⟩:=h0
    rw [hb] at hb'; cases hb'
    exact hrd h h2 (Loc.none_le _) (fun k v hk=>by have:=(h1 k v hk).2; rwa [Nat.zero_add] at this) hpv
   | row u f=>exact h.elim
   | mp kvs=>exact h.elim
   | mpz ks us=>exact h.elim
theorem loadE_ok [LawCod S] {P:Program} {a:Act} {t:Nat} {ty:TyI S} (hty:TyOk P t ty) {pv:Value} {p:AV S} {K:AV S→Prop} (hs:SR gl En x w V l a.tmps st) (hp:Rep w V l pv p)
  (h:loadE ty p st K):∃ v c,(Instr.loadAt t pv).run P w=.ok v w∧K c∧Rep w V l v c:=by
 by_cases hpe:∃ u d i q,p=.elp u d i q
 ·obtain ⟨u,d,i,q,rfl⟩:=hpe
  have hgo:∀ {l1:Loc} {b o:Nat} {ws:List Value} {cs:List (AV S)},valK ty cs K→Reps w V l1 ws cs→l1.le l→(∀ k v,ws[k]?=some v→w.cell? ⟨b,o+k,none⟩=some v)→pv=.pointer (some ⟨b,o,none⟩) →
    ∃ v c,(Instr.loadAt t pv).run P w=.ok v w∧K c∧Rep w V l v c:=by
   intro l1 b o ws cs h hr hle hc hpv
   obtain ⟨c,hK,h1⟩:=valK_load hty h
   obtain ⟨v,h2,h3⟩:=h1 w V l1 ws b o hr hc
   refine ⟨v,c,?_,hK,h3.more (fun _ _ h=>h) hle⟩
   subst hpv
   simp [Instr.loadAt,Instr.sureAddr,Sem.run_bind,Result.andThen,pure,h2]
  simp only [loadE] at h
  obtain ⟨xs,⟨e,he,h⟩,j,hj⟩:=holdK_elim h
  obtain ⟨hi,he⟩:=getI_some he
  rw [Int.toNat_natCast] at he
  have hr:=hs.tmps j _ hj
  obtain ⟨b,n,cap,hb,hpv⟩:Flat l pv (.elp u d i q):=by
   unfold Rep at hp
   generalize hvs:[pv]=vs at hp
   cases hp with
   | flat h t=>cases hvs; exact h
  generalize a.tmps.getD j Go.undef=v0 at hr
  unfold Rep at hr
  generalize hvs:[v0]=vs at hr
  cases hr with
  | flat h0 t=>rw [h0.1] at he; simp at he
  | tok ht hc r hcp t =>
   cases hvs
   rw [hb.1] at ht; cases ht
   obtain ⟨va,vm,vb,rfl,h3,h4⟩:=Reps.elem r he
   obtain ⟨ds,h,h1⟩:=readK_elim q _ _ h
   obtain ⟨wa,wb,wc,rfl,h5,h6⟩:=h1 w V _ _ h4
   refine hgo h h6 (Loc.none_le _) (fun k v hk=>?_) hpv
   rw [Nat.add_assoc]
   refine hc (i * Cod.size u+(poff q+k)) v ?_
   have hkl:=(List.getElem?_eq_some_iff.1 hk).1
   rw [List.append_assoc,List.getElem?_append_right (by omega),h3,Nat.add_sub_cancel_left,List.getElem?_append_left (by simp only [List.length_append]; omega),List.append_assoc,List.getElem?_append_right (by omega),h5,Nat.add_sub_cancel_left,List.getElem?_append_left hkl]; exact hk
 refine load_ok hty hs hp ?_
 unfold loadE at h
 split at h
 ·exact absurd ⟨_,_,_,_,rfl⟩ hpe
 exact h
theorem reps_mem {w:World} {V:Nat→Nat→Prop} {l:Loc}:∀ {cs:List (AV S)} {vs:List Value} {j:Nat} {c:AV S},Reps w V l vs cs→cs[j]?=some c→∃ ws,Reps w V l ws [c]
 | [],_,j,c,_,h=>by simp at h
 | d :: cs,vs,0,c,hr,h=>by
  obtain ⟨va,vb,rfl,ha,_⟩:=hr.uncons
  obtain rfl:d=c:=by simpa using h
  exact ⟨va,ha⟩
 | d :: cs,vs,j+1,c,hr,h=>by
  obtain ⟨va,vb,rfl,_,hb⟩:=hr.uncons
  exact reps_mem hb (by simpa using h)
theorem loadX_ok [LawCod S] {P:Program} {t:Nat} {ty:TyI S} (hty:TyOk P t ty) {pv:Value} {u:S.U} {d i:Nat} {q:List Stp} {K:AV S→Prop} (hp:Rep w V l pv (.elp u d i q)) {cs0:List (AV S)} {vs0:List Value}
  (hrc:Reps w V l vs0 cs0) (h:holdK u d cs0 fun xs=>optK (getI xs (i:Int)) fun e=>readK (Cod.enc u e) q fun m=>valK ty m K):∃ v c,(Instr.loadAt t pv).run P w=.ok v w∧K c∧Rep w V l v c:=by
 have hgo:∀ {l1:Loc} {b o:Nat} {ws:List Value} {cs:List (AV S)},valK ty cs K→Reps w V l1 ws cs→l1.le l→(∀ k v,ws[k]?=some v→w.cell? ⟨b,o+k,none⟩=some v)→pv=.pointer (some ⟨b,o,none⟩) →
   ∃ v c,(Instr.loadAt t pv).run P w=.ok v w∧K c∧Rep w V l v c:=by
  intro l1 b o ws cs h hr hle hc hpv
  obtain ⟨c,hK,h1⟩:=valK_load hty h
  obtain ⟨v,h2,h3⟩:=h1 w V l1 ws b o hr hc
  refine ⟨v,c,?_,hK,h3.more (fun _ _ h=>h) hle⟩
  subst hpv
  simp [Instr.loadAt,Instr.sureAddr,Sem.run_bind,Result.andThen,pure,h2]
 obtain ⟨xs,⟨e,he,h⟩,j,hj⟩:=holdK_elim h
 obtain ⟨hi,he⟩:=getI_some he
 rw [Int.toNat_natCast] at he
 obtain ⟨ws0,hr⟩:=reps_mem hrc hj
 obtain ⟨b,n,cap,hb,hpv⟩:Flat l pv (.elp u d i q):=by
  unfold Rep at hp
  generalize hvs:[pv]=vs at hp
  cases hp with
  | flat h t=>cases hvs; exact h
 cases hr with
 | flat h0 t=>rw [h0.1] at he; simp at he
 | tok ht hc r hcp t =>
  rw [hb.1] at ht; cases ht
  obtain ⟨va,vm,vb,rfl,h3,h4⟩:=Reps.elem r he
  obtain ⟨ds,h,h1⟩:=readK_elim q _ _ h
  obtain ⟨wa,wb,wc,rfl,h5,h6⟩:=h1 w V _ _ h4
  refine hgo h h6 (Loc.none_le _) (fun k v hk=>?_) hpv
  rw [Nat.add_assoc]
  refine hc (i * Cod.size u+(poff q+k)) v ?_
  have hkl:=(List.getElem?_eq_some_iff.1 hk).1
  rw [List.append_assoc,List.getElem?_append_right (by omega),h3,Nat.add_sub_cancel_left,List.getElem?_append_left (by simp only [List.length_append]; omega),List.append_assoc,List.getElem?_append_right (by omega),h5,Nat.add_sub_cancel_left,List.getElem?_append_left hkl]; exact hk
end Go.Ab
namespace Go.Ab
open Go
variable {S:Sig} [Cod S]
variable {X:Type} {gl:Gl} {En:Env X} {x:X} {w w':World} {V V':Nat→Nat→Prop} {l l0:Loc} {ts:Array Value} {st:St S}
structure Wr (l:Loc) (w w':World) (V:Nat→Nat→Prop) (u:S.U) (d b n cap:Nat) (f:List (S.T u)→List (S.T u)):Prop where
 tok:l.tok d=some (.at b n cap)
 v:∀ b' o,V b' o→eye w' b' o=eye w b' o
 other:∀ d' b' n' cap',d'≠d→l.tok d'=some (.at b' n' cap')→∀ o,o < n'→eye w' b' o=eye w b' o
 row:∀ (xs:List (S.T u)) ws,ws.length=n→Reps w V Loc.none ws (xs.flatMap (Cod.enc u))→(∀ k v,ws[k]?=some v→w.cell? ⟨b,k,none⟩=some v) →
  ∃ ws',ws'.length=n∧(f xs).length=xs.length∧Reps w' V Loc.none ws' ((f xs).flatMap (Cod.enc u))∧∀ k v,ws'[k]?=some v→w'.cell? ⟨b,k,none⟩=some v
theorem Wr.frame {l:Loc} {u:S.U} {d b n cap:Nat} {f:List (S.T u)→List (S.T u)} (h:Wr l w w' V u d b n cap f) {l1:Loc} {vs:List Value} {cs:List (AV S)} (hr:Reps w V l1 vs cs) (hl:∀ d t,l1.tok d≠some t):Reps w' V l1 vs cs :=
 hr.mono (fun _ _ h=>h) h.v _ (Loc.le_refl _) fun _ _ _ _ e=>absurd e (hl _ _)
def Wr0 (l:Loc) (w w':World) (V:Nat→Nat→Prop) (u:S.U) (d:Nat) (f:List (S.T u)→List (S.T u)):Prop :=
 (∃ b n cap,Wr l w w' V u d b n cap f)∨(l.tok d=some .no∧w'=w∧f []=[])
def RepR (u:S.U) (d:Nat) (f:List (S.T u)→List (S.T u)) (c c':AV S):Prop :=
 ∀ {l:Loc} {w w':World} {V:Nat→Nat→Prop},Wr0 l w w' V u d f→∀ ws,Reps w V l ws [c]→Reps w' V l ws [c']
theorem Reps.list2 {R:AV S→AV S→Prop} {l:Loc} (hR:∀ c c',R c c'→∀ ws,Reps w V l ws [c]→Reps w' V l ws [c']) :
  ∀ {cs cs':List (AV S)},All2 R cs cs'→∀ ws,Reps w V l ws cs→Reps w' V l ws cs'
 | _,_,.nil,ws,h=>by rw [h.nil_inv]; exact .nil _
 | _,_,.cons h1 h2,ws,h=>by
  obtain ⟨va,vb,rfl,ha,hb⟩:=h.uncons
  exact (hR _ _ h1 _ ha).append (Reps.list2 hR h2 _ hb)
theorem RepR.same {u:S.U} {d:Nat} {f:List (S.T u)→List (S.T u)} {c:AV S} (hc:match c with | .sl _ _ (some e)=>d≠e | .agg _=>False | .tup _=>False | _=>True):RepR u d f c c:=by
 intro l w w' V hw ws h
 rcases hw with ⟨b,n,cap,hw⟩ | ⟨_,rfl,_⟩
 case inr=>exact h
 have hno:∀ d t,Loc.none.tok d≠some t:=fun d t e=>by simp [Loc.none] at e
 have hnk:∀ d t,l.notok.tok d≠some t:=fun d t e=>by simp [Loc.notok] at e
 cases h with
 | flat h t=>rw [t.nil_inv]; exact .flat h (.nil _)
 | ref h r t=>rw [t.nil_inv]; exact .ref (h.mono (fun _ _ h=>h) hw.v) (hw.frame r hno) (.nil _)
 | sl h r hcp t=>rw [t.nil_inv]; exact .sl (h.mono (fun _ _ h=>h) hw.v) (hw.frame r hno) hcp (.nil _)
 | tok ht h r hcp t =>
  rw [t.nil_inv]
  refine .tok ht (fun k v hk=>?_) (hw.frame r hno) hcp (.nil _)
  rw [eye_cell (hw.other _ _ _ _ (Ne.symm hc) ht k (List.getElem?_eq_some_iff.1 hk).1)]; exact h k v hk
 | clo r r' t=>rw [t.nil_inv]; exact .clo (hw.frame r hnk) (hw.frame r' hnk) (.nil _)
 | agg r t=>exact hc.elim
 | tup r t=>exact hc.elim
 | arr hx r t=>rw [t.nil_inv]; exact .arr hx (hw.frame r hno) (.nil _)
 | mpf hv hm hb r r' t=>rw [t.nil_inv]; exact .mpf hv (eye_map (hw.v _ _ hv) hm) hb (hw.frame r hno) (hw.frame r' hno) (.nil _)
theorem repK_elim {u:S.U} {d:Nat} {f:List (S.T u)→List (S.T u)}:∀ (n:Nat) (v:AV S) (K:AV S→Prop),repK u d f n v K→∃ v',RepR u d f v v'∧K v'
 | n, v, K,h=>by
  have hlist:∀ m,m < n→∀ (cs:List (AV S)) (K:List (AV S)→Prop),mapK (repK u d f m) cs K→∃ cs',All2 (RepR u d f) cs cs'∧K cs':=fun m hm cs K h =>
   mapK_elim (fun a K h=>repK_elim m a K h) cs K h
  cases v with
  | sl v xs o =>
   cases o with
   | none=>exact ⟨_,RepR.same trivial,by cases n <;> exact h⟩
   | some e =>
    cases hm:Nat.beq d e with
    | false=>exact ⟨_,RepR.same (by simp only; rintro rfl; simp at hm),by cases n <;> (simp only [repK,hm] at h; exact h)⟩
    | true =>
     obtain rfl:=Nat.eq_of_beq_eq_true hm
     have h:castL v u xs fun xs=>K (.sl u (f xs) (some d)):=by cases n <;> (simp only [repK,hm] at h; exact h)
     simp only [castL] at h
     cases hu:Cod.ueq v u with
     | isFalse hne=>rw [hu] at h; exact h.elim
     | isTrue he =>
      rw [hu] at h; subst he
      refine ⟨_,fun {l w w' V} hw ws hr=>?_,h⟩
      cases hr with
      | flat h t =>
       rcases hw with ⟨b,n,cap,hw⟩ | ⟨h1,rfl,h2⟩
       ·have:=h.2.1; rw [hw.tok] at this; cases this
       rw [t.nil_inv]; obtain ⟨rfl,h3,h4⟩:=h; exact .flat ⟨h2,h3,h4⟩ (.nil _)
      | tok ht hc r hcp t =>
       rcases hw with ⟨b,n,cap,hw⟩ | ⟨h1,rfl,h2⟩
       case inr=>rw [ht] at h1; cases h1
       rw [t.nil_inv]
       have:=hw.tok; rw [ht] at this; cases this
       obtain ⟨ws',h1,h2,h3,h4⟩:=hw.row _ _ rfl r hc
       have:=Reps.tok (l:=l) (d:=d) (u:=v) (by rw [h1]; exact ht) h4 h3 (by rw [h2]; exact hcp) (.nil l)
       rw [h2] at this
       exact this
  | agg cs =>
   cases n with
   | zero=>exact h.elim
   | succ n =>
    obtain ⟨cs',h1,h2⟩:=hlist n (Nat.lt_succ_self n) cs _ h
    refine ⟨_,fun hw ws hr=>?_,h2⟩
    cases hr with
    | flat h _=>exact h.elim
    | agg r t=>rw [t.nil_inv]; exact .agg (Reps.list2 (fun c c' hR=>hR hw) h1 _ r) (.nil _)
  | tup cs =>
   cases n with
   | zero=>exact h.elim
   | succ n =>
    obtain ⟨cs',h1,h2⟩:=hlist n (Nat.lt_succ_self n) cs _ h
    refine ⟨_,fun hw ws hr=>?_,h2⟩
    cases hr with
    | flat h _=>exact h.elim
    | tup r t=>rw [t.nil_inv]; exact .tup (Reps.list2 (fun c c' hR=>hR hw) h1 _ r) (.nil _)
  | _=>exact ⟨_,RepR.same trivial,by cases n <;> exact h⟩
termination_by n=>n
theorem SRx.rowTurn (h:SRx gl En x w V l l0 ts st) {u:S.U} {e b n cap:Nat} (hd:lookA st.seg e=some (.row u true)) (ht:l.tok e=some (.at b n cap)) {c c':Array Value} {el:TypeId}
  (hc:w.heap[b]?=some (.cells c el (0,0))) (hsz:c'.size=c.size) {R:AV S→AV S→Prop} (hR:∀ c0 c1,R c0 c1→∀ ws,Reps w V l0 ws [c0]→Reps (putRow w b c' el) V l0 ws [c1])
  {tm:List (AV S)} {sg:List (Nat×AO S)} (hT:All2 R st.tmps tm) (hS:All2 (ObR R) st.seg sg):SRx gl En x (putRow w b c' el) V l l0 ts { st with tmps:=tm,seg:=sg }:=by
 have hm:Mut l st false e b:=⟨_,hd,_,_,ht⟩
 have hb:=lt_of_heap hc
 obtain ⟨t,ht',hro⟩:=h.seg e _ hd
 rw [ht] at ht'; cases ht'
 obtain ⟨c0,el0,h1,h2,h3,h4⟩:=hro
 rw [hc] at h1; cases h1
 have hblk:∀ b',b'≠b→(putRow w b c' el).heap[b']?=w.heap[b']?:=fun b' hne=>by rw [putRow_heap,if_neg]; exact fun e=>hne e.1
 have hcell:∀ b' o,V b' o→eye (putRow w b c' el) b' o=eye w b' o:=fun b' o hv=>cell_congr (hblk _ fun e=>h4 o (e ▸ hv)) o
 have hrn:∀ {l1:Loc} {vs:List Value} {es:List (AV S)},(∀ d t,l1.tok d≠some t)→Reps w V l1 vs es→Reps (putRow w b c' el) V l1 vs es:=fun hl1 hr =>
  hr.mono (fun _ _ h=>h) hcell _ (Loc.le_refl _) fun d' b' n cap' ht2=>absurd ht2 (hl1 _ _)
 have hno:∀ d t,Loc.none.tok d≠some t:=fun d t e=>by simp [Loc.none] at e
 have hnk:∀ d t,l0.notok.tok d≠some t:=fun d t e=>by simp [Loc.notok] at e
 have hat:∀ {b' o:Nat} {ws:List Value},CellsAt w V b' o ws→CellsAt (putRow w b c' el) V b' o ws:=fun h=>h.mono (fun _ _ h=>h) hcell
 have hk:=Keep.putRow (h.mine _ _ _ hm).1 c' el (w:=w)
 have hlen:∀ {a b:List (AV S)},All2 R a b→a.length=b.length:=fun h=>by
  induction h with
  | nil=>rfl
  | cons _ _ ih=>simp [ih]
 have hget:∀ {a b:List (AV S)},All2 R a b→∀ {i:Nat} {c':AV S},b[i]?=some c'→∃ c,a[i]?=some c∧R c c':=fun h=>by
  induction h with
  | nil=>intro i c' h; simp at h
  | cons h1 _ ih =>
   intro i c' h
   cases i with
   | zero=>simp at h; subst h; exact ⟨_,rfl,h1⟩
   | succ i=>simp at h; simpa using ih h
 have hlook:∀ {d ao'},lookA sg d=some ao'→∃ ao,lookA st.seg d=some ao∧ObR R (d,ao) (d,ao'):=fun {d ao'} hd=>by
  have:=lookA_all2 hS d
  rw [hd] at this
  cases hl:lookA st.seg d with
  | none=>rw [hl] at this; exact this.elim
  | some ao=>rw [hl] at this; exact ⟨ao,rfl,this⟩
 have hlook':∀ {d ao},lookA st.seg d=some ao→∃ ao',lookA sg d=some ao'∧ObR R (d,ao) (d,ao'):=fun {d ao} hd=>by
  have:=lookA_all2 hS d
  rw [hd] at this
  cases hl:lookA sg d with
  | none=>rw [hl] at this; exact this.elim
  | some ao'=>rw [hl] at this; exact ⟨ao',rfl,this⟩
 have hM:∀ {k d b},Mut l { st with tmps:=tm,seg:=sg } k d b→Mut l st k d b:=by
  intro k d b hm
  cases k with
  | true=>exact hm
  | false =>
   obtain ⟨ao',h1,h2⟩:=hm
   obtain ⟨ao,h3,_,h4⟩:=hlook h1
   refine ⟨ao,h3,?_⟩
   cases ao <;> cases ao' <;> first | exact h4.elim | exact h2
 have hne:∀ {k d' b'},Mut l st k d' b'→(k,d')≠(false,e)→b'≠b:=fun hm' hn hbb=>by
  subst hbb
  have:=h.dis _ _ _ _ _ hm' hm
  exact hn (by rw [this.1,this.2])
 refine ⟨h.le,h.cb.world (fun _ _ h=>h) hcell,En.stable _ _ _ h.inv hk,gl.st _ _ h.g hk.size fun b' hb' o=>cell_congr (hblk b' fun e=>by have:=(h.mine _ _ _ hm).2; omega) o,
  fun b' o hv=>by rw [putRow_size]; exact h.vlt b' o hv,h.vem,by rw [h.sz]; exact hlen hT,fun i c' hi=>?_,fun d ao' hd'=>?_,fun d ao hd'=>?_,fun d b' hb'=>?_,fun d t ht2=>?_,
  fun k d b hm=>h.mine k d b (hM hm),fun k d k' d' b h1 h2=>h.dis k d k' d' b (hM h1) (hM h2)⟩
 ·obtain ⟨c2,h5,h6⟩:=hget hT hi
  exact hR c2 c' h6 _ (h.tmps i c2 h5)
 ·obtain ⟨ao,h5,_,h6⟩:=hlook hd'
  have h7:=h.seg d ao h5
  cases ao <;> cases ao' <;> try exact h6.elim
  case cells.cells cs cs' =>
   obtain ⟨b',hb',c2,el2,h8,h9,h10⟩:=h7
   have hbb:b'≠b:=hne (k:=false) (d':=d) ⟨_,h5,hb'⟩ (by rintro ⟨⟩; rw [hd] at h5; cases h5)
   exact ⟨b',hb',c2,el2,by rw [hblk _ hbb]; exact h8,Reps.list2 hR h6 _ h9,h10⟩
  case frz.frz =>
   cases h6
   obtain ⟨b',ws,hb',h8,h9⟩:=h7
   exact ⟨b',ws,hb',hat h8,hrn hno h9⟩
  case row.row u1 f1 u' f' =>
   obtain ⟨rfl,rfl⟩:=h6
   obtain ⟨t,ht2,h8⟩:=h7
   refine ⟨t,ht2,?_⟩
   cases t with
   | no=>trivial
   | «at» b' n' cap' =>
    obtain ⟨c2,el2,h9,h10,h11,h12⟩:=h8
    by_cases hde:d=e
    ·subst hde
     rw [ht] at ht2; cases ht2
     rw [hd] at h5; cases h5
     rw [hc] at h9; cases h9
     exact ⟨c',el,by rw [putRow_heap,if_pos ⟨rfl,hb⟩],by rw [hsz]; exact h10,h11,h12⟩
    have hbb:b'≠b:=hne (k:=false) (d':=d) ⟨_,h5,n',cap',ht2⟩ (by rintro ⟨⟩; exact hde rfl)
    exact ⟨c2,el2,by rw [hblk _ hbb]; exact h9,h10,h11,h12⟩
  case mp.mp =>
   cases h6
   obtain ⟨b',hb',hmp⟩:=h7
   have hbb:b'≠b:=hne (k:=false) (d':=d) ⟨_,h5,hb'⟩ (by rintro ⟨⟩; rw [hd] at h5; cases h5)
   exact ⟨b',hb',hmp.mono (hblk _ hbb) (hrn hno) fun o=>by obtain ⟨es,ck,_,_,h3⟩:=hmp; exact h3 o⟩
  case mpz.mpz =>
   obtain ⟨rfl,rfl⟩:=h6
   obtain ⟨b2,hb2,hmz⟩:=h7
   exact ⟨b2,hb2,(hrn hno) hmz⟩
 ·have h7:=h.up d ao hd'
  cases ao with
  | cells cs =>
   obtain ⟨b',hb',c2,el2,h8,h9,h10⟩:=h7
   have hbb:b'≠b:=hne (k:=true) (d':=d) ⟨_,hd',trivial,hb'⟩ (by rintro ⟨⟩)
   exact ⟨b',hb',c2,el2,by rw [hblk _ hbb]; exact h8,hrn hnk h9,h10⟩
  | frz cs =>
   obtain ⟨b',ws,hb',h8,h9⟩:=h7
   exact ⟨b',ws,hb',hat h8,hrn hno h9⟩
  | row u f=>trivial
  | mp kvs =>
   obtain ⟨b',hb',hmp⟩:=h7
   have hbb:b'≠b:=hne (k:=true) (d':=d) ⟨_,hd',trivial,hb'⟩ (by rintro ⟨⟩)
   exact ⟨b',hb',hmp.mono (hblk _ hbb) (hrn hno) fun o=>by obtain ⟨es,ck,_,_,h3⟩:=hmp; exact h3 o⟩
  | mpz ks us=>obtain ⟨b2,hb2,hmz⟩:=h7; exact ⟨b2,hb2,(hrn hno) hmz⟩
 ·obtain ⟨ao,h1,hb2⟩:=h.rego d b' hb'
  obtain ⟨ao',h2,_,h3⟩:=hlook' h1
  exact ⟨_,h2,by cases ao <;> cases ao' <;> first | exact h3.elim | exact hb2 | trivial⟩
 obtain ⟨u,f,h1⟩:=h.regt d t ht2
 obtain ⟨ao',h2,_,h3⟩:=hlook' h1
 cases ao' <;> try exact h3.elim
 exact ⟨_,_,h2⟩
theorem repAllK_elim {u:S.U} {d:Nat} {f:List (S.T u)→List (S.T u)} {K:St S→Prop} (h:repAllK u d f st K):∃ st',K st'∧st'.up=st.up∧All2 (RepR u d f) st.tmps st'.tmps∧All2 (ObR (RepR u d f)) st.seg st'.seg:=by
 unfold repAllK at h
 obtain ⟨tm,h1,h⟩:=mapK_elim (repK_elim 4) _ _ h
 obtain ⟨sg,h2,hK⟩:=mapK_elim (G:=ObR (RepR u d f)) (fun p K h=>by
  obtain ⟨k,ao⟩:=p
  cases ao with
  | cells cs =>
   obtain ⟨cs',h3,h4⟩:=mapK_elim (repK_elim 4) _ _ h
   exact ⟨(k,.cells cs'),⟨rfl,h3⟩,h4⟩
  | frz cs=>exact ⟨_,⟨rfl,rfl⟩,h⟩
  | row u f=>exact ⟨_,⟨rfl,rfl,rfl⟩,h⟩
  | mpz ks us=>exact ⟨_,⟨rfl,rfl,rfl⟩,h⟩
  | mp kvs=>exact ⟨_,⟨rfl,rfl⟩,h⟩) _ _ h
 exact ⟨_,hK,rfl,h1,h2⟩
theorem SR.rowRep0 (h:SR gl En x w V l ts st) {u:S.U} {e:Nat} {f:List (S.T u)→List (S.T u)} {K:St S→Prop} (hk:repAllK u e f st K) (ht:l.tok e=some .no) (hf:f []=[]):∃ st',K st'∧SR gl En x w V l ts st':=by
 obtain ⟨st',hK,hup,hT,hS⟩:=repAllK_elim hk
 have:=SRx.reread h (Loc.le_refl l) rfl (R:=RepR u e f) (fun c c' hR=>hR (.inr ⟨ht,rfl,hf⟩)) (fun _ _ h=>h) hT hS
 exact ⟨st',hK,by obtain ⟨tm,sg,up⟩:=st'; cases hup; exact this⟩
theorem SR.rowRep (h:SR gl En x w V l ts st) {u:S.U} {e b n cap:Nat} {f:List (S.T u)→List (S.T u)} {K:St S→Prop} (hk:repAllK u e f st K) (hd:lookA st.seg e=some (.row u true)) (ht:l.tok e=some (.at b n cap))
  {c c':Array Value} {el:TypeId} (hc:w.heap[b]?=some (.cells c el (0,0))) (hsz:c'.size=c.size)
  (hrow:∀ (xs:List (S.T u)) ws,ws.length=n→Reps w V Loc.none ws (xs.flatMap (Cod.enc u))→(∀ k v,ws[k]?=some v→w.cell? ⟨b,k,none⟩=some v) →
   ∃ ws':List Value,ws'.length=n∧(f xs).length=xs.length∧Reps w V Loc.none ws' ((f xs).flatMap (Cod.enc u))∧∀ (k:Nat) (v:Value),ws'[k]?=some v→c'[k]?=some v) :
  ∃ st',K st'∧SR gl En x (putRow w b c' el) V l ts st':=by
 obtain ⟨st',hK,hup,hT,hS⟩:=repAllK_elim hk
 obtain ⟨t,ht',c0,el0,h1,h2,h3,h4⟩:∃ t,l.tok e=some t∧∃ c0 el0,w.heap[b]?=some (.cells c0 el0 (0,0))∧cap * Cod.size u≤c0.size∧n≤cap * Cod.size u∧∀ o,¬ V b o:=by
  obtain ⟨t,ht',hro⟩:=h.seg e _ hd
  rw [ht] at ht'; cases ht'
  obtain ⟨c0,el0,h5⟩:=hro
  exact ⟨_,ht,c0,el0,h5⟩
 have hb:=lt_of_heap hc
 have hblk:∀ b',b'≠b→(putRow w b c' el).heap[b']?=w.heap[b']?:=fun b' hne=>by rw [putRow_heap,if_neg]; exact fun e=>hne e.1
 have hV:∀ b' o,V b' o→eye (putRow w b c' el) b' o=eye w b' o:=fun b' o hv=>cell_congr (hblk _ fun e=>h4 o (e ▸ hv)) o
 have hw:Wr l w (putRow w b c' el) V u e b n cap f:=⟨ht,hV,fun d' b' n' cap' hne ht2 o _=>cell_congr (hblk _ fun hbb=>by
   obtain ⟨u',f',hreg⟩:=h.regt _ _ ht2
   exact hne (h.dis false d' false e b ⟨_,hreg,n',cap',hbb ▸ ht2⟩ ⟨_,hd,_,_,ht⟩).2) o,fun xs ws hl hr hcs=>by
   obtain ⟨ws',h5,h6,h7,h8⟩:=hrow xs ws hl hr hcs
   refine ⟨ws',h5,h6,h7.mono (fun _ _ h=>h) hV _ (Loc.le_refl _) fun d' b' n cap' e=>by simp [Loc.none] at e,fun k v hk=>?_⟩
   rw [cell_of_heap (w:=putRow w b c' el) (c:=c') (el:=el) (fr:=(0,0)) (by rw [putRow_heap,if_pos ⟨rfl,hb⟩])]
   exact h8 k v hk⟩
 have:=SRx.rowTurn h hd ht hc hsz (R:=RepR u e f) (fun c0 c1 hR=>hR (.inl ⟨_,_,_,hw⟩)) hT hS
 exact ⟨st',hK,by obtain ⟨tm,sg,up⟩:=st'; cases hup; exact this⟩
end Go.Ab
