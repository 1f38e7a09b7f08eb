/-
  THE ENGINE, PART XC: code.
-/
import Derived.OrdersIn
import Derived.RangeFuncRecord
import Derived.RangeFuncIn
import Derived.RangeFuncNested
import Derived.Test.YtfhippofplmpdaaDoorEngB
namespace Go.Ab
open Go
def Point {α:Type} (F:(α→Prop)→Prop):Prop:=∀ K,F K→∃ v,K v∧∀ K':α→Prop,K' v→F K'
theorem Point.ret {α:Type} (v:α):Point fun K:α→Prop=>K v:=fun _ h=>⟨v,h,fun _ h=>h⟩
theorem Point.no {α:Type}:Point fun _:α→Prop=>False:=fun _ h=>h.elim
theorem Point.and {α:Type} (c:Prop) {F:(α→Prop)→Prop} (h:Point F):Point fun K=>c∧F K:=fun K ⟨hc,hF⟩=>by
 obtain ⟨v,h1,h2⟩:=h K hF
 exact ⟨v,h1,fun K' hK=>⟨hc,h2 K' hK⟩⟩
theorem Point.bind {α β:Type} {F:(α→Prop)→Prop} {G:α→(β→Prop)→Prop} (hF:Point F) (hG:∀ v,Point (G v)):Point fun K=>F fun v=>G v K:=fun K h=>by
 obtain ⟨v,h1,h2⟩:=hF _ h
 obtain ⟨u,h3,h4⟩:=hG v K h1
 exact ⟨u,h3,fun K' hK=>h2 _ (h4 K' hK)⟩
theorem Point.opt {α:Type} (o:Option α):Point (optK o):=fun _ ⟨a,h1,h2⟩=>⟨a,h2,fun _ hK=>⟨a,h1,hK⟩⟩
section
variable {S:Sig} [Cod S] {X:Type} {P:Par S X}
omit [Cod S] in
theorem Point.nth (l:List (AV S)) (n:Nat):Point (nthK l n):=fun K h=>by
 rw [nthK_eq] at h
 exact ⟨_,h,fun K' hK=>by rw [nthK_eq]; exact hK⟩
theorem Point.find {α:Type} (l:List (Nat×α)) (n:Nat):Point (findK l n False):=fun K h=>by
 rw [findK_eq] at h
 cases hl:lookA l n with
 | none=>rw [hl] at h; exact h.elim
 | some a=>rw [hl] at h; exact ⟨a,h,fun K' hK=>by rw [findK_eq,hl]; exact hK⟩
omit [Cod S] in
theorem Point.ty (t:Nat):Point (tyK P t):=Point.find _ _
omit [Cod S] in
theorem Point.const (v:Value):Point (constK (S:=S) v):=fun K h=>by
 unfold constK at h ⊢
 split at h <;> first
  | exact h.elim
  | exact ⟨_,h,fun K' hK=>hK⟩
omit [Cod S] in
theorem Point.ev (tmps:List (AV S)) (y:Operand):Point (evK tmps y):=by
 cases y with
 | tmp t=>exact Point.nth _ _
 | const v=>exact Point.const v
 | func f=>exact Point.ret _
 | global g=>exact Point.no
theorem Point.map {α β:Type} {f:α→(β→Prop)→Prop} (hf:∀ a,Point (f a)):∀ l:List α,Point (mapK f l)
 | []=>Point.ret _
 | a :: l=>Point.bind (F:=f a) (G:=fun b K=>mapK f l fun l'=>K (b :: l')) (hf a) fun b=>Point.bind (F:=mapK f l) (G:=fun l' K=>K (b :: l')) (Point.map hf l) fun l'=>Point.ret (b :: l')
theorem Point.app {α:Type} (l m:List α):Point (appK l m):=fun K h=>by
 rw [appK_eq] at h
 exact ⟨_,h,fun K' hK=>by rw [appK_eq]; exact hK⟩
theorem Point.split:∀ (f:Nat) (cs:List (AV S)) (n:Nat),Point fun K:List (AV S)×List (AV S)→Prop=>splitK f cs n fun a b=>K (a,b)
 | f,cs,0=>by
  have:(fun K:List (AV S)×List (AV S)→Prop=>splitK f cs 0 fun a b=>K (a,b))=fun K=>K ([],cs):=by
   funext K; cases f <;> cases cs <;> rfl
  rw [this]; exact Point.ret _
 | 0,cs,n+1=>fun K h=>by simp [splitK] at h
 | f+1,[],n+1=>fun K h=>by simp [splitK] at h
 | f+1,c :: cs,n+1=>by
  have hp:=Point.split f cs (n+1 - width c)
  intro K h
  simp only [splitK] at h
  cases hb:Nat.ble (width c) (n+1) with
  | false=>rw [hb] at h; exact h.elim
  | true =>
   rw [hb] at h
   obtain ⟨p,h1,h2⟩:=hp (fun p=>K (c :: p.1,p.2)) h
   refine ⟨_,h1,fun K' hK=>?_⟩
   simp only [splitK,hb]
   exact h2 (fun p=>K' (c :: p.1,p.2)) hK
theorem Point.drop (cs:List (AV S)) (n:Nat):Point (dropK cs n):=Point.bind (F:=fun K=>splitK 1000 cs n fun a b=>K (a,b)) (G:=fun p K=>K p.2) (Point.split 1000 cs n) fun p=>Point.ret p.2
theorem Point.take (cs:List (AV S)) (n:Nat):Point (takeK cs n):=Point.bind (F:=fun K=>splitK 1000 cs n fun a b=>K (a,b)) (G:=fun p K=>K p.1) (Point.split 1000 cs n) fun p=>Point.ret p.1
omit [Cod S] in
theorem Point.one (cs:List (AV S)):Point (oneK cs):=by
 cases cs with
 | nil=>exact Point.no
 | cons c cs=>cases c <;> first | exact Point.no | exact Point.ret _
theorem Point.val (t:TyI S) (cs:List (AV S)):Point (valK t cs):=by
 obtain ⟨sz,z,k⟩:=t
 cases k <;> first | exact Point.one _ | exact Point.bind (F:=takeK cs sz) (G:=fun l K=>K (AV.agg l)) (Point.take _ _) fun l=>Point.ret (AV.agg l)
theorem Point.read:∀ (p:List Stp) (cs:List (AV S)),Point (readK cs p)
 | [],cs=>by
  have:readK cs []=fun K=>K cs:=by funext K; simp [readK]
  rw [this]; exact Point.ret _
 | .off k :: p,cs=>by
  have:readK cs (.off k :: p)=fun K=>dropK cs k fun cs'=>readK cs' p K:=by funext K; simp [readK]
  rw [this]; exact Point.bind (Point.drop _ _) fun cs'=>Point.read p cs'
 | .idx i es :: p,cs=>by
  cases cs with
  | nil=>intro K h; simp [readK] at h
  | cons c cs =>
   cases c with
   | arr u n xs =>
    intro K h
    simp only [readK] at h ⊢
    cases hb:Nat.beq es (Cod.size u) with
    | true =>
     rw [hb] at h
     obtain ⟨x,hx,h⟩:=h
     obtain ⟨v,h,b2⟩:=Point.read p (Cod.enc u x) _ h
     exact ⟨v,h,fun K' hK=>⟨x,hx,b2 _ hK⟩⟩
    | false=>rw [hb] at h; exact h.elim
   | _=>intro K h; simp [readK] at h
theorem Point.load (ty:TyI S) (p:AV S) (st:St S):Point (loadK ty p st):=by
 cases p with
 | ref cs=>exact Point.val _ _
 | own d q =>
  intro K h
  obtain ⟨ao,h,b1⟩:=Point.find st.seg d _ h
  cases ao with
  | cells cs =>
   obtain ⟨l,h,b2⟩:=Point.read q cs _ h
   obtain ⟨v,h,b3⟩:=Point.val ty l _ h
   exact ⟨v,h,fun K' hK=>b1 _ (b2 _ (b3 _ hK))⟩
  | frz cs =>
   obtain ⟨l,h,b2⟩:=Point.read q cs _ h
   obtain ⟨v,h,b3⟩:=Point.val ty l _ h
   exact ⟨v,h,fun K' hK=>b1 _ (b2 _ (b3 _ hK))⟩
  | row u f=>exact h.elim
  | mp kvs=>exact h.elim
  | mpz ks us=>exact h.elim
 | up d q =>
  intro K h
  obtain ⟨ao,h,b1⟩:=Point.find st.up d _ h
  cases ao with
  | cells cs =>
   obtain ⟨l,h,b2⟩:=Point.read q cs _ h
   obtain ⟨v,h,b3⟩:=Point.val ty l _ h
   exact ⟨v,h,fun K' hK=>b1 _ (b2 _ (b3 _ hK))⟩
  | frz cs =>
   obtain ⟨l,h,b2⟩:=Point.read q cs _ h
   obtain ⟨v,h,b3⟩:=Point.val ty l _ h
   exact ⟨v,h,fun K' hK=>b1 _ (b2 _ (b3 _ hK))⟩
  | row u f=>exact h.elim
  | mp kvs=>exact h.elim
  | mpz ks us=>exact h.elim
 | _=>exact Point.no
theorem Point.frz (v:AV S) (sg:List (Nat×AO S)):Point (frzK v sg):=by
 cases v with
 | ref cs=>exact Point.ret _
 | own d q =>
  intro K h
  obtain ⟨ao,h,b1⟩:=Point.find sg d _ h
  cases ao with
  | frz cs =>
   obtain ⟨l,h,b2⟩:=Point.read q cs _ h
   exact ⟨l,h,fun K' hK=>b1 _ (b2 _ hK)⟩
  | _=>exact h.elim
 | _=>exact Point.no
omit [Cod S] in
theorem Point.intBin (op:BinOp) (k:IntKind) (a b:Int):Point (intBinK (S:=S) op k a b):=by
 cases op <;> first | exact Point.no | exact Point.ret _ | exact Point.and _ (Point.ret _)
omit [Cod S] in
theorem Point.bin (op:BinOp) (a b:AV S):Point (binK op a b):=by
 unfold binK
 cases a <;> try exact Point.no
 case int k p =>
  cases b <;> try exact Point.no
  case int k' q =>
   cases op <;> first | exact Point.and _ (Point.ret _) | (simp only; cases decide (k=k') <;> first | exact Point.no | exact Point.intBin _ _ _ _)
 case str s =>
  cases b <;> try exact Point.no
  case str s'=>cases op <;> first | exact Point.no | exact Point.ret _ | exact Point.and _ (Point.ret _)
theorem Point.optf {α β:Type} (o:Option α) (f:α→β):Point fun K:β→Prop=>optK o fun a=>K (f a):=fun K h=>by
 obtain ⟨a,ha,h⟩:=h
 exact ⟨f a,h,fun K' hK=>⟨a,ha,hK⟩⟩
omit [Cod S] in
theorem Point.binT (P:Par S X) (op:BinOp) (t:TypeId) (a b:AV S):Point (binTK P op t a b):=by
 by_cases hc:∃ xs,a=.agg xs
 ·obtain ⟨xs,rfl⟩:=hc
  cases b <;> try exact Point.no
  cases op <;> first | exact Point.no | exact Point.optf _ _
 by_cases hcb:∃ p,a=.bool p
 ·obtain ⟨p,rfl⟩:=hcb
  cases b <;> try exact Point.no
  intro K h
  obtain ⟨ty,h,b1⟩:=Point.ty t _ h
  cases hk:ty.kind <;> rw [hk] at h <;> try exact h.elim
  cases op <;> try exact h.elim
  ·exact ⟨_,h,fun K' hK=>b1 _ (by rw [hk]; exact hK)⟩
  exact ⟨_,h,fun K' hK=>b1 _ (by rw [hk]; exact hK)⟩
 have hb:binTK P op t a b=binK op a b:=by funext K; cases a <;> first | rfl | exact absurd ⟨_,rfl⟩ hc | exact absurd ⟨_,rfl⟩ hcb
 rw [hb]; exact Point.bin op a b
omit [Cod S] in
theorem Point.un (op:UnOp) (a:AV S):Point (unK op a):=by
 unfold unK
 cases op <;> cases a <;> first | exact Point.no | exact Point.ret _
omit [Cod S] in
theorem Point.minK (mx:Bool):∀ (v:AV S) (l:List (AV S)),Point (minK mx v l)
 | v,[]=>fun K h=>by
  cases v <;> first | exact ⟨_,h,fun K' hK=>hK⟩ | exact h.elim
 | v,q :: l=>fun K h=>by
  cases v <;> try exact h.elim
  rename_i k a
  cases q <;> try exact h.elim
  rename_i k' b
  simp only [Ab.minK] at h ⊢
  cases hd:decide (k=k') with
  | false=>rw [hd] at h; exact h.elim
  | true =>
   rw [hd] at h
   cases mx with
   | true=>obtain ⟨r,h,b1⟩:=Point.minK true _ l _ h; exact ⟨r,h,fun K' hK=>b1 _ hK⟩
   | false=>obtain ⟨r,h,b1⟩:=Point.minK false _ l _ h; exact ⟨r,h,fun K' hK=>b1 _ hK⟩
theorem Point.stepOff:∀ (k:Nat) (p:List Stp),Point (stepOff k p)
 | k,[]=>fun K h=>by
  simp only [Go.Ab.stepOff] at h ⊢
  cases hb:Nat.beq k 0 with
  | true=>rw [hb] at h; exact ⟨_,h,fun K' hK=>hK⟩
  | false=>rw [hb] at h; exact ⟨_,h,fun K' hK=>hK⟩
 | k,[.off j]=>fun K h=>⟨_,h,fun K' hK=>hK⟩
 | k,[.idx i es]=>fun K h=>by
  simp only [Go.Ab.stepOff] at h ⊢
  cases hb:Nat.beq k 0 with
  | true=>rw [hb] at h; exact ⟨_,h,fun K' hK=>hK⟩
  | false=>rw [hb] at h; exact ⟨_,h,fun K' hK=>hK⟩
 | k,.off j :: s :: p=>by
  have hp:=Point.stepOff k (s :: p)
  intro K h
  simp only [Go.Ab.stepOff] at h
  obtain ⟨v,h1,h2⟩:=hp _ h
  exact ⟨_,h1,fun K' hK=>by simp only [Go.Ab.stepOff]; exact h2 _ hK⟩
 | k,.idx i es :: s :: p=>by
  have hp:=Point.stepOff k (s :: p)
  intro K h
  simp only [Go.Ab.stepOff] at h
  obtain ⟨v,h1,h2⟩:=hp _ h
  exact ⟨_,h1,fun K' hK=>by simp only [Go.Ab.stepOff]; exact h2 _ hK⟩
theorem Point.cast {u v:S.U} (xs:List (S.T u)):Point (castL u v xs):=by
 unfold castL
 cases Cod.ueq u v with
 | isTrue h=>exact Point.ret _
 | isFalse h=>exact Point.no
theorem Point.hold (u:S.U) (d:Nat):∀ (cs:List (AV S)),Point (holdK u d cs)
 | []=>Point.no
 | v :: cs=>by
  have hgo:=Point.hold u d cs
  cases v with
  | sl w xs o =>
   cases o with
   | none=>exact hgo
   | some e =>
    intro K h
    simp only [holdK] at h ⊢
    cases hb:Nat.beq d e with
    | true=>rw [hb] at h; exact Point.cast _ _ h
    | false=>rw [hb] at h; exact hgo _ h
  | _=>exact hgo
theorem Point.cut {α β:Type} {F:(α→Prop)→Prop} (hF:Point F) {K0:α→Prop} (h:F K0) {K:β→Prop} {G:(α→(β→Prop)→Prop)} (hG:∀ v,Point (G v)) (hK:∀ v,K0 v→G v K):∃ u,K u∧∀ K':β→Prop,K' u→F fun v=>G v K':=by
 obtain ⟨v,h,b1⟩:=hF _ h
 obtain ⟨u,h,b2⟩:=hG v K (hK v h)
 exact ⟨u,h,fun K' hK=>b1 _ (b2 _ hK)⟩
omit [Cod S] in
theorem Point.evP (tmps:List (AV S)):∀ ps:List (Nat×Operand),Point (evPK tmps ps)
 | []=>Point.ret _
 | (i,y) :: ps=>fun K h=>by
  obtain ⟨v,h,b1⟩:=Point.ev _ _ _ h
  obtain ⟨l,h,b2⟩:=Point.evP tmps ps _ h
  exact ⟨_,h,fun K' hK=>b1 _ (b2 _ hK)⟩
omit [Cod S] in
theorem Point.nils (c:AV S):Point (nilsK c):=by cases c <;> exact Point.ret _
omit [Cod S] in
theorem Point.cells (v:AV S):Point (cellsK v):=fun K h=>by
 cases v with
 | agg cs =>
  simp only [cellsK] at h ⊢
  cases hb:cs.all cellOk with
  | true=>rw [hb] at h; exact ⟨_,h,fun K' hK=>hK⟩
  | false=>rw [hb] at h; exact h.elim
 | _=>first | exact False.elim h | exact ⟨_,h,fun K' hK=>hK⟩
theorem Point.over (cs vs:List (AV S)):Point (overK cs vs):=fun K h=>by
 obtain ⟨l,h,b1⟩:=Point.drop _ _ _ h
 obtain ⟨m,h,b2⟩:=Point.app _ _ _ h
 exact ⟨_,h,fun K' hK=>b1 _ (b2 _ hK)⟩
theorem Point.parts:∀ (ps:List (Nat×AV S)) (fs:List (Nat×Nat×Nat)) (cs:List (AV S)),Point (partsK ps fs cs)
 | [],fs,cs=>fun K h=>by simp only [partsK] at h ⊢; exact ⟨_,h,fun K' hK=>hK⟩
 | (i,v) :: ps,fs,cs=>fun K h=>by
  simp only [partsK] at h ⊢
  cases hf:fs[i]? with
  | none=>rw [hf] at h; exact h.elim
  | some p =>
   obtain ⟨off,ft,sz⟩:=p
   rw [hf] at h
   obtain ⟨vs,h,b1⟩:=Point.cells _ _ h
   cases hb:Nat.beq ((vs.map width).sum) sz with
   | false=>rw [hb] at h; exact h.elim
   | true =>
    rw [hb] at h
    obtain ⟨ab,h,b2⟩:=Point.split 1000 cs off (fun ab=>overK ab.2 vs fun b'=>appK ab.1 b' fun cs'=>partsK ps fs cs' K) h
    obtain ⟨b',h,b3⟩:=Point.over _ _ _ h
    obtain ⟨cs',h,b4⟩:=Point.app _ _ _ h
    obtain ⟨r,h,b5⟩:=Point.parts ps fs cs' _ h
    exact ⟨r,h,fun K' hK=>b1 _ (by simp only [hb]; exact b2 (fun ab=>overK ab.2 vs fun b'=>appK ab.1 b' fun cs'=>partsK ps fs cs' K') (b3 _ (b4 _ (b5 _ hK))))⟩
theorem Point.partsArr (u:S.U) (n:Nat):∀ (ps:List (Nat×AV S)) (xs:List (S.T u)),Point (partsArrK u n ps xs)
 | [],xs=>fun K h=>by simp only [partsArrK] at h ⊢; exact ⟨_,h,fun K' hK=>hK⟩
 | (i,v) :: ps,xs=>fun K h=>by
  simp only [partsArrK] at h ⊢
  cases hb:Nat.blt i n with
  | false=>rw [hb] at h; exact h.elim
  | true =>
   rw [hb] at h
   obtain ⟨vs,h,b1⟩:=Point.cells _ _ h
   obtain ⟨x,h,b2⟩:=Point.opt _ _ h
   obtain ⟨r,h,b3⟩:=Point.partsArr u n ps _ _ h
   exact ⟨r,h,fun K' hK=>b1 _ (b2 _ (b3 _ hK))⟩
omit [Cod S] in
theorem Point.optOp (y:Option Operand) (tmps:List (AV S)):Point (optOp y tmps):=fun K h=>by
 cases y with
 | none=>exact ⟨_,h,fun K' hK=>hK⟩
 | some y=>obtain ⟨v,h,b⟩:=Point.ev _ _ _ h; exact ⟨_,h,fun K' hK=>b _ hK⟩
omit [Cod S] in
theorem Point.bound (v:Option (AV S)) (n:Nat):Point (boundK v n):=fun K h=>by
 unfold boundK at h ⊢
 cases v with
 | none=>exact ⟨_,h,fun K' hK=>hK⟩
 | some v=>cases v <;> first | exact h.elim | exact ⟨_,h.2,fun K' hK=>⟨h.1,hK⟩⟩
theorem opV_point (o:Oper) (tmps:List (AV S)) (seg up:List (Nat×AO S)):Point (opV P o tmps seg up):=by
 intro K h
 unfold opV at h ⊢
 cases ho:o.op <;> rw [ho] at h <;> try exact h.elim
 case move y =>
  obtain ⟨v,h,b⟩:=Point.ev _ _ _ h
  exact ⟨v,h,fun K' hK=>b _ hK⟩
 case assign y =>
  obtain ⟨v,h,b⟩:=Point.ev _ _ _ h
  cases v <;> first | exact h.elim | exact ⟨_,h,fun K' hK=>b _ hK⟩
 case pick c y z =>
  obtain ⟨cv,h,b1⟩:=Point.ev _ _ _ h
  obtain ⟨av,h,b2⟩:=Point.ev _ _ _ h
  obtain ⟨bv,h,b3⟩:=Point.ev _ _ _ h
  cases cv with
  | bool t =>
   have hb:∀ {p q:AV S},bcase t (K p) (K q)→∃ v,K v∧∀ K':AV S→Prop,K' v→bcase t (K' p) (K' q):=fun {p q} h=>by
    cases t with
    | true=>exact ⟨p,h,fun _ h=>h⟩
    | false=>exact ⟨q,h,fun _ h=>h⟩
   cases av with
   | bool p =>
    cases bv with
    | bool q=>exact ⟨_,h,fun K' hK=>b1 _ (b2 _ (b3 _ hK))⟩
    | _=>obtain ⟨v,h1,h2⟩:=hb h; exact ⟨v,h1,fun K' hK=>b1 _ (b2 _ (b3 _ (h2 K' hK)))⟩
   | _=>obtain ⟨v,h1,h2⟩:=hb h; exact ⟨v,h1,fun K' hK=>b1 _ (b2 _ (b3 _ (h2 K' hK)))⟩
  | _=>exact h.elim
 case load t p =>
  obtain ⟨ty,h,b1⟩:=Point.ty _ _ h
  obtain ⟨pv,h,b2⟩:=Point.ev _ _ _ h
  obtain ⟨v,h,b3⟩:=Point.load _ _ _ _ h
  exact ⟨v,h,fun K' hK=>b1 _ (b2 _ (b3 _ hK))⟩
 case nilCheck y =>
  obtain ⟨v,h,b⟩:=Point.ev _ _ _ h
  cases v <;> first | exact h.elim | exact ⟨_,h,fun K' hK=>b _ hK⟩
 case binOp op t y z f =>
  obtain ⟨av,h,b1⟩:=Point.ev _ _ _ h
  obtain ⟨bv,h,b2⟩:=Point.ev _ _ _ h
  obtain ⟨v,h,b3⟩:=Point.binT _ _ _ _ _ _ h
  exact ⟨v,h,fun K' hK=>b1 _ (b2 _ (b3 _ hK))⟩
 case unOp op t y =>
  obtain ⟨av,h,b1⟩:=Point.ev _ _ _ h
  obtain ⟨v,h,b3⟩:=Point.un _ _ _ h
  exact ⟨v,h,fun K' hK=>b1 _ (b3 _ hK)⟩
 case convert t t' y =>
  obtain ⟨ty,h,b1⟩:=Point.ty _ _ h
  obtain ⟨ty',h,b2⟩:=Point.ty _ _ h
  obtain ⟨v,h,b3⟩:=Point.ev _ _ _ h
  cases hk:ty'.kind with
  | int k =>
   rw [hk] at h
   cases v <;> first | exact h.elim | exact ⟨_,h,fun K' hK=>b1 _ (b2 _ (b3 _ (by rw [hk]; exact hK)))⟩
  | str =>
   rw [hk] at h
   cases v <;> first | exact h.elim | exact ⟨_,h,fun K' hK=>b1 _ (b2 _ (b3 _ (by rw [hk]; exact hK)))⟩
  | _=>rw [hk] at h; cases v <;> exact h.elim
 case fieldAddr t y f =>
  obtain ⟨ty,h,b1⟩:=Point.ty _ _ h
  obtain ⟨v,h,b2⟩:=Point.ev _ _ _ h
  cases hk:ty.kind with
  | struct fs =>
   rw [hk] at h
   simp only at h
   cases hf:fs[f]? with
   | none=>rw [hf] at h; exact h.elim
   | some p =>
    obtain ⟨off,ft,sz⟩:=p
    rw [hf] at h
    cases v with
    | ref cs=>obtain ⟨l,h,b3⟩:=Point.drop _ _ _ h; exact ⟨_,h,fun K' hK=>b1 _ (b2 _ (by rw [hk]; simp only [hf]; exact b3 _ hK))⟩
    | own d q=>obtain ⟨l,h,b3⟩:=Point.stepOff _ _ _ h; exact ⟨_,h,fun K' hK=>b1 _ (b2 _ (by rw [hk]; simp only [hf]; exact b3 _ hK))⟩
    | up d q=>obtain ⟨l,h,b3⟩:=Point.stepOff _ _ _ h; exact ⟨_,h,fun K' hK=>b1 _ (b2 _ (by rw [hk]; simp only [hf]; exact b3 _ hK))⟩
    | elp u d i q=>obtain ⟨l,h,b3⟩:=Point.stepOff _ _ _ h; exact ⟨_,h,fun K' hK=>b1 _ (b2 _ (by rw [hk]; simp only [hf]; exact b3 _ hK))⟩
    | _=>exact h.elim
  | _=>rw [hk] at h; exact h.elim
 case field t y f =>
  obtain ⟨ty,h,b1⟩:=Point.ty _ _ h
  obtain ⟨v,h,b2⟩:=Point.ev _ _ _ h
  cases hk:ty.kind with
  | struct fs =>
   rw [hk] at h
   cases v with
   | agg cs =>
    simp only at h
    cases hf:fs[f]? with
    | none=>rw [hf] at h; exact h.elim
    | some p =>
     obtain ⟨off,ft,sz⟩:=p
     rw [hf] at h
     obtain ⟨ty',h,b3⟩:=Point.ty _ _ h
     obtain ⟨l,h,b4⟩:=Point.drop _ _ _ h
     obtain ⟨v,h,b5⟩:=Point.val _ _ _ h
     exact ⟨_,h,fun K' hK=>b1 _ (b2 _ (by rw [hk]; simp only [hf]; exact b3 _ (b4 _ (b5 _ hK))))⟩
   | _=>exact h.elim
  | _=>rw [hk] at h; exact h.elim
 case indexAddr t y i =>
  obtain ⟨ty,h,b1⟩:=Point.ty _ _ h
  obtain ⟨v,h,b2⟩:=Point.ev _ _ _ h
  obtain ⟨iv,h,b3⟩:=Point.ev _ _ _ h
  cases iv with
  | int k n =>
   cases hk:ty.kind with
   | array u len =>
    rw [hk] at h
    cases v with
    | ref cs =>
     cases cs with
     | nil=>exact h.elim
     | cons c cs =>
      cases c with
      | arr u' m xs =>
       simp only at h
       cases hb:Nat.beq m len with
       | true =>
        rw [hb] at h
        obtain ⟨xs',h,b4⟩:=Point.cast _ _ h
        obtain ⟨e,h,b5⟩:=Point.opt _ _ h
        exact ⟨_,h,fun K' hK=>b1 _ (b2 _ (b3 _ (by simp only [hk,hb]; exact b4 _ (b5 _ hK))))⟩
       | false=>rw [hb] at h; exact h.elim
      | _=>exact h.elim
    | own d q =>
     obtain ⟨h1,h2,h⟩:=h
     obtain ⟨l,h,b4⟩:=Point.app _ _ _ h
     exact ⟨_,h,fun K' hK=>b1 _ (b2 _ (b3 _ (by simp only [hk]; exact ⟨h1,h2,b4 _ hK⟩)))⟩
    | up d q =>
     obtain ⟨h1,h2,h⟩:=h
     obtain ⟨l,h,b4⟩:=Point.app _ _ _ h
     exact ⟨_,h,fun K' hK=>b1 _ (b2 _ (b3 _ (by simp only [hk]; exact ⟨h1,h2,b4 _ hK⟩)))⟩
    | _=>exact h.elim
   | slice u b e =>
    rw [hk] at h
    cases v with
    | sl u' xs o =>
     cases o with
     | none =>
      obtain ⟨xs',h,b4⟩:=Point.cast _ _ h
      obtain ⟨e,h,b5⟩:=Point.opt _ _ h
      exact ⟨_,h,fun K' hK=>b1 _ (b2 _ (b3 _ (by simp only [hk]; exact b4 _ (b5 _ hK))))⟩
     | some d=>exact h.elim
    | _=>exact h.elim
   | _=>rw [hk] at h; exact h.elim
  | _=>exact h.elim
 case index t y i =>
  obtain ⟨ty,h,b1⟩:=Point.ty _ _ h
  obtain ⟨v,h,b2⟩:=Point.ev _ _ _ h
  obtain ⟨iv,h,b3⟩:=Point.ev _ _ _ h
  cases hk:ty.kind with
  | str =>
   rw [hk] at h
   cases v with
   | str s =>
    cases iv with
    | int k n =>
     obtain ⟨e,h,b4⟩:=Point.opt _ _ h
     exact ⟨_,h,fun K' hK=>b1 _ (b2 _ (b3 _ (by simp only [hk]; exact b4 _ hK)))⟩
    | _=>exact h.elim
   | _=>exact h.elim
  | _=>rw [hk] at h; exact h.elim
 case extract y i =>
  obtain ⟨v,h,b1⟩:=Point.ev _ _ _ h
  cases v with
  | tup vs =>
   simp only at h
   cases hb:bareB vs with
   | true =>
    rw [hb] at h
    obtain ⟨r,h,b2⟩:=Point.nth _ _ _ h
    cases r <;> first | exact h.elim | exact ⟨_,h,fun K' hK=>b1 _ (by simp only [hb]; exact b2 _ hK)⟩
   | false=>rw [hb] at h; exact h.elim
  | _=>exact h.elim
 case build t ps =>
  obtain ⟨ty,h,b1⟩:=Point.ty _ _ h
  obtain ⟨vs,h,b2⟩:=Point.evP _ _ _ h
  cases hk:ty.kind with
  | struct fs =>
   rw [hk] at h
   obtain ⟨zs,h,b3⟩:=Point.map (fun c=>Point.nils c) _ _ h
   obtain ⟨cs,h,b4⟩:=Point.parts _ _ _ _ h
   exact ⟨_,h,fun K' hK=>b1 _ (b2 _ (by rw [hk]; exact b3 _ (b4 _ hK)))⟩
  | array ua na =>
   rw [hk] at h
   simp only at h
   split at h
   ·rename_i u n zs hz
    cases hb:Nat.beq n na with
    | true =>
     rw [hb] at h
     obtain ⟨zs',h,b3⟩:=Point.cast _ _ h
     obtain ⟨xs,h,b4⟩:=Point.partsArr _ _ _ _ _ h
     exact ⟨_,h,fun K' hK=>b1 _ (b2 _ (by simp only [hk,hz,hb]; exact b3 _ (b4 _ hK)))⟩
    | false=>rw [hb] at h; exact h.elim
   exact h.elim
  | _=>rw [hk] at h; exact h.elim
 case buildSlice t len ps =>
  simp only at h ⊢
  cases hps:ps.toList with
  | cons=>rw [hps] at h; exact h.elim
  | nil =>
   rw [hps] at h
   obtain ⟨ty,h,b1⟩:=Point.ty _ _ h
   cases hk:ty.kind with
   | slice u b e =>
    rw [hk] at h
    cases len with
    | zero=>exact ⟨_,h,fun K' hK=>b1 _ (by simp only [hk]; exact hK)⟩
    | succ n=>exact h.elim
   | _=>rw [hk] at h; exact h.elim
 case slice t y lo hi mx =>
  cases mx with
  | some m=>exact h.elim
  | none =>
   obtain ⟨ty,h,b1⟩:=Point.ty _ _ h
   obtain ⟨v,h,b2⟩:=Point.ev _ _ _ h
   obtain ⟨lv,h,b3⟩:=Point.optOp _ _ _ h
   obtain ⟨hv,h,b4⟩:=Point.optOp _ _ _ h
   cases hk:ty.kind with
   | slice ut b e =>
    rw [hk] at h
    cases v with
    | sl u xs o =>
     cases o with
     | none =>
      obtain ⟨xs',h,b5⟩:=Point.cast _ _ h
      obtain ⟨p,h,b6⟩:=Point.bound _ _ _ h
      obtain ⟨q,h,b7⟩:=Point.bound _ _ _ h
      obtain ⟨h1,h2,h⟩:=h
      exact ⟨_,h,fun K' hK=>b1 _ (b2 _ (b3 _ (b4 _ (by simp only [hk]; exact b5 _ (b6 _ (b7 _ ⟨h1,h2,hK⟩))))))⟩
     | some d=>exact h.elim
    | _=>exact h.elim
   | str =>
    rw [hk] at h
    cases v with
    | str s =>
     obtain ⟨p,h,b6⟩:=Point.bound _ _ _ h
     obtain ⟨q,h,b7⟩:=Point.bound _ _ _ h
     obtain ⟨h1,h2,h⟩:=h
     exact ⟨_,h,fun K' hK=>b1 _ (b2 _ (b3 _ (b4 _ (by simp only [hk]; exact (b6 _ (b7 _ ⟨h1,h2,hK⟩))))))⟩
    | _=>exact h.elim
   | array ua n =>
    rw [hk] at h
    obtain ⟨cs,h,b5⟩:=Point.frz _ _ _ h
    cases cs with
    | nil=>exact h.elim
    | cons c cs =>
     cases c with
     | arr u m xs =>
      simp only at h
      cases hb:Nat.beq m n with
      | false=>rw [hb] at h; exact h.elim
      | true =>
       rw [hb] at h
       obtain ⟨xs',h,b8⟩:=Point.cast _ _ h
       obtain ⟨p,h,b6⟩:=Point.bound _ _ _ h
       obtain ⟨q,h,b7⟩:=Point.bound _ _ _ h
       obtain ⟨h1,h2,h⟩:=h
       exact ⟨_,h,fun K' hK=>b1 _ (b2 _ (b3 _ (b4 _ (by simp only [hk]; exact b5 _ (by simp only [hb]; exact b8 _ (b6 _ (b7 _ ⟨h1,h2,hK⟩)))))))⟩
     | _=>exact h.elim
   | _=>rw [hk] at h; exact h.elim
 case call c =>
  simp only at h ⊢
  cases hc:c.callee with
  | builtin b =>
   rw [hc] at h
   cases b <;> try exact h.elim
   case len =>
    simp only at h
    obtain ⟨vs,h,b1⟩:=Point.map (fun a=>Point.ev tmps a) _ _ h
    cases ht:c.argTypes.toList with
    | nil=>rw [ht] at h; cases vs <;> exact h.elim
    | cons t ts =>
     rw [ht] at h
     cases vs with
     | nil=>exact h.elim
     | cons v vs =>
      cases vs with
      | cons=>exact h.elim
      | nil =>
       simp only [builtinK] at h
       obtain ⟨ty,h,b2⟩:=Point.ty _ _ h
       cases hk:ty.kind with
       | str =>
        rw [hk] at h
        cases v with
        | str s=>exact ⟨_,h,fun K' hK=>b1 _ (by simp only [builtinK]; exact b2 _ (by simp only [hk]; exact hK))⟩
        | _=>exact h.elim
       | slice u n e =>
        rw [hk] at h
        cases v with
        | sl u xs o=>exact ⟨_,h,fun K' hK=>b1 _ (by simp only [builtinK]; exact b2 _ (by simp only [hk]; exact hK))⟩
        | nils=>exact ⟨_,h,fun K' hK=>b1 _ (by simp only [builtinK]; exact b2 _ (by simp only [hk]; exact hK))⟩
        | lens m=>exact ⟨_,h,fun K' hK=>b1 _ (by simp only [builtinK]; exact b2 _ (by simp only [hk]; exact hK))⟩
        | _=>exact h.elim
       | _=>rw [hk] at h; exact h.elim
   case min =>
    simp only at h
    obtain ⟨vs,h,b1⟩:=Point.map (fun a=>Point.ev tmps a) _ _ h
    cases vs with
    | nil=>simp only [builtinK] at h
    | cons v vs =>
     simp only [builtinK] at h
     obtain ⟨r,h,b2⟩:=Point.minK _ _ _ _ h
     exact ⟨_,h,fun K' hK=>b1 _ (by simp only [builtinK]; exact b2 _ hK)⟩
   case max =>
    simp only at h
    obtain ⟨vs,h,b1⟩:=Point.map (fun a=>Point.ev tmps a) _ _ h
    cases vs with
    | nil=>simp only [builtinK] at h
    | cons v vs =>
     simp only [builtinK] at h
     obtain ⟨r,h,b2⟩:=Point.minK _ _ _ _ h
     exact ⟨_,h,fun K' hK=>b1 _ (by simp only [builtinK]; exact b2 _ hK)⟩
  | value f=>rw [hc] at h; exact h.elim
  | _=>rw [hc] at h; exact h.elim
end
end Go.Ab
namespace Go.Ab
open Go
variable {S:Sig} [Cod S] {X:Type}
def putSt (st:St S) (dst:Option Nat) (v:AV S):St S:=match dst with
 | some d=>{ st with tmps:=st.tmps.set d v }
 | none=>st
def guardG (ops:Array Oper) (o:Oper) (run:St S→(St S→X→Prop)→Prop) (st:St S) (x:X) (K:St S→X→Prop):Prop :=
 match o.guard with
 | none=>run st K
 | some (j,want)=>match ops[j]? with
  | some oj=>match oj.dst with
   | some dj=>match st.tmps.getD dj .undef with
    | .bool b=>if b=want then run st K else K (putSt st o.dst .skip) x
    | .skip=>K (putSt st o.dst .skip) x
    | _=>False
   | none=>False
  | none=>False
def stepW (P:Par S X) (ops:Array Oper) (o:Oper) (st:St S) (x:X) (K:St S→X→Prop):Prop :=
 guardG ops o (fun st K=>opW P o st x fun v st' x'=>K (putSt st' o.dst v) x') st x K
variable {gl:Gl} {En:Env X} {x:X} {w w1 w':World} {V V':Nat→Nat→Prop} {l l0:Loc} {ts:Array Value} {st:St S}
variable {P:Program} {par:Par S X} {a:Act} {K:AV S→St S→X→Prop} {ro:Option Nat} {n:Nat} {o:Oper}
variable [LawCod S]
omit [LawCod S] in
theorem SR.put {a:Act} {dst:Option Nat} {c:AV S} {v:Value} (hs:SR gl En x w V l a.tmps st) (hr:Rep w V l v c):SR gl En x w V l (a.put dst v).tmps (putSt st dst c):=by
 cases dst with
 | none=>exact hs
 | some d=>exact hs.setTmp d hr
theorem opX_sound (hpo:ParOk P gl par En) (hs:SR gl En x w V l a.tmps st) {j:Option Nat} (h:opX par j o st fun v=>K v st x):OpOK ro n P o a w (Res gl En a K):=by
 unfold opX at h
 cases ho:o.op <;> rw [ho] at h <;> try exact h.elim
 case indexAddr t y i =>
  refine opW_sound hpo hs ?_
  unfold opW
  rw [ho]
  simp only at h ⊢
  obtain ⟨ty,h,b1⟩:=Point.ty _ _ h
  obtain ⟨v,h,b2⟩:=Point.ev _ _ _ h
  obtain ⟨iv,h,b3⟩:=Point.ev _ _ _ h
  refine b1 _ (b2 _ (b3 _ ?_))
  cases iv with
  | int k n =>
   simp only at h ⊢
   cases hk:ty.kind with
   | slice ut bb ez =>
    rw [hk] at h
    simp only at h ⊢
    cases v with
    | sl u xs r =>
     cases r with
     | none=>exact h.elim
     | some e =>
      simp only at h ⊢
      obtain ⟨xs',h,b4⟩:=Point.cast _ _ h
      refine b4 _ ?_
      rw [findK_eq] at h ⊢
      cases hl:lookA st.seg e with
      | none=>rw [hl] at h; exact h.elim
      | some ao =>
       rw [hl] at h
       cases ao with
       | row u' f =>
        cases f with
        | true=>exact ⟨true,h⟩
        | false=>exact h.elim
       | _=>exact h.elim
    | _=>exact h.elim
   | _=>rw [hk] at h; exact h.elim
  | _=>exact h.elim
 case load t p =>
  have hd:∀ c',o.op≠.defer c':=fun c' e=>by rw [ho] at e; cases e
  obtain ⟨ty,h,hty⟩:=tyK_elim hpo.ti h
  obtain ⟨pv,h,hp⟩:=evK_elim hs h
  cases pv <;> try exact h.elim
  case elp u d i p =>
   cases j with
   | some j =>
    simp only [nthK_eq] at h
    obtain ⟨v,c,h1,h2,h3⟩:=loadX_ok hty hp (hs.tmp j) h
    exact VOK.op (P:=P) ⟨v,w,h1,c,st,x,V,l,h2,hs,h3⟩ hd (by simp only [execOp,ho])
   | none =>
    obtain ⟨b0,h⟩:=h
    rw [findK_eq] at h
    cases hl:lookA st.seg b0 with
    | none=>rw [hl] at h; exact h.elim
    | some ao =>
     rw [hl] at h
     cases ao with
     | cells cs =>
      obtain ⟨bb,_,c0,el,_,hrc,_⟩:=hs.seg _ _ hl
      obtain ⟨v,c,h1,h2,h3⟩:=loadX_ok hty hp hrc h
      exact VOK.op (P:=P) ⟨v,w,h1,c,st,x,V,l,h2,hs,h3⟩ hd (by simp only [execOp,ho])
     | _=>exact h.elim
omit [LawCod S] in
theorem stepG_sound {ops:Array Oper} {Kq:St S→X→Prop} {next:Act→World→Prop} {Q:Exit→Act→World→Prop} {D:List Deferred} {run:St S→(St S→X→Prop)→Prop}
  (hop:run st Kq→OpOK ro n P o a w (Res gl En a fun v st' x'=>Kq (putSt st' o.dst v) x'))
  (hK:∀ a' w' V' l' st' x',a'.defers=D→Kq st' x'→SR gl En x' w' V' l' a'.tmps st'→next a' w') {i:Nat} (hi:ops[i]?=some o)
  (hD:a.defers=D) (hs:SR gl En x w V l a.tmps st) (h:guardG ops o run st x Kq):wpOpIn (Fo ro) n P ops Q i next a w:=by
 have hrun:Region.wanted o (yielded ops a.tmps)=true→run st Kq→wpOpIn (Fo ro) n P ops Q i next a w:=fun hw h=>by
  simp only [wpOpIn,hi,hw,if_true]
  refine hop h _ _ ?_
  rintro v w' ⟨c,st',x',V',l',hK',hs',hr⟩
  exact hK _ w' V' l' _ x' (by rw [(put_tmps a o.dst v).1]; exact hD) hK' (SR.put hs' hr)
 have hpass:Region.wanted o (yielded ops a.tmps)=false→Kq (putSt st o.dst .skip) x→wpOpIn (Fo ro) n P ops Q i next a w:=fun hw h=>by
  simp only [wpOpIn,hi,hw,Bool.false_eq_true,if_false]
  exact ⟨fun _ _=>trivial,hK _ w V l _ x (by rw [(put_tmps a o.dst _).1]; exact hD) h (SR.put hs (c:=.skip) (Rep.flat1 rfl))⟩
 simp only [guardG] at h
 cases hg:o.guard with
 | none =>
  rw [hg] at h
  exact hrun (by simp [Region.wanted,hg]) h
 | some p =>
  obtain ⟨j,want⟩:=p
  rw [hg] at h
  simp only at h
  cases hj:ops[j]? with
  | none=>rw [hj] at h; exact h.elim
  | some oj =>
   rw [hj] at h
   simp only at h
   cases hdj:oj.dst with
   | none=>rw [hdj] at h; exact h.elim
   | some dj =>
    rw [hdj] at h
    simp only at h
    have htmp:=hs.tmp dj
    have hwant:Region.wanted o (yielded ops a.tmps)=(yielded ops a.tmps j==some want):=by simp [Region.wanted,hg]
    cases hc:st.tmps.getD dj .undef with
    | bool b =>
     rw [hc] at h htmp
     simp only at h
     have hv:=htmp.bool
     have hy:yielded ops a.tmps j=some b:=by
      have:a.tmps[dj]?=some (.bool b):=by
       by_cases hlt:dj < a.tmps.size
       ·simp only [Array.getD,hlt,dif_pos] at hv
        rw [Array.getElem?_eq_getElem hlt]; exact congrArg some hv
       simp only [Array.getD,hlt,dif_neg,not_false_eq_true] at hv; cases hv
      simp [yielded,hj,hdj,this]
     by_cases hb:b=want
     ·rw [if_pos hb] at h; exact hrun (by rw [hwant,hy,hb]; simp) h
     rw [if_neg hb] at h; exact hpass (by rw [hwant,hy]; simp [hb]) h
    | skip =>
     rw [hc] at h htmp
     have hv:a.tmps.getD dj Go.undef=Go.undef:=htmp.flat' trivial
     have hy:yielded ops a.tmps j=none:=by
      unfold yielded
      simp only [hj,hdj,Option.bind_some]
      by_cases hlt:dj < a.tmps.size
      ·simp only [Array.getD,hlt,dif_pos] at hv
       rw [Array.getElem?_eq_getElem hlt]
       have hv':a.tmps[dj]=Go.undef:=hv
       rw [hv']; rfl
      have h0:a.tmps[dj]?=none:=Array.getElem?_eq_none (Nat.le_of_not_lt hlt)
      rw [h0]
     exact hpass (by rw [hwant,hy]; rfl) h
    | _=>rw [hc] at h; exact h.elim
theorem stepW_sound (hpo:ParOk P gl par En) {ops:Array Oper} {Kq:St S→X→Prop} {next:Act→World→Prop} {Q:Exit→Act→World→Prop} {D:List Deferred}
  (hK:∀ a' w' V' l' st' x',a'.defers=D→Kq st' x'→SR gl En x' w' V' l' a'.tmps st'→next a' w') {i:Nat} (hi:ops[i]?=some o)
  (hD:a.defers=D) (hs:SR gl En x w V l a.tmps st) (h:stepW par ops o st x Kq):wpOpIn (Fo ro) n P ops Q i next a w :=
 stepG_sound (fun h=>opW_sound hpo hs h) hK hi hD hs h
def stepX (P:Par S X) (j:Option Nat) (ops:Array Oper) (o:Oper) (st:St S) (x:X) (K:St S→X→Prop):Prop :=
 guardG ops o (fun st K=>opX P j o st fun v=>K (putSt st o.dst v) x) st x K
theorem stepX_sound (hpo:ParOk P gl par En) {ops:Array Oper} {Kq:St S→X→Prop} {next:Act→World→Prop} {Q:Exit→Act→World→Prop} {D:List Deferred}
  (hK:∀ a' w' V' l' st' x',a'.defers=D→Kq st' x'→SR gl En x' w' V' l' a'.tmps st'→next a' w') {i:Nat} (hi:ops[i]?=some o)
  (hD:a.defers=D) (hs:SR gl En x w V l a.tmps st) {j:Option Nat} (h:stepX par j ops o st x Kq):wpOpIn (Fo ro) n P ops Q i next a w :=
 stepG_sound (fun h=>opX_sound (K:=fun v st' x'=>Kq (putSt st' o.dst v) x') hpo hs h) hK hi hD hs h
end Go.Ab
namespace Go.Ab
open Go
variable {S:Sig} [Cod S] {X:Type} {P:Par S X}
def Same (ls:List Nat) (ts ts':List (AV S)):Prop:=∀ t∈ls,ts'.getD t .undef=ts.getD t .undef
def SegLe (sg sg':List (Nat×AO S)):Prop:=∀ d ao,lookA sg d=some ao→(∀ u f,ao≠.row u f)→lookA sg' d=some ao
omit [Cod S] in
theorem evK_same {ls:List Nat} {ts ts':List (AV S)} (h:Same ls ts ts') {y:Operand} (hy:∀ t,y=.tmp t→t∈ls) (K:AV S→Prop):evK ts' y K=evK ts y K:=by
 cases y with
 | tmp t=>simp only [evK,nthK_eq,h t (hy t rfl)]
 | _=>rfl
omit [Cod S] in
theorem evLK_same {ls:List Nat} {ts ts':List (AV S)} (h:Same ls ts ts'):∀ {ys:List Operand},(∀ y∈ys,∀ t,y=.tmp t→t∈ls)→∀ (K:List (AV S)→Prop),evLK ts' ys K=evLK ts ys K
 | [],_,K=>rfl
 | y :: ys,hy,K=>by
  have ih:=evLK_same h (ys:=ys) fun y' hy'=>hy y' (List.mem_cons_of_mem _ hy')
  simp only [evLK,mapK] at ih ⊢
  rw [evK_same h (hy y (List.mem_cons_self ..))]
  simp only [ih]
omit [Cod S] in
theorem evPK_same {ls:List Nat} {ts ts':List (AV S)} (h:Same ls ts ts'):∀ {ys:List (Nat×Operand)},(∀ y∈ys,∀ t,y.2=.tmp t→t∈ls)→∀ (K:List (Nat×AV S)→Prop),evPK ts' ys K=evPK ts ys K
 | [],_,K=>rfl
 | (i,y) :: ys,hy,K=>by
  have ih:=evPK_same h (ys:=ys) fun y' hy'=>hy y' (List.mem_cons_of_mem _ hy')
  simp only [evPK]
  rw [evK_same h (hy (i,y) (List.mem_cons_self ..))]
  simp only [ih]
theorem looksAt_op {ops:Array Oper} {o:Oper} {y:Operand} (hy:y∈o.op.operands) (t:Nat) (e:y=.tmp t):t∈o.looksAt ops:=by
 subst e
 exact List.mem_append_left _ (List.mem_filterMap.2 ⟨.tmp t,by simpa using hy,rfl⟩)
theorem loadK_le {ty:TyI S} {p:AV S} {ts ts':List (AV S)} {sg sg' up:List (Nat×AO S)} (hle:SegLe sg sg') {K:AV S→Prop} (h:loadK ty p { tmps:=ts,seg:=sg,up:=up } K) :
  loadK ty p { tmps:=ts',seg:=sg',up:=up } K:=by
 cases p with
 | own d q =>
  simp only [loadK,findK_eq] at h ⊢
  cases hl:lookA sg d with
  | none=>rw [hl] at h; exact h.elim
  | some ao =>
   rw [hl] at h
   cases ao with
   | row u f=>exact h.elim
   | _=>rw [hle d _ hl (by simp)]; exact h
 | _=>exact h
theorem frzK_le {v:AV S} {sg sg':List (Nat×AO S)} (hle:SegLe sg sg') {K:List (AV S)→Prop} (h:frzK v sg K):frzK v sg' K:=by
 cases v with
 | own d q =>
  simp only [frzK,findK_eq] at h ⊢
  cases hl:lookA sg d with
  | none=>rw [hl] at h; exact h.elim
  | some ao =>
   rw [hl] at h
   cases ao with
   | frz cs=>rw [hle d _ hl (by simp)]; exact h
   | _=>exact h.elim
 | _=>exact h
theorem opV_same {ops:Array Oper} {o:Oper} {ts ts':List (AV S)} {sg sg' up:List (Nat×AO S)} (h:Same (o.looksAt ops) ts ts') (hle:SegLe sg sg') {K:AV S→Prop}
  (hv:opV P o ts sg up K):opV P o ts' sg' up K:=by
 have he:∀ y∈o.op.operands,∀ K,evK ts' y K=evK ts y K:=fun y hy K=>evK_same h (fun t e=>looksAt_op hy t e) K
 unfold opV at hv ⊢
 cases ho:o.op <;> rw [ho] at hv he <;> try exact hv.elim
 case move y=>simp only [he y (by simp [Op.operands])]; exact hv
 case assign y=>simp only [he y (by simp [Op.operands])]; exact hv
 case pick c y z=>simp only [he c (by simp [Op.operands]),he y (by simp [Op.operands]),he z (by simp [Op.operands])]; exact hv
 case load t p =>
  simp only [he p (by simp [Op.operands])]
  obtain ⟨ty,hv,b1⟩:=Point.ty _ _ hv
  obtain ⟨pv,hv,b2⟩:=Point.ev _ _ _ hv
  exact b1 _ (b2 _ (loadK_le hle hv))
 case nilCheck y=>simp only [he y (by simp [Op.operands])]; exact hv
 case binOp op t y z f=>simp only [he y (by simp [Op.operands]),he z (by simp [Op.operands])]; exact hv
 case unOp op t y=>simp only [he y (by simp [Op.operands])]; exact hv
 case convert t t' y=>simp only [he y (by simp [Op.operands])]; exact hv
 case fieldAddr t y f=>simp only [he y (by simp [Op.operands])]; exact hv
 case field t y f=>simp only [he y (by simp [Op.operands])]; exact hv
 case indexAddr t y i=>simp only [he y (by simp [Op.operands]),he i (by simp [Op.operands])]; exact hv
 case index t y i=>simp only [he y (by simp [Op.operands]),he i (by simp [Op.operands])]; exact hv
 case extract y i=>simp only [he y (by simp [Op.operands])]; exact hv
 case build t ps =>
  have hP:∀ K,evPK ts' ps.toList K=evPK ts ps.toList K:=fun K=>evPK_same h (fun y hy t e=>looksAt_op (by rw [ho]; simp only [Op.operands]; simp; exact ⟨y.1,by have:(y.1,y.2)∈ps:=(by simpa using hy); exact this⟩) t e) K
  simp only [hP]; exact hv
 case buildSlice t len ps=>exact hv
 case slice t y lo hi mx =>
  cases mx with
  | some m=>exact hv.elim
  | none =>
   have h1:∀ K,optOp lo ts' K=optOp lo ts K:=fun K=>by
    cases lo with
    | none=>rfl
    | some z=>simp only [optOp]; rw [he z (by simp [Op.operands])]
   have h2:∀ K,optOp hi ts' K=optOp hi ts K:=fun K=>by
    cases hi with
    | none=>rfl
    | some z=>simp only [optOp]; rw [he z (by simp [Op.operands])]
   simp only [he y (by simp [Op.operands]),h1,h2]
   obtain ⟨ty,hv,b1⟩:=Point.ty _ _ hv
   obtain ⟨v,hv,b2⟩:=Point.ev _ _ _ hv
   obtain ⟨lv,hv,b3⟩:=Point.optOp _ _ _ hv
   obtain ⟨hv',hv,b4⟩:=Point.optOp _ _ _ hv
   refine b1 _ (b2 _ (b3 _ (b4 _ ?_)))
   cases hk:ty.kind with
   | array ua n=>rw [hk] at hv; exact frzK_le hle hv
   | _=>rw [hk] at hv; exact hv
 case call c =>
  simp only at hv ⊢
  cases hc:c.callee with
  | builtin b =>
   rw [hc] at hv
   cases b <;> try exact hv.elim
   case len =>
    simp only at hv ⊢
    have hL:∀ K,evLK ts' c.args.toList K=evLK ts c.args.toList K:=fun K=>evLK_same h (fun y hy t e=>looksAt_op (by rw [ho]; simp [Op.operands,Call.operands,hc]; simpa using hy) t e) K
    rw [hL]
    obtain ⟨vs,hv,b1⟩:=Point.map (fun a=>Point.ev ts a) _ _ hv
    refine b1 _ ?_
    cases ht:c.argTypes.toList with
    | nil=>rw [ht] at hv; cases vs <;> exact hv.elim
    | cons t tl =>
     rw [ht] at hv
     cases vs with
     | nil=>exact hv.elim
     | cons v vs =>
      cases vs with
      | cons=>exact hv.elim
      | nil=>exact hv
   case min =>
    simp only at hv ⊢
    have hL:∀ K,evLK ts' c.args.toList K=evLK ts c.args.toList K:=fun K=>evLK_same h (fun y hy t e=>looksAt_op (by rw [ho]; simp [Op.operands,Call.operands,hc]; simpa using hy) t e) K
    rw [hL]
    obtain ⟨vs,hv,b1⟩:=Point.map (fun a=>Point.ev ts a) _ _ hv
    refine b1 _ ?_
    cases vs with
    | nil=>simp only [builtinK] at hv
    | cons v vs=>exact hv
   case max =>
    simp only at hv ⊢
    have hL:∀ K,evLK ts' c.args.toList K=evLK ts c.args.toList K:=fun K=>evLK_same h (fun y hy t e=>looksAt_op (by rw [ho]; simp [Op.operands,Call.operands,hc]; simpa using hy) t e) K
    rw [hL]
    obtain ⟨vs,hv,b1⟩:=Point.map (fun a=>Point.ev ts a) _ _ hv
    refine b1 _ ?_
    cases vs with
    | nil=>simp only [builtinK] at hv
    | cons v vs=>exact hv
  | value f=>rw [hc] at hv; exact hv.elim
  | _=>rw [hc] at hv; exact hv.elim
theorem opV_opW {o:Oper} {st:St S} {x:X} {K:AV S→St S→X→Prop} (h:opV P o st.tmps st.seg st.up fun v=>K v st x):opW P o st x K:=by
 unfold opV at h
 unfold opW
 cases ho:o.op <;> rw [ho] at h <;> try exact h.elim
 case move y=>exact h
 case assign y =>
  obtain ⟨v,h,b⟩:=Point.ev _ _ _ h
  refine nilx_right (b _ ?_)
  cases v <;> first | exact h.elim | exact h
 case pick c y z =>
  obtain ⟨cv,h,b1⟩:=Point.ev _ _ _ h
  obtain ⟨av,h,b2⟩:=Point.ev _ _ _ h
  obtain ⟨bv,h,b3⟩:=Point.ev _ _ _ h
  refine b1 _ (b2 _ (b3 _ ?_))
  cases cv with
  | bool t =>
   cases av with
   | bool p=>cases bv <;> exact h
   | _=>exact h
  | _=>exact h.elim
 case load t p =>
  obtain ⟨ty,h,b1⟩:=Point.ty _ _ h
  obtain ⟨pv,h,b2⟩:=Point.ev _ _ _ h
  refine b1 _ (b2 _ ?_)
  cases pv <;> first | exact h.elim | exact h
 case nilCheck y =>
  obtain ⟨v,h,b⟩:=Point.ev _ _ _ h
  refine b _ ?_
  cases v <;> first | exact h.elim | exact h
 case binOp op t y z f =>
  simp only
  cases hnb:nilOpB z with
  | false=>exact h
  | true =>
   exfalso
   unfold nilOpB at hnb
   split at hnb
   ·split at hnb
    ·obtain ⟨c,h,_⟩:=Point.ev _ _ _ h
     simp only [evK,constK] at h
     cases c <;> exact h
    cases hnb
   cases hnb
 case unOp op t y=>exact h
 case convert t t' y=>exact h
 case fieldAddr t y f=>exact h
 case field t y f=>exact h
 case indexAddr t y i =>
  obtain ⟨ty,h,b1⟩:=Point.ty _ _ h
  obtain ⟨v,h,b2⟩:=Point.ev _ _ _ h
  obtain ⟨iv,h,b3⟩:=Point.ev _ _ _ h
  refine b1 _ (b2 _ (b3 _ ?_))
  cases iv with
  | int k n =>
   cases hk:ty.kind with
   | array u len=>rw [hk] at h; exact h
   | slice u b e =>
    rw [hk] at h
    cases v with
    | sl u' xs o =>
     cases o with
     | none=>exact h
     | some d=>exact h.elim
    | _=>exact h.elim
   | _=>rw [hk] at h; exact h.elim
  | _=>exact h.elim
 case index t y i =>
  obtain ⟨ty,h,b1⟩:=Point.ty _ _ h
  obtain ⟨v,h,b2⟩:=Point.ev _ _ _ h
  obtain ⟨iv,h,b3⟩:=Point.ev _ _ _ h
  refine b1 _ (b2 _ (b3 _ ?_))
  cases hk:ty.kind <;> rw [hk] at h <;> cases v <;> cases iv <;> first | exact h.elim | exact h
 case build t ps=>exact h
 case buildSlice t len ps =>
  simp only at h ⊢
  cases hps:ps.toList with
  | cons=>rw [hps] at h; exact h.elim
  | nil=>rw [hps] at h; exact h
 case slice t y lo hi mx =>
  cases mx with
  | some m=>exact h.elim
  | none =>
   obtain ⟨ty,h,b1⟩:=Point.ty _ _ h
   obtain ⟨v,h,b2⟩:=Point.ev _ _ _ h
   obtain ⟨lv,h,b3⟩:=Point.optOp _ _ _ h
   obtain ⟨hv,h,b4⟩:=Point.optOp _ _ _ h
   refine b1 _ (b2 _ (b3 _ (b4 _ ?_)))
   cases hk:ty.kind with
   | slice ut b e =>
    rw [hk] at h
    cases v with
    | sl u xs o =>
     cases o with
     | none=>generalize (P.ow&&lo.isNone)=bb; cases bb <;> exact h
     | some d=>exact h.elim
    | _=>exact h.elim
   | str =>
    rw [hk] at h
    cases v with
    | str s=>exact h
    | _=>exact h.elim
   | array ua n =>
    rw [hk] at h
    cases v with
    | ref cs=>cases cs with
     | nil=>exact h.elim
     | cons c cs=>exact h
    | own d q =>
     simp only [frzK,findK_eq] at h
     simp only [outK,findK_eq]
     cases hl:lookA st.seg d with
     | none=>rw [hl] at h; exact h.elim
     | some ao =>
      rw [hl] at h
      cases ao with
      | frz cs =>
       obtain ⟨l,h,b5⟩:=Point.read q cs _ h
       refine b5 _ ?_
       cases l with
       | nil=>exact h.elim
       | cons c cs=>exact h
      | _=>exact h.elim
    | _=>exact h.elim
   | _=>rw [hk] at h; exact h.elim
 case extract y i=>exact h
 case call c =>
  simp only at h ⊢
  cases hc:c.callee with
  | builtin b =>
   rw [hc] at h
   cases b <;> try exact h.elim
   case len =>
    simp only at h ⊢
    obtain ⟨vs,h,b1⟩:=Point.map (fun a=>Point.ev st.tmps a) _ _ h
    refine b1 _ ?_
    cases ht:c.argTypes.toList with
    | nil=>rw [ht] at h; cases vs <;> exact h.elim
    | cons t tl =>
     rw [ht] at h
     cases vs with
     | nil=>exact h.elim
     | cons v vs =>
      cases vs with
      | cons=>exact h.elim
      | nil =>
       simp only [builtinK] at h ⊢
       obtain ⟨ty,h,b2⟩:=Point.ty _ _ h
       refine b2 _ ?_
       cases hk:ty.kind with
       | str =>
        rw [hk] at h
        cases v with
        | str s=>exact h
        | _=>exact h.elim
       | slice u n e =>
        rw [hk] at h
        cases v with
        | sl u xs o=>exact h
        | nils=>exact h
        | lens m=>exact h
        | _=>exact h.elim
       | _=>rw [hk] at h; exact h.elim
   case min =>
    simp only at h ⊢
    obtain ⟨vs,h,b1⟩:=Point.map (fun a=>Point.ev st.tmps a) _ _ h
    refine b1 _ ?_
    cases vs with
    | nil=>simp only [builtinK] at h
    | cons v vs =>
     simp only [builtinK] at h ⊢
     exact h
   case max =>
    simp only at h ⊢
    obtain ⟨vs,h,b1⟩:=Point.map (fun a=>Point.ev st.tmps a) _ _ h
    refine b1 _ ?_
    cases vs with
    | nil=>simp only [builtinK] at h
    | cons v vs =>
     simp only [builtinK] at h ⊢
     exact h
  | value f=>rw [hc] at h; exact h.elim
  | _=>rw [hc] at h; exact h.elim
omit [Cod S] in
theorem Point.plainL:∀ (ts:List Nat) (vs:List (AV S)),Point (plainLK P ts vs)
 | [],vs=>fun K h=>by simp only [plainLK] at h ⊢; exact ⟨_,h,fun _ h=>h⟩
 | t :: ts,[]=>fun K h=>by simp only [plainLK] at h ⊢; exact ⟨_,h,fun _ h=>h⟩
 | t :: ts,v :: vs=>fun K h=>by
  simp only [plainLK] at h ⊢
  have hp:Point (plainK P t v):=by
   intro K h
   cases v with
   | nils =>
    simp only [plainK] at h ⊢
    obtain ⟨ty,h,b1⟩:=Point.ty _ _ h
    cases hk:ty.kind with
    | slice u b e=>rw [hk] at h; exact ⟨_,h,fun K' hK=>b1 _ (by rw [hk]; exact hK)⟩
    | _=>rw [hk] at h; exact h.elim
   | nil0 =>
    simp only [plainK] at h ⊢
    obtain ⟨ty,h,b1⟩:=Point.ty _ _ h
    cases hk:ty.kind with
    | slice u b e=>rw [hk] at h; exact ⟨_,h,fun K' hK=>b1 _ (by rw [hk]; exact hK)⟩
    | _=>rw [hk] at h; exact h.elim
   | _=>exact ⟨_,h,fun _ h=>h⟩
  obtain ⟨v',h,b1⟩:=hp _ h
  obtain ⟨l,h,b2⟩:=Point.plainL ts vs _ h
  exact ⟨_,h,fun K' hK=>b1 _ (b2 _ hK)⟩
end Go.Ab
namespace Go.Ab
open Go
variable {S:Sig} [Cod S] {X:Type} {P:Par S X} {ops:Array Oper} {o q:Oper} {st:St S} {x:X} {K:St S→X→Prop}
def putsA (sg:List (Nat×AO S)) (l:List (Nat×AO S)):List (Nat×AO S):=l.foldl (fun s p=>putA s p.1 p.2) sg
theorem putA_comm {α:Type} {n m:Nat} {a b:α} (h:n≠m):∀ l:List (Nat×α),putA (putA l n a) m b=putA (putA l m b) n a
 | []=>by
  simp only [putA]
  by_cases h1:m≤n
  ·by_cases h2:n≤m
   ·omega
   simp [h,h.symm,h1,h2]
  by_cases h2:n≤m
  ·simp [h,h.symm,h1,h2]
  omega
 | (k, c) :: l=>by
  have ih:=putA_comm h (a:=a) (b:=b) l
  have hs:=h.symm
  by_cases hn:k=n
  ·subst hn
   have h0:¬ m=k:=hs
   by_cases hm:m≤k
   ·have h5:¬ k≤m:=by omega
    simp [putA,h,h0,hm,h5]
   simp [putA,h,hm]
  by_cases hm:k=m
  ·subst hm
   by_cases hn2:n≤k
   ·have h5:¬ k≤n:=by omega
    simp [putA,hn,hn2,h,h5]
   simp [putA,hn,hn2]
  by_cases h1:n≤k
  ·by_cases h2:m≤k
   ·by_cases h3:n≤m
    ·have h4:¬ m≤n:=by omega
     simp [putA,hn,hm,h1,h2,h,hs,h3,h4]
    have h4:m≤n:=by omega
    simp [putA,hn,hm,h1,h2,h,hs,h3,h4]
   have h3:¬ m≤n:=by omega
   simp [putA,hn,hm,h1,h2,h,h3]
  by_cases h2:m≤k
  ·have h3:¬ n≤m:=by omega
   simp [putA,hn,hm,h1,h2,hs,h3]
  simp [putA,hn,hm,h1,h2,ih]
omit [Cod S] in
theorem putsA_one {l:List (Nat×AO S)} {n:Nat} {a:AO S}:∀ {sg:List (Nat×AO S)},(∀ p∈l,p.1≠n)→putsA (putA sg n a) l=putA (putsA sg l) n a:=by
 induction l with
 | nil=>intro sg _; rfl
 | cons p l ih =>
  intro sg h
  show putsA (putA (putA sg n a) p.1 p.2) l=putA (putsA (putA sg p.1 p.2) l) n a
  rw [putA_comm (h p (List.mem_cons_self ..)).symm]
  exact ih fun p' hp'=>h p' (List.mem_cons_of_mem _ hp')
omit [Cod S] in
theorem putsA_comm {l m:List (Nat×AO S)}:∀ {sg:List (Nat×AO S)},(∀ p∈l,∀ q∈m,p.1≠q.1)→putsA (putsA sg l) m=putsA (putsA sg m) l:=by
 induction l with
 | nil=>intro sg _; rfl
 | cons p l ih =>
  intro sg h
  show putsA (putsA (putA sg p.1 p.2) l) m=putsA (putA (putsA sg m) p.1 p.2) l
  rw [ih fun p' hp'=>h p' (List.mem_cons_of_mem _ hp'),putsA_one fun q hq=>(h p (List.mem_cons_self ..) q hq).symm]
omit [Cod S] in
theorem lookA_putsA_ne {l:List (Nat×AO S)} {d:Nat}:∀ {sg:List (Nat×AO S)},(∀ p∈l,p.1≠d)→lookA (putsA sg l) d=lookA sg d:=by
 induction l with
 | nil=>intro sg _; rfl
 | cons p l ih =>
  intro sg h
  show lookA (putsA (putA sg p.1 p.2) l) d=_
  rw [ih fun p' hp'=>h p' (List.mem_cons_of_mem _ hp'),lookA_putA,if_neg (h p (List.mem_cons_self ..))]
omit [Cod S] in
theorem putsA_append {sg l m:List (Nat×AO S)}:putsA sg (l++m)=putsA (putsA sg l) m:=by simp [putsA,List.foldl_append]
def RowsIn (sg l:List (Nat×AO S)):Prop:=∀ p∈l,(∃ u f,p.2=.row u f)∧∃ u f,lookA sg p.1=some (.row u f)
def NewIn (d:Nat) (sg l:List (Nat×AO S)):Prop:=∀ p∈l,lookA sg p.1=none∧p.1 % 1000=d % 1000
def Sub (sg sg':List (Nat×AO S)):Prop:=∀ d ao,lookA sg d=some ao→lookA sg' d=some ao
def Alike (d:Nat) (sg sg':List (Nat×AO S)):Prop:=∀ k,k % 1000=d % 1000→(lookA sg' k).isSome=(lookA sg k).isSome
omit [Cod S] in
theorem Sub.put {sg sg':List (Nat×AO S)} (h:Sub sg sg') (n:Nat) (a:AO S):Sub (putA sg n a) (putA sg' n a):=by
 intro d ao hd
 rw [lookA_putA] at hd ⊢
 by_cases e:n=d
 ·rw [if_pos e] at hd ⊢; exact hd
 rw [if_neg e] at hd ⊢; exact h d ao hd
omit [Cod S] in
theorem Sub.puts {l:List (Nat×AO S)}:∀ {sg sg':List (Nat×AO S)},Sub sg sg'→Sub (putsA sg l) (putsA sg' l):=by
 induction l with
 | nil=>exact fun h=>h
 | cons p l ih=>exact fun h=>ih (h.put _ _)
omit [Cod S] in
theorem lookA_putsA_row {l:List (Nat×AO S)} {d:Nat}:∀ {sg:List (Nat×AO S)},RowsIn sg l→((∃ u f,lookA (putsA sg l) d=some (.row u f))↔∃ u f,lookA sg d=some (.row u f)):=by
 induction l with
 | nil=>exact fun _=>Iff.rfl
 | cons p l ih =>
  intro sg h
  have h1:∀ d,(∃ u f,lookA (putA sg p.1 p.2) d=some (.row u f))↔∃ u f,lookA sg d=some (.row u f):=fun d=>by
   rw [lookA_putA]
   by_cases e:p.1=d
   ·rw [if_pos e]
    obtain ⟨⟨u,f,h2⟩,h3⟩:=h p (List.mem_cons_self ..)
    rw [e] at h3
    exact ⟨fun _=>h3,fun _=>⟨u,f,by rw [h2]⟩⟩
   rw [if_neg e]
  show (∃ u f,lookA (putsA (putA sg p.1 p.2) l) d=_)↔_
  rw [ih fun p' hp'=>⟨(h p' (List.mem_cons_of_mem _ hp')).1,(h1 _).2 (h p' (List.mem_cons_of_mem _ hp')).2⟩]
  exact h1 d
omit [Cod S] in
theorem RowsIn.segLe {sg l:List (Nat×AO S)} (h:RowsIn sg l):SegLe sg (putsA sg l):=by
 intro d ao hd hr
 rw [lookA_putsA_ne fun p hp e=>?_]
 ·exact hd
 obtain ⟨u,f,h1⟩:=(h p hp).2
 rw [e,hd] at h1
 cases h1
 exact hr u f rfl
omit [Cod S] in
theorem NewIn.ne {d:Nat} {sg l:List (Nat×AO S)} (h:NewIn d sg l) {k:Nat} {ao:AO S} (hk:lookA sg k=some ao):∀ p∈l,p.1≠k:=fun p hp e=>by
 have:=(h p hp).1
 rw [e,hk] at this
 cases this
omit [Cod S] in
theorem NewIn.sub {d:Nat} {sg l:List (Nat×AO S)} (h:NewIn d sg l):Sub sg (putsA sg l):=fun k ao hk=>by
 rw [lookA_putsA_ne (h.ne hk)]; exact hk
omit [Cod S] in
theorem Sub.segLe {sg sg':List (Nat×AO S)} (h:Sub sg sg'):SegLe sg sg':=fun d ao hd _=>h d ao hd
theorem outSK_form:∀ (n:Nat),(∀ (v:AV S) (sg:List (Nat×AO S)) (K:AV S→List (Nat×AO S)→Prop),outSK n v sg K→∃ v' l,RowsIn sg l∧K v' (putsA sg l)∧∀ sg' (K':AV S→List (Nat×AO S)→Prop),Sub sg sg'→K' v' (putsA sg' l)→outSK n v sg' K') ∧
  (∀ (vs:List (AV S)) (sg:List (Nat×AO S)) (K:List (AV S)→List (Nat×AO S)→Prop),outSK.outLS n vs sg K→∃ vs' l,RowsIn sg l∧K vs' (putsA sg l)∧∀ sg' (K':List (AV S)→List (Nat×AO S)→Prop),Sub sg sg'→K' vs' (putsA sg' l)→outSK.outLS n vs sg' K')
 | 0=>⟨fun v sg K h=>by simp [outSK] at h,fun l sg K h=>by
   cases l with
   | nil=>simp only [outSK.outLS] at h ⊢; exact ⟨[],[],fun p hp=>by simp at hp,h,fun sg' K' _ hK=>hK⟩
   | cons v l=>simp [outSK.outLS] at h⟩
 | n + 1=>by
  obtain ⟨ih1,ih2⟩:=outSK_form n
  have hnil:∀ sg:List (Nat×AO S),RowsIn sg []:=fun sg p hp=>by simp at hp
  refine ⟨fun v sg K h=>?_,fun l sg K h=>?_⟩
  ·cases v with
   | own d p =>
    simp only [outSK] at h ⊢
    rw [findK_eq] at h
    cases hl:lookA sg d with
    | none=>rw [hl] at h; exact h.elim
    | some ao =>
     rw [hl] at h
     cases ao with
     | frz cs =>
      obtain ⟨l,h,b3⟩:=Point.read p cs _ h
      exact ⟨_,[],hnil _,h,fun sg' K' hs hK=>by rw [findK_eq,hs _ _ hl]; exact b3 _ hK⟩
     | cells cs=>exact h.elim
     | row u f=>exact h.elim
     | mp kvs=>exact h.elim
     | mpz ks us=>exact h.elim
   | sl u xs o =>
    cases o with
    | none=>simp only [outSK] at h ⊢; exact ⟨_,[],hnil _,h,fun sg' K' _ hK=>hK⟩
    | some d =>
     simp only [outSK] at h ⊢
     rw [findK_eq] at h
     cases hl:lookA sg d with
     | none=>rw [hl] at h; exact h.elim
     | some ao =>
      rw [hl] at h
      cases ao with
      | row u' f =>
       simp only [putK_eq] at h
       refine ⟨_,[(d,.row u' false)],fun p hp=>?_,h,fun sg' K' hs hK=>by rw [findK_eq,hs _ _ hl]; simp only [putK_eq]; exact hK⟩
       obtain rfl:=List.mem_singleton.1 hp
       exact ⟨⟨_,_,rfl⟩,_,_,hl⟩
      | cells cs=>exact h.elim
      | frz cs=>exact h.elim
      | mp kvs=>exact h.elim
      | mpz ks us=>exact h.elim
   | agg cs =>
    simp only [outSK] at h ⊢
    obtain ⟨vs,l,h1,h2,h3⟩:=ih2 cs sg _ h
    exact ⟨_,l,h1,h2,fun sg' K' hs hK=>h3 sg' (fun l sg'=>K' (.agg l) sg') hs hK⟩
   | tup cs =>
    simp only [outSK] at h ⊢
    obtain ⟨vs,l,h1,h2,h3⟩:=ih2 cs sg _ h
    exact ⟨_,l,h1,h2,fun sg' K' hs hK=>h3 sg' (fun l sg'=>K' (.tup l) sg') hs hK⟩
   | clo fn f c =>
    simp only [outSK] at h ⊢
    obtain ⟨vs,l,h1,h2,h3⟩:=ih2 f sg _ h
    obtain ⟨vs2,l2,h4,h5,h6⟩:=ih2 c _ _ h2
    refine ⟨_,l++l2,fun p hp=>?_,by rw [putsA_append]; exact h5,fun sg' K' hs hK=>h3 sg' (fun f' sg'=>outSK.outLS n c sg' fun c' sg''=>K' (.clo fn f' c') sg'') hs (h6 _ (fun c' sg''=>K' (.clo fn vs c') sg'') hs.puts (by rw [putsA_append] at hK; exact hK))⟩
    rcases List.mem_append.1 hp with hp | hp
    ·exact h1 p hp
    exact ⟨(h4 p hp).1,(lookA_putsA_row h1).1 (h4 p hp).2⟩
   | up d p=>simp [outSK] at h
   | undef=>simp [outSK] at h
   | cb=>simp [outSK] at h
   | mpv d =>
    simp only [outSK] at h ⊢
    rw [findK_eq] at h
    cases hl:lookA sg d with
    | none=>rw [hl] at h; exact h.elim
    | some ao =>
     rw [hl] at h
     cases ao with
     | mpz ks us=>exact ⟨_,[],hnil _,h,fun sg' K' hs hK=>by rw [findK_eq,hs _ _ hl]; exact hK⟩
     | _=>exact h.elim
   | mpu d=>simp [outSK] at h
   | elp u d i p=>simp [outSK] at h
   | _=>simp only [outSK] at h ⊢; exact ⟨_,[],hnil _,h,fun sg' K' _ hK=>hK⟩
  cases l with
  | nil=>simp only [outSK.outLS] at h ⊢; exact ⟨[],[],hnil _,h,fun sg' K' _ hK=>hK⟩
  | cons v vs =>
   simp only [outSK.outLS] at h ⊢
   obtain ⟨v',l,h1,h2,h3⟩:=ih1 v sg _ h
   obtain ⟨vs2,l2,h4,h5,h6⟩:=ih2 vs _ _ h2
   refine ⟨_,l++l2,fun p hp=>?_,by rw [putsA_append]; exact h5,fun sg' K' hs hK=>h3 sg' (fun f' sg'=>outSK.outLS n vs sg' fun c' sg''=>K' (f' :: c') sg'') hs (h6 _ (fun c' sg''=>K' (v' :: c') sg'') hs.puts (by rw [putsA_append] at hK; exact hK))⟩
   rcases List.mem_append.1 hp with hp | hp
   ·exact h1 p hp
   exact ⟨(h4 p hp).1,(lookA_putsA_row h1).1 (h4 p hp).2⟩
theorem outSK_outK:∀ (n:Nat),(∀ (v:AV S) (sg:List (Nat×AO S)) (K K':AV S→List (Nat×AO S)→Prop),(∀ a b,K a b→K' a b)→outSK n v sg K→outK n v sg K') ∧
  (∀ (vs:List (AV S)) (sg:List (Nat×AO S)) (K K':List (AV S)→List (Nat×AO S)→Prop),(∀ a b,K a b→K' a b)→outSK.outLS n vs sg K→outK.outLK n vs sg K')
 | 0=>⟨fun v sg K K' _ h=>by simp [outSK] at h,fun l sg K K' hk h=>by
   cases l with
   | nil=>simp only [outSK.outLS,outK.outLK] at h ⊢; exact hk _ _ h
   | cons v l=>simp [outSK.outLS] at h⟩
 | n + 1=>by
  obtain ⟨ih1,ih2⟩:=outSK_outK n
  refine ⟨fun v sg K K' hk h=>?_,fun l sg K K' hk h=>?_⟩
  ·cases v with
   | own d p =>
    simp only [outSK,outK] at h ⊢
    rw [findK_eq] at h ⊢
    cases hl:lookA sg d with
    | none=>rw [hl] at h; exact h.elim
    | some ao =>
     rw [hl] at h
     cases ao with
     | frz cs=>obtain ⟨l,h,b3⟩:=Point.read p cs _ h; exact b3 _ (hk _ _ h)
     | cells cs=>exact h.elim
     | row u f=>exact h.elim
     | mp kvs=>exact h.elim
     | mpz ks us=>exact h.elim
   | sl u xs o =>
    cases o with
    | none=>simp only [outSK,outK] at h ⊢; exact hk _ _ h
    | some d =>
     simp only [outSK,outK] at h ⊢
     rw [findK_eq] at h ⊢
     cases hl:lookA sg d with
     | none=>rw [hl] at h; exact h.elim
     | some ao =>
      rw [hl] at h
      cases ao with
      | row u' f=>simp only [putK_eq] at h ⊢; exact hk _ _ h
      | cells cs=>exact h.elim
      | frz cs=>exact h.elim
      | mp kvs=>exact h.elim
      | mpz ks us=>exact h.elim
   | agg cs=>simp only [outSK,outK] at h ⊢; exact ih2 _ _ _ _ (fun a b h=>hk _ _ h) h
   | tup cs=>simp only [outSK,outK] at h ⊢; exact ih2 _ _ _ _ (fun a b h=>hk _ _ h) h
   | clo fn f c=>simp only [outSK,outK] at h ⊢; exact ih2 _ _ _ _ (fun a b h=>ih2 _ _ _ _ (fun a b h=>hk _ _ h) h) h
   | up d p=>simp [outSK] at h
   | undef=>simp [outSK] at h
   | cb=>simp [outSK] at h
   | mpv d =>
    simp only [outSK,outK] at h ⊢
    rw [findK_eq] at h ⊢
    cases hl:lookA sg d with
    | none=>rw [hl] at h; exact h.elim
    | some ao =>
     rw [hl] at h
     cases ao with
     | mpz ks us=>exact hk _ _ h
     | _=>exact h.elim
   | mpu d=>simp [outSK] at h
   | elp u d i p=>simp [outSK] at h
   | _=>simp only [outSK,outK] at h ⊢; exact hk _ _ h
  cases l with
  | nil=>simp only [outSK.outLS,outK.outLK] at h ⊢; exact hk _ _ h
  | cons v l=>simp only [outSK.outLS,outK.outLK] at h ⊢; exact ih1 _ _ _ _ (fun a b h=>ih2 _ _ _ _ (fun a b h=>hk _ _ h) h) h
structure CallOk (P:Par S X):Prop where
 mono:∀ f args (Q Q':AV S→Prop),(∀ r,Q r→Q' r)→P.call f args Q→P.call f args Q'
 wit:∀ f args (Q:AV S→Prop),P.call f args Q→∃ r,Q r
theorem peekK_form:∀ (n:Nat),(∀ (v:AV S) (sg:List (Nat×AO S)) (K:AV S→Prop),peekK n v sg K→∃ v',K v'∧∀ sg' (K':AV S→Prop),Sub sg sg'→K' v'→peekK n v sg' K') ∧
  (∀ (vs:List (AV S)) (sg:List (Nat×AO S)) (K:List (AV S)→Prop),peekK.peekLK n vs sg K→∃ vs',K vs'∧∀ sg' (K':List (AV S)→Prop),Sub sg sg'→K' vs'→peekK.peekLK n vs sg' K')
 | 0=>⟨fun v sg K h=>by simp [peekK] at h,fun l sg K h=>by
   cases l with
   | nil=>simp only [peekK.peekLK] at h ⊢; exact ⟨[],h,fun sg' K' _ hK=>hK⟩
   | cons v l=>simp [peekK.peekLK] at h⟩
 | n + 1=>by
  obtain ⟨ih1,ih2⟩:=peekK_form n
  refine ⟨fun v sg K h=>?_,fun l sg K h=>?_⟩
  ·cases v with
   | own d p =>
    simp only [peekK] at h ⊢
    rw [findK_eq] at h
    cases hl:lookA sg d with
    | none=>rw [hl] at h; exact h.elim
    | some ao =>
     rw [hl] at h
     cases ao with
     | frz cs =>
      obtain ⟨l,h,b3⟩:=Point.read p cs _ h
      exact ⟨_,h,fun sg' K' hs hK=>by rw [findK_eq,hs _ _ hl]; exact b3 _ hK⟩
     | cells cs =>
      obtain ⟨cs',h,b2⟩:=ih2 _ _ _ h
      obtain ⟨l,h,b3⟩:=Point.read p cs' _ h
      exact ⟨_,h,fun sg' K' hs hK=>by rw [findK_eq,hs _ _ hl]; exact b2 sg' _ hs (b3 _ hK)⟩
     | _=>exact h.elim
   | mpv d =>
    simp only [peekK] at h ⊢
    rw [findK_eq] at h
    cases hl:lookA sg d with
    | none=>rw [hl] at h; exact h.elim
    | some ao =>
     rw [hl] at h
     cases ao with
     | mp kvs =>
      simp only at h
      cases hb:bareB (kvs.map fun p=>p.1)&&bareB (kvs.map fun p=>p.2) with
      | false=>rw [hb] at h; exact h.elim
      | true =>
       rw [hb] at h
       exact ⟨_,h,fun sg' K' hs hK=>by rw [findK_eq,hs _ _ hl]; simp only [hb]; exact hK⟩
     | mpz ks us=>exact ⟨_,h,fun sg' K' hs hK=>by rw [findK_eq,hs _ _ hl]; exact hK⟩
     | _=>exact h.elim
   | sl u xs o=>cases o <;> (simp only [peekK] at h ⊢; exact ⟨_,h,fun sg' K' _ hK=>hK⟩)
   | agg cs =>
    simp only [peekK] at h ⊢
    obtain ⟨vs,h2,h3⟩:=ih2 cs sg _ h
    exact ⟨_,h2,fun sg' K' hs hK=>h3 sg' (fun l=>K' (.agg l)) hs hK⟩
   | tup cs =>
    simp only [peekK] at h ⊢
    obtain ⟨vs,h2,h3⟩:=ih2 cs sg _ h
    exact ⟨_,h2,fun sg' K' hs hK=>h3 sg' (fun l=>K' (.tup l)) hs hK⟩
   | clo fn f c =>
    simp only [peekK] at h ⊢
    obtain ⟨vs,h2,h3⟩:=ih2 f sg _ h
    obtain ⟨vs2,h5,h6⟩:=ih2 c _ _ h2
    exact ⟨_,h5,fun sg' K' hs hK=>h3 sg' (fun f'=>peekK.peekLK n c sg' fun c'=>K' (.clo fn f' c')) hs (h6 _ (fun c'=>K' (.clo fn vs c')) hs hK)⟩
   | up d p=>simp [peekK] at h
   | undef=>simp [peekK] at h
   | cb=>simp [peekK] at h
   | mpu d=>simp [peekK] at h
   | elp u d i p=>simp [peekK] at h
   | _=>simp only [peekK] at h ⊢; exact ⟨_,h,fun sg' K' _ hK=>hK⟩
  cases l with
  | nil=>simp only [peekK.peekLK] at h ⊢; exact ⟨[],h,fun sg' K' _ hK=>hK⟩
  | cons v vs =>
   simp only [peekK.peekLK] at h ⊢
   obtain ⟨v',h2,h3⟩:=ih1 v sg _ h
   obtain ⟨vs2,h5,h6⟩:=ih2 vs _ _ h2
   exact ⟨_,h5,fun sg' K' hs hK=>h3 sg' (fun f'=>peekK.peekLK n vs sg' fun c'=>K' (f' :: c')) hs (h6 _ (fun c'=>K' (v' :: c')) hs hK)⟩
theorem callD_form (hm:CallOk P) {c:Call} {K:AV S→St S→X→Prop} (h:callD P c st x K):∃ g all l,∃ kp:AV S→Prop,RowsIn st.seg l∧P.call g all (fun r=>kp r∧plainR r (K r { st with seg:=putsA st.seg l } x)) ∧
  ∀ {ops:Array Oper} {o:Oper} (st':St S) (x':X) (K':AV S→St S→X→Prop),o.op=.call c →
  Same (o.looksAt ops) st.tmps st'.tmps→Sub st.seg st'.seg→P.call g all (fun r=>kp r∧plainR r (K' r { st' with seg:=putsA st'.seg l } x'))→callD P c st' x' K':=by
 unfold callD at h
 cases hc:c.callee with
 | value f =>
  rw [hc] at h
  simp only at h
  obtain ⟨fv,h,b1⟩:=Point.ev _ _ _ h
  obtain ⟨args,h,b2⟩:=Point.map (fun a=>Point.ev st.tmps a) _ _ h
  cases fv with
  | clo fn first caps =>
   cases fn with
   | func g =>
    simp only at h
    cases hl:P.loc g with
    | true=>rw [hl] at h; exact h.elim
    | false =>
     rw [hl] at h
     obtain ⟨args',h,b3⟩:=Point.plainL _ _ _ h
     rw [appK_eq] at h; rw [appK_eq] at h
     have hgo:∀ (all:List (AV S)) (l:List (Nat×AO S)) (kp:AV S→Prop),RowsIn st.seg l→P.call g all (fun r=>kp r∧plainR r (K r { st with seg:=putsA st.seg l } x)) →
       (∀ (st':St S) (x':X) (K':AV S→St S→X→Prop),Sub st.seg st'.seg→P.call g all (fun r=>kp r∧plainR r (K' r { st' with seg:=putsA st'.seg l } x')) →
        match P.pk g with
         | true=>peekK.peekLK 60 (first++args'++caps) st'.seg fun all'=>P.call g all' fun r=>keepR r=true∧plainR r (K' r st' x')
         | false=>outSK.outLS 60 (first++args'++caps) st'.seg fun all' sg=>P.call g all' fun r=>plainR r (K' r { st' with seg:=sg } x')) →
       ∃ g all l,∃ kp:AV S→Prop,RowsIn st.seg l∧P.call g all (fun r=>kp r∧plainR r (K r { st with seg:=putsA st.seg l } x)) ∧
       ∀ {ops:Array Oper} {o:Oper} (st':St S) (x':X) (K':AV S→St S→X→Prop),o.op=.call c →
       Same (o.looksAt ops) st.tmps st'.tmps→Sub st.seg st'.seg→P.call g all (fun r=>kp r∧plainR r (K' r { st' with seg:=putsA st'.seg l } x'))→callD P c st' x' K':=by
      intro all l kp h1 h b4
      refine ⟨g,all,l,kp,h1,h,fun {ops o} st' x' K' ho hsame hseg hK=>?_⟩
      have he:∀ y∈o.op.operands,∀ t,y=.tmp t→t∈o.looksAt ops:=fun y hy t e=>looksAt_op hy t e
      rw [ho] at he
      have hops:∀ y,y=f∨y∈c.args.toList→y∈(Op.call c).operands:=fun y hy=>by
       simp only [Op.operands,Call.operands,hc]
       rcases hy with rfl | hy
       ·simp
       simp; right; simpa using hy
      unfold callD
      rw [hc]
      simp only
      rw [evK_same hsame (he f (hops f (.inl rfl)))]
      refine b1 _ ?_
      rw [evLK_same hsame fun y hy=>he y (hops y (.inr hy))]
      refine b2 _ ?_
      simp only [hl]
      refine b3 _ ?_
      rw [appK_eq,appK_eq]
      exact b4 st' x' K' hseg hK
     cases hpk:P.pk g with
     | true =>
      rw [hpk] at h hgo
      simp only at h hgo
      obtain ⟨all,h,b4⟩:=(peekK_form 60).2 _ _ _ h
      exact hgo all [] (fun r=>keepR r=true) (fun p hp=>by simp at hp) h fun st' x' K' hseg hK=>b4 _ _ hseg hK
     | false =>
      rw [hpk] at h hgo
      simp only at h hgo
      obtain ⟨all,l,h1,h,b4⟩:=(outSK_form 60).2 _ _ _ h
      exact hgo all l (fun _=>True) h1 (hm.mono _ _ _ _ (fun r hr=>⟨trivial,hr⟩) h) fun st' x' K' hseg hK=>b4 _ _ hseg (hm.mono _ _ _ _ (fun r hr=>hr.2) hK)
   | _=>exact h.elim
  | _=>exact h.elim
 | _=>rw [hc] at h; exact h.elim
omit [Cod S] in
theorem plain_adopt {r:AV S} {sg:List (Nat×AO S)} {K:AV S→List (Nat×AO S)→Prop} (h:plainR r (K r sg)):adoptK r sg K:=by
 cases r with
 | sl u xs o =>
  cases o with
  | none=>exact h
  | some e=>exact h.elim
 | _=>exact h
omit [Cod S] in
theorem plainR_mono {r:AV S} {X Y:Prop} (hxy:X→Y) (h:plainR r X):plainR r Y:=by
 cases r with
 | sl u xs o =>
  cases o with
  | none=>exact hxy h
  | some e=>exact h.elim
 | _=>exact hxy h
omit [Cod S] in
theorem plainR_out {r:AV S} {X:Prop} (h:plainR r X):X:=by
 cases r with
 | sl u xs o =>
  cases o with
  | none=>exact h
  | some e=>exact h.elim
 | _=>exact h
def IsH (d:Nat) (r:AV S):Prop:=∃ (u:S.U) (xs:List (S.T u)),r=.sl u xs (some d)
def newR (d:Nat) (r:AV S):List (Nat×AO S):=match r with
 | .sl u _ _=>[(d,.row u true)]
 | _=>[]
omit [Cod S] in
theorem handR_elim {d:Nat} {sg:List (Nat×AO S)} {r:AV S} {K:AV S→List (Nat×AO S)→Prop} (h:handR d sg r K):IsH d r∧K r (putsA sg (newR d r)):=by
 cases r with
 | sl u xs o =>
  cases o with
  | none=>exact h.elim
  | some e =>
   simp only [handR] at h
   cases hb:Nat.beq e d with
   | false=>rw [hb] at h; exact h.elim
   | true =>
    rw [hb] at h
    obtain rfl:=Nat.eq_of_beq_eq_true hb
    simp only [findK_eq,putK_eq] at h
    cases hl:lookA sg e with
    | some ao=>rw [hl] at h; exact h.elim
    | none=>rw [hl] at h; exact ⟨⟨u,xs,rfl⟩,h⟩
 | _=>exact h.elim
omit [Cod S] in
theorem handR_intro {d:Nat} {sg:List (Nat×AO S)} {r:AV S} {K:AV S→List (Nat×AO S)→Prop} (hn:lookA sg d=none) (h:IsH d r) (hK:K r (putsA sg (newR d r))):handR d sg r K:=by
 obtain ⟨u,xs,rfl⟩:=h
 simp only [handR,Nat.beq_refl,findK_eq,putK_eq,hn]
 exact hK
omit [Cod S] in
theorem hand_adopt {d:Nat} {sg:List (Nat×AO S)} {r:AV S} {K:AV S→List (Nat×AO S)→Prop} (h:handR d sg r K):adoptK r sg K:=by
 cases r with
 | sl u xs o =>
  cases o with
  | none=>exact h.elim
  | some e =>
   simp only [handR] at h
   simp only [adoptK]
   cases hb:Nat.beq e d with
   | false=>rw [hb] at h; exact h.elim
   | true =>
    rw [hb] at h
    obtain rfl:=Nat.eq_of_beq_eq_true hb
    exact h
 | _=>exact h.elim
omit [Cod S] in
theorem newR_in {d:Nat} {sg:List (Nat×AO S)} {r:AV S} (hn:lookA sg d=none):NewIn d sg (newR d r):=fun p hp=>by
 cases r with
 | sl u xs o=>obtain rfl:=List.mem_singleton.1 hp; exact ⟨hn,rfl⟩
 | _=>cases hp
omit [Cod S] in
theorem RowsIn.none {sg l:List (Nat×AO S)} (h:RowsIn sg l) {d:Nat} (hn:lookA sg d=none):lookA (putsA sg l) d=none:=by
 rw [lookA_putsA_ne fun p hp e=>?_]
 ·exact hn
 obtain ⟨u,f,h1⟩:=(h p hp).2
 rw [e,hn] at h1
 cases h1
theorem callH_form (hm:CallOk P) {d:Nat} {c:Call} {K:AV S→St S→X→Prop} (h:callH P d c st x K):lookA st.seg d=none∧∃ g all l,∃ kp:AV S→Prop,RowsIn st.seg l∧P.call g all (fun r=>(kp r∧IsH d r)∧K r { st with seg:=putsA st.seg (l++newR d r) } x) ∧
  ∀ {ops:Array Oper} {o:Oper} (st':St S) (x':X) (K':AV S→St S→X→Prop),o.op=.call c →
  Same (o.looksAt ops) st.tmps st'.tmps→Sub st.seg st'.seg→lookA st'.seg d=none→P.call g all (fun r=>(kp r∧IsH d r)∧K' r { st' with seg:=putsA st'.seg (l++newR d r) } x')→callH P d c st' x' K':=by
 unfold callH at h
 cases hc:c.callee with
 | value f =>
  rw [hc] at h
  simp only [findK_eq] at h
  cases hn:lookA st.seg d with
  | some ao=>rw [hn] at h; exact h.elim
  | none =>
  rw [hn] at h
  simp only at h
  refine ⟨rfl,?_⟩
  obtain ⟨fv,h,b1⟩:=Point.ev _ _ _ h
  obtain ⟨args,h,b2⟩:=Point.map (fun a=>Point.ev st.tmps a) _ _ h
  cases fv with
  | clo fn first caps =>
   cases fn with
   | func g =>
    simp only at h
    cases hl:P.loc g with
    | true=>rw [hl] at h; exact h.elim
    | false =>
     rw [hl] at h
     obtain ⟨args',h,b3⟩:=Point.plainL _ _ _ h
     rw [appK_eq] at h; rw [appK_eq] at h
     have hgo:∀ (all:List (AV S)) (l:List (Nat×AO S)) (kp:AV S→Prop),RowsIn st.seg l→P.call g all (fun r=>(kp r∧IsH d r)∧K r { st with seg:=putsA st.seg (l++newR d r) } x) →
       (∀ (st':St S) (x':X) (K':AV S→St S→X→Prop),Sub st.seg st'.seg→lookA st'.seg d=none→P.call g all (fun r=>(kp r∧IsH d r)∧K' r { st' with seg:=putsA st'.seg (l++newR d r) } x') →
        match P.pk g with
         | true=>peekK.peekLK 60 (first++args'++caps) st'.seg fun all'=>P.call g all' fun r=>keepR r=true∧handR d st'.seg r fun r' sg'=>K' r' { st' with seg:=sg' } x'
         | false=>outSK.outLS 60 (first++args'++caps) st'.seg fun all' sg=>P.call g all' fun r=>handR d sg r fun r' sg'=>K' r' { st' with seg:=sg' } x') →
       ∃ g all l,∃ kp:AV S→Prop,RowsIn st.seg l∧P.call g all (fun r=>(kp r∧IsH d r)∧K r { st with seg:=putsA st.seg (l++newR d r) } x) ∧
       ∀ {ops:Array Oper} {o:Oper} (st':St S) (x':X) (K':AV S→St S→X→Prop),o.op=.call c →
       Same (o.looksAt ops) st.tmps st'.tmps→Sub st.seg st'.seg→lookA st'.seg d=none→P.call g all (fun r=>(kp r∧IsH d r)∧K' r { st' with seg:=putsA st'.seg (l++newR d r) } x')→callH P d c st' x' K':=by
      intro all l kp h1 h b4
      refine ⟨g,all,l,kp,h1,h,fun {ops o} st' x' K' ho hsame hseg hn' hK=>?_⟩
      have he:∀ y∈o.op.operands,∀ t,y=.tmp t→t∈o.looksAt ops:=fun y hy t e=>looksAt_op hy t e
      rw [ho] at he
      have hops:∀ y,y=f∨y∈c.args.toList→y∈(Op.call c).operands:=fun y hy=>by
       simp only [Op.operands,Call.operands,hc]
       rcases hy with rfl | hy
       ·simp
       simp; right; simpa using hy
      unfold callH
      rw [hc]
      simp only [findK_eq,hn']
      rw [evK_same hsame (he f (hops f (.inl rfl)))]
      refine b1 _ ?_
      rw [evLK_same hsame fun y hy=>he y (hops y (.inr hy))]
      refine b2 _ ?_
      simp only [hl]
      refine b3 _ ?_
      rw [appK_eq,appK_eq]
      exact b4 st' x' K' hseg hn' hK
     cases hpk:P.pk g with
     | true =>
      rw [hpk] at h hgo
      simp only at h hgo
      obtain ⟨all,h,b4⟩:=(peekK_form 60).2 _ _ _ h
      refine hgo all [] (fun r=>keepR r=true) (fun p hp=>by simp at hp) (hm.mono _ _ _ _ (fun r hr=>?_) h) fun st' x' K' hseg hn' hK=>b4 _ _ hseg (hm.mono _ _ _ _ (fun r hr=>⟨hr.1.1,handR_intro hn' hr.1.2 hr.2⟩) hK)
      have:=handR_elim hr.2
      exact ⟨⟨hr.1,this.1⟩,this.2⟩
     | false =>
      rw [hpk] at h hgo
      simp only at h hgo
      obtain ⟨all,l,h1,h,b4⟩:=(outSK_form 60).2 _ _ _ h
      refine hgo all l (fun _=>True) h1 (hm.mono _ _ _ _ (fun r hr=>?_) h) fun st' x' K' hseg hn' hK=>b4 _ _ hseg (hm.mono _ _ _ _ (fun r hr=>?_) hK)
      ·rw [putsA_append]
       have:=handR_elim hr
       exact ⟨⟨trivial,this.1⟩,this.2⟩
      rw [putsA_append] at hr
      have hsr:RowsIn st'.seg l:=fun p hp=>⟨(h1 p hp).1,let ⟨u,f,h2⟩:=(h1 p hp).2; ⟨u,f,hseg _ _ h2⟩⟩
      exact handR_intro (hsr.none hn') hr.1.2 hr.2
   | _=>exact h.elim
  | _=>exact h.elim
 | _=>rw [hc] at h; exact h.elim
theorem callH_callK (hm:CallOk P) {d:Nat} {c:Call} {K:AV S→St S→X→Prop} (h:callH P d c st x K):callK P c st x K:=by
 unfold callH at h
 unfold callK
 cases hc:c.callee with
 | value f =>
  rw [hc] at h
  simp only [findK_eq] at h ⊢
  cases hn:lookA st.seg d with
  | some ao=>rw [hn] at h; exact h.elim
  | none =>
  rw [hn] at h
  simp only at h
  obtain ⟨fv,h,b1⟩:=Point.ev _ _ _ h
  obtain ⟨args,h,b2⟩:=Point.map (fun a=>Point.ev st.tmps a) _ _ h
  refine b1 _ (b2 _ ?_)
  cases fv with
  | clo fn first caps =>
   cases fn with
   | func g =>
    simp only at h ⊢
    cases hl:P.loc g with
    | true=>rw [hl] at h; exact h.elim
    | false =>
     rw [hl] at h
     simp only
     obtain ⟨args',h,b3⟩:=Point.plainL _ _ _ h
     refine b3 _ ?_
     rw [appK_eq] at h; rw [appK_eq] at h
     rw [appK_eq,appK_eq]
     cases hpk:P.pk g with
     | true =>
      rw [hpk] at h
      simp only at h ⊢
      obtain ⟨all,h,b4⟩:=(peekK_form 60).2 _ _ _ h
      exact b4 _ _ (fun _ _ h=>h) (hm.mono _ _ _ _ (fun r hr=>⟨hr.1,hand_adopt (K:=fun r' sg'=>K r' { st with seg:=sg' } x) hr.2⟩) h)
     | false =>
      rw [hpk] at h
      simp only at h ⊢
      exact (outSK_outK 60).2 _ _ _ _ (fun _ _ h=>hm.mono _ _ _ _ (fun r hr=>hand_adopt (K:=fun r' sg'=>K r' { st with seg:=sg' } x) hr) h) h
   | _=>exact h.elim
  | _=>exact h.elim
 | _=>rw [hc] at h; exact h.elim
theorem callD_callK (hm:CallOk P) {c:Call} {K:AV S→St S→X→Prop} (h:callD P c st x K):callK P c st x K:=by
 unfold callD at h
 unfold callK
 cases hc:c.callee with
 | value f =>
  rw [hc] at h
  simp only at h ⊢
  obtain ⟨fv,h,b1⟩:=Point.ev _ _ _ h
  obtain ⟨args,h,b2⟩:=Point.map (fun a=>Point.ev st.tmps a) _ _ h
  refine b1 _ (b2 _ ?_)
  cases fv with
  | clo fn first caps =>
   cases fn with
   | func g =>
    simp only at h ⊢
    cases hl:P.loc g with
    | true=>rw [hl] at h; exact h.elim
    | false =>
     rw [hl] at h
     simp only
     obtain ⟨args',h,b3⟩:=Point.plainL _ _ _ h
     refine b3 _ ?_
     rw [appK_eq] at h; rw [appK_eq] at h
     rw [appK_eq,appK_eq]
     cases hpk:P.pk g with
     | true =>
      rw [hpk] at h
      simp only at h ⊢
      obtain ⟨all,h,b4⟩:=(peekK_form 60).2 _ _ _ h
      exact b4 _ _ (fun _ _ h=>h) (hm.mono _ _ _ _ (fun r hr=>⟨hr.1,plain_adopt (K:=fun r' sg'=>K r' { st with seg:=sg' } x) hr.2⟩) h)
     | false =>
      rw [hpk] at h
      simp only at h ⊢
      exact (outSK_outK 60).2 _ _ _ _ (fun _ _ h=>hm.mono _ _ _ _ (fun r hr=>plain_adopt (K:=fun r' sg'=>K r' { st with seg:=sg' } x) hr) h) h
   | _=>exact h.elim
  | _=>exact h.elim
 | _=>rw [hc] at h; exact h.elim
end Go.Ab
namespace Go.Ab
open Go
variable {S:Sig} [Cod S] {X:Type} {P:Par S X} {ops:Array Oper} {o q:Oper} {st:St S} {x:X} {K:St S→X→Prop}
omit [Cod S] in
theorem Alike.put {d:Nat} {sg sg':List (Nat×AO S)} (h:Alike d sg sg') (n:Nat) (a:AO S):Alike d (putA sg n a) (putA sg' n a):=by
 intro k hk
 rw [lookA_putA,lookA_putA]
 by_cases e:n=k
 ·simp [e]
 simp [e,h k hk]
omit [Cod S] in
theorem Alike.puts {d:Nat} {l:List (Nat×AO S)}:∀ {sg sg':List (Nat×AO S)},Alike d sg sg'→Alike d (putsA sg l) (putsA sg' l):=by
 induction l with
 | nil=>exact fun h=>h
 | cons p l ih=>exact fun h=>ih (h.put _ _)
omit [Cod S] in
theorem Alike.none {d:Nat} {sg sg':List (Nat×AO S)} (h:Alike d sg sg') {k:Nat} (hk:k % 1000=d % 1000) (hn:lookA sg k=none):lookA sg' k=none:=by
 have:=h k hk
 rw [hn] at this
 simpa using this
omit [Cod S] in
theorem Alike.some {d:Nat} {sg sg':List (Nat×AO S)} (h:Alike d sg sg') {k:Nat} (hk:k % 1000=d % 1000) {ao:AO S} (hn:lookA sg k=some ao):∃ ao',lookA sg' k=some ao':=by
 have:=h k hk
 rw [hn] at this
 exact Option.isSome_iff_exists.1 this
omit [Cod S] in
theorem tokK_form {d:Nat}:∀ (zs:List (AV S)) (id:Nat) (cs:List (AV S)) (sg:List (Nat×AO S)) (K:List (AV S)→List (Nat×AO S)→Prop),id % 1000=d % 1000→tokK id zs cs sg K →
  ∃ cs' l,NewIn d sg l∧K cs' (putsA sg l)∧∀ sg' (K':List (AV S)→List (Nat×AO S)→Prop),Alike d sg sg'→(tokK id zs cs sg' K'↔K' cs' (putsA sg' l)):=by
 intro zs
 induction zs with
 | nil =>
  intro id cs sg K hid h
  have e:∀ sg (K:List (AV S)→List (Nat×AO S)→Prop),tokK id [] cs sg K=K cs sg:=fun sg K=>by cases cs <;> rfl
  rw [e] at h
  exact ⟨cs,[],fun p hp=>by simp at hp,h,fun sg' K' _=>by rw [e]; exact Iff.rfl⟩
 | cons z zs ih =>
  intro id cs sg K hid h
  have hid':(id+1000) % 1000=d % 1000:=by omega
  cases cs with
  | nil=>exact ⟨[],[],fun p hp=>by simp at hp,h,fun sg' K' _=>Iff.rfl⟩
  | cons c cs =>
   by_cases hc:c=.nils
   ·subst hc
    cases z with
    | sl u xs oo =>
     simp only [tokK] at h ⊢
     rw [findK_eq] at h
     cases hl:lookA sg id with
     | none =>
      rw [hl] at h
      simp only [putK_eq] at h
      obtain ⟨cs',l,h1,h2,h3⟩:=ih (id+1000) cs _ _ hid' h
      refine ⟨_,(id,.row u true) :: l,fun p hp=>?_,h2,fun sg' K' ha=>?_⟩
      ·rcases List.mem_cons.1 hp with rfl | hp
       ·exact ⟨hl,hid⟩
       obtain ⟨h4,h5⟩:=h1 p hp
       rw [lookA_putA] at h4
       by_cases e:id=p.1
       ·rw [if_pos e] at h4; cases h4
       rw [if_neg e] at h4; exact ⟨h4,h5⟩
      rw [findK_eq,ha.none hid hl]
      simp only [putK_eq]
      exact h3 _ (fun l sg''=>K' (.sl u [] (some id) :: l) sg'') (ha.put _ _)
     | some ao =>
      rw [hl] at h
      obtain ⟨cs',l,h1,h2,h3⟩:=ih (id+1000) cs _ _ hid' h
      refine ⟨_,l,h1,h2,fun sg' K' ha=>?_⟩
      obtain ⟨ao',hl'⟩:=ha.some hid hl
      rw [findK_eq,hl']
      exact h3 _ (fun l sg''=>K' (.sl u [] none :: l) sg'') ha
    | _=>exact h.elim
   have e:∀ sg (K:List (AV S)→List (Nat×AO S)→Prop),tokK id (z :: zs) (c :: cs) sg K=tokK (id+1000) zs cs sg fun l sg'=>K (c :: l) sg':=fun sg K=>by
    cases c <;> first | rfl | exact absurd rfl hc
   rw [e] at h
   obtain ⟨cs',l,h1,h2,h3⟩:=ih (id+1000) cs _ _ hid' h
   exact ⟨_,l,h1,h2,fun sg' K' ha=>by rw [e]; exact h3 _ (fun l sg'=>K' (c :: l) sg') ha⟩
omit [Cod S] in
theorem NewIn.snoc {d:Nat} {sg l:List (Nat×AO S)} (h:NewIn d sg l) (hd:lookA (putsA sg l) d=none) (a:AO S):NewIn d sg (l++[(d,a)]):=by
 intro p hp
 rcases List.mem_append.1 hp with hp | hp
 ·exact h p hp
 obtain rfl:=List.mem_singleton.1 hp
 refine ⟨?_,rfl⟩
 cases hl:lookA sg d with
 | none=>rfl
 | some ao=>rw [h.sub _ _ hl] at hd; cases hd
theorem alloc_form {d:Nat} {ts:List (AV S)} {sg:List (Nat×AO S)} {K:AV S→List (Nat×AO S)→Prop} (ha:allocB o=true) (h:opL P o d ts sg K) :
  ∃ l,NewIn d sg l∧∀ ts' sg' (K':AV S→List (Nat×AO S)→Prop),Alike d sg sg'→(opL P o d ts' sg' K'↔K' (.own d []) (putsA sg' l)):=by
 unfold allocB at ha
 unfold opL at h ⊢
 cases ho:o.op <;> rw [ho] at h ha <;> try cases ha
 rename_i t
 simp only at h ⊢
 have hty:∀ (F:TyI S→Prop),tyK P t F=match lookA P.ti t with | none=>False | some ty=>F ty:=fun F=>by unfold tyK; rw [findK_eq]; cases lookA P.ti t <;> rfl
 rw [hty] at h
 simp only [hty]
 cases hl:lookA P.ti t with
 | none=>rw [hl] at h; exact h.elim
 | some ty =>
  rw [hl] at h
  simp only [nilsK_map] at h ⊢
  obtain ⟨cs',l,h1,h2,h3⟩:=tokK_form (d:=d) _ _ _ _ _ (by omega) h
  rw [findK_eq] at h2
  cases hd:lookA (putsA sg l) d with
  | some ao=>rw [hd] at h2; exact h2.elim
  | none =>
   refine ⟨l++[(d,.cells cs')],h1.snoc hd _,fun ts' sg' K' hal=>?_⟩
   rw [h3 sg' _ hal,findK_eq,hal.puts.none rfl hd]
   simp only [putK_eq,putsA_append]
   exact Iff.rfl
theorem Point.elems (u:S.U):∀ l:List (AV S),Point (elemsK u l)
 | []=>fun K h=>by simp only [elemsK] at h ⊢; exact ⟨_,h,fun K' hK=>hK⟩
 | v :: l=>fun K h=>by
  have hr:(cellsK v fun vs=>optK (Cod.dec u vs) fun x=>elemsK u l fun l=>K (x :: l))→∃ r,K r∧∀ K':List (S.T u)→Prop,K' r→cellsK v fun vs=>optK (Cod.dec u vs) fun x=>elemsK u l fun l=>K' (x :: l):=fun h=>by
   obtain ⟨vs,h,b1⟩:=Point.cells _ _ h
   obtain ⟨x,h,b2⟩:=Point.opt _ _ h
   obtain ⟨r,h,b3⟩:=Point.elems u l _ h
   exact ⟨_,h,fun K' hK=>b1 _ (b2 _ (b3 _ hK))⟩
  cases v with
  | arr u n xs=>exact h.elim
  | _=>exact hr h
theorem Point.more (u:S.U) (y:AV S):Point (moreK u y):=fun K h=>by
 cases y with
 | sl v ys oo=>exact Point.cast _ _ h
 | nils=>exact ⟨_,h,fun K' hK=>hK⟩
 | _=>exact h.elim
def Det {α:Type} (F:(α→Prop)→Prop):Prop:=∀ K,F K→∃ v,∀ K':α→Prop,F K'↔K' v
theorem Det.bind {α β:Type} {F:(α→Prop)→Prop} {G:α→(β→Prop)→Prop} (hF:Det F) (hG:∀ v,Det (G v)):Det fun K=>F fun v=>G v K:=fun K h=>by
 obtain ⟨v,h1⟩:=hF _ h
 obtain ⟨u,h2⟩:=hG v K ((h1 _).1 h)
 exact ⟨u,fun K'=>(h1 _).trans (h2 K')⟩
theorem Det.ret {α:Type} (v:α):Det fun K:α→Prop=>K v:=fun _ _=>⟨v,fun _=>Iff.rfl⟩
theorem Det.opt {α:Type} (o:Option α):Det (optK o):=fun _ ⟨a,h1,_⟩=>⟨a,fun K'=>⟨fun ⟨b,h2,h3⟩=>by rw [h1] at h2; cases h2; exact h3,fun h=>⟨a,h1,h⟩⟩⟩
omit [Cod S] in
theorem Det.ev (tmps:List (AV S)) (y:Operand):Det (evK tmps y):=fun K h=>by
 cases y with
 | tmp t=>exact ⟨_,fun K'=>by show nthK tmps t K'↔_; rw [nthK_eq]⟩
 | const v =>
  have h:constK v K:=h
  show ∃ u,∀ K',constK v K'↔K' u
  unfold constK at h ⊢
  split at h <;> first
   | exact h.elim
   | exact ⟨_,fun K'=>Iff.rfl⟩
 | func f=>exact ⟨_,fun K'=>Iff.rfl⟩
 | global g=>exact h.elim
theorem Det.map {α β:Type} {f:α→(β→Prop)→Prop} (hf:∀ a,Det (f a)):∀ l:List α,Det (mapK f l)
 | []=>Det.ret _
 | a :: l=>Det.bind (F:=f a) (G:=fun b K=>mapK f l fun l'=>K (b :: l')) (hf a) fun b=>Det.bind (F:=mapK f l) (G:=fun l' K=>K (b :: l')) (Det.map hf l) fun l'=>Det.ret (b :: l')
omit [Cod S] in
theorem Det.cells (v:AV S):Det (cellsK v):=fun K h=>by
 cases v with
 | agg cs =>
  simp only [cellsK] at h ⊢
  cases hb:cs.all cellOk with
  | true=>exact ⟨_,fun K'=>Iff.rfl⟩
  | false=>rw [hb] at h; exact h.elim
 | _=>first | exact False.elim h | exact ⟨_,fun K'=>Iff.rfl⟩
theorem Det.elems (u:S.U):∀ l:List (AV S),Det (elemsK u l)
 | []=>fun K h=>by simp only [elemsK] at h ⊢; exact ⟨_,fun K'=>Iff.rfl⟩
 | v :: l=>fun K h=>by
  have hr:(cellsK v fun vs=>optK (Cod.dec u vs) fun x=>elemsK u l fun l=>K (x :: l))→∃ r,∀ K':List (S.T u)→Prop,(cellsK v fun vs=>optK (Cod.dec u vs) fun x=>elemsK u l fun l=>K' (x :: l))↔K' r :=
   Det.bind (F:=cellsK v) (G:=fun vs K=>optK (Cod.dec u vs) fun x=>elemsK u l fun l=>K (x :: l)) (Det.cells v) (fun vs=>Det.bind (F:=optK (Cod.dec u vs)) (G:=fun x K=>elemsK u l fun l=>K (x :: l)) (Det.opt _) fun x =>
    Det.bind (F:=elemsK u l) (G:=fun l K=>K (x :: l)) (Det.elems u l) fun l=>Det.ret (x :: l)) K
  cases v with
  | arr u n xs=>exact h.elim
  | _=>exact hr h
theorem build_form {d:Nat} {ts:List (AV S)} {sg:List (Nat×AO S)} {K:AV S→List (Nat×AO S)→Prop} (ha:bldB o=true) (h:opL P o d ts sg K) :
  ∃ v l,NewIn d sg l∧∀ ts' sg' (K':AV S→List (Nat×AO S)→Prop),Same (o.looksAt ops) ts ts'→Alike d sg sg'→(opL P o d ts' sg' K'↔K' v (putsA sg' l)):=by
 have hone:∀ {a:AO S},lookA sg d=none→NewIn d sg [(d,a)]:=fun hd p hp=>by obtain rfl:=List.mem_singleton.1 hp; exact ⟨hd,rfl⟩
 unfold bldB at ha
 unfold opL at h ⊢
 cases ho:o.op <;> rw [ho] at h ha <;> try cases ha
 rename_i t len ps
 simp only at h ⊢
 cases hps:ps.toList with
 | nil=>rw [hps] at h; exact h.elim
 | cons p0 ps0 =>
  rw [hps] at h
  simp only at h ⊢
  rw [findK_eq] at h
  cases hd:lookA sg d with
  | some ao=>rw [hd] at h; exact h.elim
  | none =>
   rw [hd] at h
   simp only at h
   have hty:∀ (F:TyI S→Prop),tyK P t F=match lookA P.ti t with | none=>False | some ty=>F ty:=fun F=>by unfold tyK; rw [findK_eq]; cases lookA P.ti t <;> rfl
   rw [hty] at h
   cases hl:lookA P.ti t with
   | none=>rw [hl] at h; exact h.elim
   | some ty =>
    rw [hl] at h
    simp only at h
    cases hk:ty.kind with
    | slice u b e =>
     rw [hk] at h
     obtain ⟨vs,b2⟩:=Det.map (fun a=>Det.ev ts a) _ _ h
     have h:=(b2 _).1 h
     cases hb:idB.idLB 60 vs&&seqB 0 (p0 :: ps0) with
     | false=>rw [hb] at h; exact h.elim
     | true =>
      rw [hb] at h
      obtain ⟨xs,b3⟩:=Det.elems _ _ _ h
      have h:=(b3 _).1 h
      cases hb2:Nat.beq len ps.size&&Nat.ble (len * Cod.size u) 16777216 with
      | false=>rw [hb2] at h; exact h.elim
      | true =>
       refine ⟨.sl u xs (some d),_,hone (a:=.row u (zeroB len)) hd,fun ts' sg' K' hs hal=>?_⟩
       rw [findK_eq,hal.none rfl hd]
       simp only [hty,hl,hk]
       have hE:∀ K,evLK ts' ((p0 :: ps0).map fun p=>p.2) K=evLK ts ((p0 :: ps0).map fun p=>p.2) K:=fun K=>evLK_same hs (fun y hy t e=>looksAt_op (by
        rw [ho]; simp only [Op.operands,hps]; simpa using hy) t e) K
       rw [hE]
       refine (b2 _).trans ?_
       simp only [hb]
       refine (b3 _).trans ?_
       simp only [hb2,putK_eq]
       exact Iff.rfl
    | _=>rw [hk] at h; exact h.elim
theorem opL_form {d:Nat} {ts:List (AV S)} {sg:List (Nat×AO S)} {K:AV S→List (Nat×AO S)→Prop} (h:opL P o d ts sg K) :
  ∃ v l,NewIn d sg l∧K v (putsA sg l)∧∀ ts' sg' (K':AV S→List (Nat×AO S)→Prop),Same (o.looksAt ops) ts ts'→Alike d sg sg'→K' v (putsA sg' l)→opL P o d ts' sg' K':=by
 by_cases ha:allocB o=true
 ·obtain ⟨l,h1,h2⟩:=alloc_form ha h
  exact ⟨_,l,h1,(h2 ts sg K fun k _=>rfl).1 h,fun ts' sg' K' _ hal hK=>(h2 ts' sg' K' hal).2 hK⟩
 have hone:∀ {a:AO S},lookA sg d=none→NewIn d sg [(d,a)]:=fun hd p hp=>by obtain rfl:=List.mem_singleton.1 hp; exact ⟨hd,rfl⟩
 unfold opL at h ⊢
 cases ho:o.op <;> rw [ho] at h <;> try exact h.elim
 case alloc t=>simp [allocB,ho] at ha
 case makeSlice t y z =>
  simp only at h ⊢
  have he:∀ q∈[y,z],∀ {ts'},Same (o.looksAt ops) ts ts'→∀ K,evK ts' q K=evK ts q K:=fun q hq ts' hs K=>evK_same hs (fun t e=>looksAt_op (by rw [ho]; simp [Op.operands]; simpa using hq) t e) K
  obtain ⟨ty,h,b1⟩:=Point.ty _ _ h
  obtain ⟨nv,h,b2⟩:=Point.ev _ _ _ h
  obtain ⟨mv,h,b3⟩:=Point.ev _ _ _ h
  cases hk:ty.kind with
  | slice u b e =>
   rw [hk] at h
   cases nv with
   | int k1 a =>
    cases mv with
    | int k2 c =>
     obtain ⟨hr,h⟩:=h
     obtain ⟨x,h,b4⟩:=Point.opt _ _ h
     rw [findK_eq] at h
     cases hd:lookA sg d with
     | some ao=>rw [hd] at h; exact h.elim
     | none =>
      rw [hd] at h
      simp only [putK_eq] at h
      refine ⟨_,_,hone hd,h,fun ts' sg' K' hs hal hK=>?_⟩
      simp only [he y (by simp) hs,he z (by simp) hs]
      refine b1 _ (b2 _ (b3 _ ?_))
      simp only [hk]
      refine ⟨hr,b4 _ ?_⟩
      rw [findK_eq,hal.none rfl hd]
      simp only [putK_eq]
      exact hK
    | _=>exact h.elim
   | _=>exact h.elim
  | _=>rw [hk] at h; exact h.elim
 case lookup t y z ok =>
  simp only at h ⊢
  have he:∀ q∈[y,z],∀ {ts'},Same (o.looksAt ops) ts ts'→∀ K,evK ts' q K=evK ts q K:=fun q hq ts' hs K=>evK_same hs (fun t e=>looksAt_op (by rw [ho]; simp [Op.operands]; simpa using hq) t e) K
  obtain ⟨m,h,b1⟩:=Point.find _ _ _ h
  obtain ⟨ty,h,b2⟩:=Point.ty _ _ h
  obtain ⟨mv,h,b3⟩:=Point.ev _ _ _ h
  obtain ⟨iv,h,b4⟩:=Point.ev _ _ _ h
  cases mv with
  | mpf ks vs =>
   obtain ⟨r,h,b5⟩:=Point.opt _ _ h
   obtain ⟨z0,h,b6⟩:=Point.one _ _ h
   have hgo:∃ v,K v sg∧∀ sg' (K':AV S→List (Nat×AO S)→Prop),K' v sg'→oneK ty.zero fun z=>match (generalizing:=false) ok with
     | true=>K' (.tup [lkv r z,.bool r.isSome]) sg'
     | false=>K' (lkv r z) sg':=by
    cases ok
    ·exact ⟨_,h,fun sg' K' hK=>b6 (fun z=>K' (lkv r z) sg') hK⟩
    exact ⟨_,h,fun sg' K' hK=>b6 (fun z=>K' (.tup [lkv r z,.bool r.isSome]) sg') hK⟩
   obtain ⟨v,hK,hb⟩:=hgo
   refine ⟨v,[],fun p hp=>(by cases hp),hK,fun ts' sg' K' hs hal hK'=>?_⟩
   simp only [he y (by simp) hs,he z (by simp) hs]
   exact b1 _ (b2 _ (b3 _ (b4 _ (b5 _ (hb sg' K' hK')))))
  | _=>exact h.elim
 case buildSlice t len ps =>
  simp only at h ⊢
  cases hps:ps.toList with
  | nil=>rw [hps] at h; exact h.elim
  | cons p0 ps0 =>
   rw [hps] at h
   simp only at h ⊢
   rw [findK_eq] at h
   cases hd:lookA sg d with
   | some ao=>rw [hd] at h; exact h.elim
   | none =>
    rw [hd] at h
    simp only at h
    obtain ⟨ty,h,b1⟩:=Point.ty _ _ h
    cases hk:ty.kind with
    | slice u b e =>
     rw [hk] at h
     obtain ⟨vs,h,b2⟩:=Point.map (fun a=>Point.ev ts a) _ _ h
     cases hb:idB.idLB 60 vs&&seqB 0 (p0 :: ps0) with
     | false=>rw [hb] at h; exact h.elim
     | true =>
      rw [hb] at h
      obtain ⟨xs,h,b3⟩:=Point.elems _ _ _ h
      cases hb2:Nat.beq len ps.size&&Nat.ble (len * Cod.size u) 16777216 with
      | false=>rw [hb2] at h; exact h.elim
      | true =>
       rw [hb2] at h
       simp only [putK_eq] at h
       refine ⟨_,_,hone hd,h,fun ts' sg' K' hs hal hK=>?_⟩
       rw [findK_eq,hal.none rfl hd]
       refine b1 _ ?_
       simp only [hk]
       have hE:∀ K,evLK ts' ((p0 :: ps0).map fun p=>p.2) K=evLK ts ((p0 :: ps0).map fun p=>p.2) K:=fun K=>evLK_same hs (fun y hy t e=>looksAt_op (by
        rw [ho]; simp only [Op.operands,hps]; simpa using hy) t e) K
       rw [hE]
       refine b2 _ ?_
       simp only [hb]
       refine b3 _ ?_
       simp only [hb2,putK_eq]
       exact hK
    | _=>rw [hk] at h; exact h.elim
 case call c =>
  simp only at h ⊢
  cases hc:c.callee with
  | builtin b =>
   rw [hc] at h
   cases b <;> try exact h.elim
   case append =>
    simp only at h ⊢
    split at h
    ·rename_i t t' tl y z ht hargs
     have he:∀ y'∈c.args.toList,∀ {ts'},Same (o.looksAt ops) ts ts'→∀ K,evK ts' y' K=evK ts y' K:=fun y' hy' ts' hs K=>evK_same hs (fun t e=>looksAt_op (by rw [ho]; simp [Op.operands,Call.operands,hc]; simpa using hy') t e) K
     rw [hargs] at he
     obtain ⟨s,h,b1⟩:=Point.ev _ _ _ h
     obtain ⟨v,h,b2⟩:=Point.ev _ _ _ h
     obtain ⟨ty,h,b3⟩:=Point.ty _ _ h
     obtain ⟨ty',h,b4⟩:=Point.ty _ _ h
     split at h
     ·rename_i hk hk' _ _ _
      obtain ⟨ys,h,b5⟩:=Point.more _ _ _ h
      obtain ⟨hle,h⟩:=h
      rw [findK_eq] at h
      cases hd:lookA sg d with
      | some ao=>rw [hd] at h; exact h.elim
      | none =>
       rw [hd] at h
       simp only [putK_eq] at h
       refine ⟨_,_,hone hd,h,fun ts' sg' K' hs hal hK=>?_⟩
       simp only [he y (by simp) hs,he z (by simp) hs]
       refine b1 _ (b2 _ (b3 _ (b4 _ ?_)))
       simp only [hk,hk']
       refine b5 _ ⟨hle,?_⟩
       rw [findK_eq,hal.none rfl hd]
       simp only [putK_eq]
       exact hK
     exact h.elim
    exact h.elim
  | value f=>rw [hc] at h; exact h.elim
  | _=>rw [hc] at h; exact h.elim
end Go.Ab
namespace Go.Ab
open Go
variable {S:Sig} [Cod S] {X:Type} {P:Par S X} {ops:Array Oper} {o q:Oper} {st:St S} {x:X} {K:St S→X→Prop} {es:List Nat} {k:Nat}
def stepD (P:Par S X) (ops:Array Oper) (es:List Nat) (k:Nat) (o:Oper) (st:St S) (x:X) (K:St S→X→Prop):Prop :=
 guardG ops o (fun st K=>runD P es k o st x fun v st' x'=>K (putSt st' o.dst v) x') st x K
theorem id_out:∀ (n:Nat),(∀ (v:AV S) (sg:List (Nat×AO S)) (K:AV S→List (Nat×AO S)→Prop),idB n v=true→K v sg→outK n v sg K) ∧
  (∀ (vs:List (AV S)) (sg:List (Nat×AO S)) (K:List (AV S)→List (Nat×AO S)→Prop),idB.idLB n vs=true→K vs sg→outK.outLK n vs sg K)
 | 0=>⟨fun v sg K h=>by simp [idB] at h,fun l sg K h hK=>by
   cases l with
   | nil=>simp only [outK.outLK]; exact hK
   | cons v l=>simp [idB.idLB] at h⟩
 | n+1=>by
  obtain ⟨ih1,ih2⟩:=id_out n
  refine ⟨fun v sg K h hK=>?_,fun l sg K h hK=>?_⟩
  ·cases v with
   | own d p=>simp [idB] at h
   | sl u xs oo =>
    cases oo with
    | none=>simp only [outK]; exact hK
    | some d=>simp [idB] at h
   | agg cs=>simp only [idB,outK] at h ⊢; exact ih2 _ _ _ h hK
   | tup cs=>simp only [idB,outK] at h ⊢; exact ih2 _ _ _ h hK
   | clo fn f c =>
    simp only [idB,outK,Bool.and_eq_true] at h ⊢
    exact ih2 _ _ _ h.1 (ih2 _ _ _ h.2 hK)
   | up d p=>simp [idB] at h
   | undef=>simp [idB] at h
   | cb=>simp [idB] at h
   | mpv d=>simp [idB] at h
   | mpu d=>simp [idB] at h
   | elp u d i p=>simp [idB] at h
   | _=>simp only [outK]; exact hK
  cases l with
  | nil=>simp only [outK.outLK]; exact hK
  | cons v l =>
   simp only [idB.idLB,outK.outLK,Bool.and_eq_true] at h ⊢
   exact ih1 _ _ _ h.1 (ih2 _ _ _ h.2 hK)
omit [Cod S] in
theorem tokK_nonil:∀ (zs:List (AV S)) (id:Nat) (cs:List (AV S)) (sg:List (Nat×AO S)) (K:List (AV S)→List (Nat×AO S)→Prop),cs.all nonilB=true→K cs sg→tokK id zs cs sg K
 | [],id,cs,sg,K,_,h=>by simp only [tokK]; exact h
 | z :: zs,id,[],sg,K,_,h=>by simp only [tokK]; exact h
 | z :: zs,id,c :: cs,sg,K,hn,h=>by
  simp only [List.all_cons,Bool.and_eq_true] at hn
  have e:tokK id (z :: zs) (c :: cs) sg K=tokK (id+1000) zs cs sg fun l sg'=>K (c :: l) sg':=by
   cases c <;> first | rfl | exact absurd hn.1 (by simp [nonilB])
  rw [e]
  exact tokK_nonil zs _ cs sg _ hn.2 h
theorem Point.write:∀ (p:List Stp) (cs vs:List (AV S)),Point (writeK cs p vs)
 | [],cs,vs=>by
  have:writeK cs [] vs=fun K=>dropK cs ((vs.map width).sum) fun rest=>K (vs++rest):=by
   funext K; simp only [writeK,overK]; congr 1; funext rest; rw [appK_eq]
  rw [this]; exact Point.bind (Point.drop _ _) fun _=>Point.ret _
 | .off k :: p,cs,vs=>by
  have:writeK cs (.off k :: p) vs=fun K=>splitK 1000 cs k fun a b=>writeK b p vs fun b'=>K (a++b'):=by
   funext K; simp only [writeK,appK_eq]
  rw [this]
  intro K h
  obtain ⟨q,h,b1⟩:=Point.split 1000 cs k (fun q=>writeK q.2 p vs fun b'=>K (q.1++b')) h
  obtain ⟨b',h,b2⟩:=Point.write p q.2 vs _ h
  exact ⟨_,h,fun K' hK=>b1 (fun q=>writeK q.2 p vs fun b'=>K' (q.1++b')) (b2 _ hK)⟩
 | .idx i es :: p,cs,vs=>by
  cases cs with
  | nil=>intro K h; simp [writeK] at h
  | cons c cs =>
   cases c with
   | arr u n xs =>
    intro K h
    simp only [writeK] at h ⊢
    cases hb:Nat.beq es (Cod.size u) with
    | true =>
     rw [hb] at h
     obtain ⟨x,hx,h⟩:=h
     obtain ⟨cs',h,b2⟩:=Point.write p (Cod.enc u x) vs _ h
     obtain ⟨x',hx',h⟩:=h
     exact ⟨_,h,fun K' hK=>⟨x,hx,b2 _ ⟨x',hx',hK⟩⟩⟩
    | false=>rw [hb] at h; exact h.elim
   | _=>intro K h; simp [writeK] at h
theorem opS_opW {K:AV S→St S→X→Prop} (h:opS P o st x K):opW P o st x K:=by
 unfold opS at h
 unfold opW
 cases ho:o.op <;> rw [ho] at h <;> try exact h.elim
 rename_i t p y
 simp only at h ⊢
 obtain ⟨ty,h,b1⟩:=Point.ty _ _ h
 obtain ⟨pv,h,b2⟩:=Point.ev _ _ _ h
 obtain ⟨v,h,b3⟩:=Point.ev _ _ _ h
 obtain ⟨vs,h,b4⟩:=Point.cells _ _ h
 refine b1 _ (b2 _ (b3 _ ?_))
 unfold storeK
 refine b4 _ ?_
 cases hb:Nat.beq ((vs.map width).sum) ty.size&&vs.all nonilB with
 | false=>rw [hb] at h; exact h.elim
 | true =>
  rw [hb] at h
  simp only [Bool.and_eq_true] at hb
  rw [hb.1]
  cases pv with
  | own d q =>
   simp only at h ⊢
   rw [findK_eq] at h ⊢
   cases hl:lookA st.seg d with
   | none=>rw [hl] at h; exact h.elim
   | some ao =>
    rw [hl] at h
    cases ao with
    | cells cs =>
     simp only at h ⊢
     obtain ⟨cs',h,b5⟩:=Point.write _ _ _ _ h
     rw [putK_eq] at h
     obtain ⟨hsg,h⟩:=h
     have hK:putK st.seg d (.cells cs') fun sg'=>K .skip { st with seg:=sg' } x:=by
      rw [putK_eq,hsg]; exact h
     match q,b5 with
     | [],b5=>exact tokK_nonil _ _ _ _ _ hb.2 (b5 _ hK)
     | [.off k],b5 =>
      simp only [findK_eq]
      cases hk:lookA st.seg (d+1000 * (k+1)) with
      | none=>exact tokK_nonil _ _ _ _ _ hb.2 (b5 _ hK)
      | some ao=>exact tokK_nonil _ _ _ _ _ hb.2 (b5 _ hK)
     | [.idx i es],b5=>exact b5 _ hK
     | .off k :: s :: r,b5=>exact b5 _ hK
     | .idx i es :: s :: r,b5=>exact b5 _ hK
    | _=>exact h.elim
  | _=>exact h.elim
theorem opT_opW {K:AV S→St S→X→Prop} (h:opT P o st x K):opW P o st x K:=by
 unfold opT at h
 unfold opW
 cases ho:o.op <;> rw [ho] at h <;> try exact h.elim
 rename_i t p y
 simp only at h ⊢
 obtain ⟨ty,h,b1⟩:=Point.ty _ _ h
 obtain ⟨pv,h,b2⟩:=Point.ev _ _ _ h
 obtain ⟨v,h,b3⟩:=Point.ev _ _ _ h
 obtain ⟨vs,h,b4⟩:=Point.cells _ _ h
 refine b1 _ (b2 _ (b3 _ ?_))
 unfold storeK
 refine b4 _ ?_
 cases hb:Nat.beq ((vs.map width).sum) ty.size&&vs.all nonilB with
 | false=>rw [hb] at h; exact h.elim
 | true =>
  rw [hb] at h
  simp only [Bool.and_eq_true] at hb
  rw [hb.1]
  cases pv with
  | own d q =>
   simp only at h ⊢
   rw [findK_eq] at h ⊢
   cases hl:lookA st.seg d with
   | none=>rw [hl] at h; exact h.elim
   | some ao =>
    rw [hl] at h
    cases ao with
    | cells cs =>
     simp only at h ⊢
     obtain ⟨cs',h,b5⟩:=Point.write _ _ _ _ h
     rw [putK_eq] at h
     have hK:putK st.seg d (.cells cs') fun sg'=>K .skip { st with seg:=sg' } x:=by
      rw [putK_eq]; exact h
     match q,b5 with
     | [],b5=>exact tokK_nonil _ _ _ _ _ hb.2 (b5 _ hK)
     | [.off k],b5 =>
      simp only [findK_eq]
      cases hk:lookA st.seg (d+1000 * (k+1)) with
      | none=>exact tokK_nonil _ _ _ _ _ hb.2 (b5 _ hK)
      | some ao=>exact tokK_nonil _ _ _ _ _ hb.2 (b5 _ hK)
     | [.idx i es],b5=>exact b5 _ hK
     | .off k :: s :: r,b5=>exact b5 _ hK
     | .idx i es :: s :: r,b5=>exact b5 _ hK
    | _=>exact h.elim
  | _=>exact h.elim
theorem opL_opW (h:opL P o (o.dst.getD 0) st.tmps st.seg fun v sg=>K (putSt { st with seg:=sg } o.dst v) x):opW P o st x fun v st' x'=>K (putSt st' o.dst v) x':=by
 unfold opL at h
 unfold opW
 cases ho:o.op <;> rw [ho] at h <;> try exact h.elim
 case alloc t=>exact h
 case makeSlice t y z =>
  simp only at h ⊢
  obtain ⟨ty,h,b1⟩:=Point.ty _ _ h
  obtain ⟨nv,h,b2⟩:=Point.ev _ _ _ h
  obtain ⟨mv,h,b3⟩:=Point.ev _ _ _ h
  refine b1 _ (b2 _ (b3 _ ?_))
  cases hk:ty.kind with
  | slice u b e =>
   rw [hk] at h
   cases nv with
   | int k1 a =>
    cases mv with
    | int k2 c=>exact h
    | _=>exact h.elim
   | _=>exact h.elim
  | _=>rw [hk] at h; exact h.elim
 case lookup t y z ok =>
  simp only at h ⊢
  obtain ⟨m,h,b1⟩:=Point.find _ _ _ h
  obtain ⟨ty,h,b2⟩:=Point.ty _ _ h
  obtain ⟨mv,h,b3⟩:=Point.ev _ _ _ h
  obtain ⟨iv,h,b4⟩:=Point.ev _ _ _ h
  refine b1 _ (b2 _ (b3 _ (b4 _ ?_)))
  cases mv with
  | mpf ks vs=>exact h
  | _=>exact h.elim
 case buildSlice t len ps =>
  simp only at h ⊢
  cases hps:ps.toList with
  | nil=>rw [hps] at h; exact h.elim
  | cons p0 ps0 =>
   rw [hps] at h
   simp only at h ⊢
   rw [findK_eq] at h ⊢
   cases hd:lookA st.seg (o.dst.getD 0) with
   | some ao=>rw [hd] at h; exact h.elim
   | none =>
    rw [hd] at h
    simp only at h ⊢
    obtain ⟨ty,h,b1⟩:=Point.ty _ _ h
    refine b1 _ ?_
    cases hk:ty.kind with
    | slice u b e =>
     rw [hk] at h
     simp only at h ⊢
     obtain ⟨vs,h,b2⟩:=Point.map (fun a=>Point.ev st.tmps a) _ _ h
     refine b2 _ ?_
     cases hb:idB.idLB 60 vs&&seqB 0 (p0 :: ps0) with
     | false=>rw [hb] at h; exact h.elim
     | true =>
      rw [hb] at h
      simp only [Bool.and_eq_true] at hb
      refine (id_out 60).2 _ _ _ hb.1 ?_
      simp only [hb.2]
      exact h
    | _=>rw [hk] at h; exact h.elim
 case call c =>
  simp only at h ⊢
  cases hc:c.callee with
  | builtin b =>
   rw [hc] at h
   cases b <;> try exact h.elim
   case append =>
    simp only at h ⊢
    split at h
    ·rename_i t t' tl y z ht hargs
     obtain ⟨s,h,b1⟩:=Point.ev _ _ _ h
     obtain ⟨v,h,b2⟩:=Point.ev _ _ _ h
     obtain ⟨ty,h,b3⟩:=Point.ty _ _ h
     obtain ⟨ty',h,b4⟩:=Point.ty _ _ h
     split at h
     ·rename_i hk hk' _ _ _
      rw [hargs]
      refine b1 _ (b2 _ ?_)
      simp only [mapK,ht,builtinK]
      refine b3 _ (b4 _ ?_)
      simp only [hk,hk',appendO]
      obtain ⟨ys,h,b6⟩:=Point.more _ _ _ h
      obtain ⟨hle,h⟩:=h
      cases P.ow <;> exact b6 _ ⟨hle,false,h⟩
     exact h.elim
    exact h.elim
  | value f=>rw [hc] at h; exact h.elim
  | _=>rw [hc] at h; exact h.elim
theorem opM_opW (h:opM P es o st x fun v st' x'=>K (putSt st' o.dst v) x'):opW P o st x fun v st' x'=>K (putSt st' o.dst v) x':=by
 unfold opM at h
 unfold opW
 cases ho:o.op <;> rw [ho] at h <;> try exact h.elim
 rename_i c
 simp only at h ⊢
 cases hc:c.callee with
 | builtin b =>
  rw [hc] at h
  cases b <;> try exact h.elim
  case append =>
   simp only at h ⊢
   split at h
   ·rename_i t t' tl y z ht hargs
    obtain ⟨s,h,b1⟩:=Point.ev _ _ _ h
    obtain ⟨v,h,b2⟩:=Point.ev _ _ _ h
    obtain ⟨ty,h,b3⟩:=Point.ty _ _ h
    obtain ⟨ty',h,b4⟩:=Point.ty _ _ h
    split at h
    ·rename_i hk hk'
     rw [hargs]
     refine b1 _ (b2 _ ?_)
     simp only [mapK,ht,builtinK]
     refine b3 _ (b4 _ ?_)
     simp only [hk,hk']
     cases s with
     | sl us xs oo =>
      cases oo with
      | none=>exact h.elim
      | some e =>
       simp only at h
       cases hb:memb es e&&st.seg.all (freeROB es) with
       | false=>rw [hb] at h; exact h.elim
       | true =>
        rw [hb] at h
        simp only [appendK,appendO]
        cases P.ow
        all_goals
         obtain ⟨xs',h,b5⟩:=Point.cast _ _ h
         obtain ⟨ys,h,b6⟩:=Point.more _ _ _ h
         obtain ⟨hle,h⟩:=h
         refine b5 _ (b6 _ ⟨hle,?_⟩)
         rw [findK_eq] at h ⊢
         cases hl:lookA st.seg e with
         | none=>rw [hl] at h; exact h.elim
         | some ao =>
          rw [hl] at h
          cases ao with
          | row u' f =>
           simp only at h ⊢
           cases hu:Cod.ueq u' _ with
           | isFalse hne=>rw [hu] at h; exact h.elim
           | isTrue he =>
            rw [hu] at h
            cases f with
            | true=>exact h.elim
            | false=>exact h
          | cells cs=>exact h.elim
          | frz cs=>exact h.elim
          | mp kvs=>exact h.elim
          | mpz ks us=>exact h.elim
     | _=>exact h.elim
    exact h.elim
   exact h.elim
 | value f=>rw [hc] at h; exact h.elim
 | _=>rw [hc] at h; exact h.elim
theorem opE_opT {K:AV S→St S→X→Prop} (h:opE P es o st x K):opT P o st x K:=by
 unfold opE at h
 unfold opT
 cases ho:o.op <;> rw [ho] at h <;> try exact h.elim
 simp only at h ⊢
 obtain ⟨ty,h,b1⟩:=Point.ty _ _ h
 obtain ⟨pv,h,b2⟩:=Point.ev _ _ _ h
 obtain ⟨v,h,b3⟩:=Point.ev _ _ _ h
 obtain ⟨vs,h,b4⟩:=Point.cells _ _ h
 refine b1 _ (b2 _ (b3 _ (b4 _ ?_)))
 cases hb:Nat.beq ((vs.map width).sum) ty.size&&vs.all nonilB with
 | false=>rw [hb] at h; exact h.elim
 | true =>
  rw [hb] at h
  cases pv with
  | own d q =>
   simp only at h ⊢
   cases hm:memb es d with
   | true=>rw [hm] at h; exact h
   | false=>rw [hm] at h; exact h.elim
  | _=>exact h.elim
theorem runD_A1 {st:St S} {x:X} {K:AV S→St S→X→Prop} (hA:clsA o=true) (h0:k≠0) (h3:k < 3):runD P es k o st x K=match (slotsOf o).all fun t=>freeRB 4 es (st.tmps.getD t .undef)&&awayB es (st.tmps.getD t .undef) with
      | true=>opV P o st.tmps st.seg st.up fun v=>match freeRB 4 es v with
       | true=>K v st x
       | false=>False
      | false=>False:=by
 unfold runD
 rw [hA]
 match k,h0,h3 with
 | 0,h,_=>exact absurd rfl h
 | 1,_,_=>rfl
 | 2,_,_=>rfl
 | k+3,_,h=>exact absurd h (by omega)
theorem stepD_stepW (hm:CallOk P) (h3:¬ (clsA o=true∧3≤k)) (h:stepD P ops es k o st x K):stepW P ops o st x K:=by
 have hrun:∀ st,(runD P es k o st x fun v st' x'=>K (putSt st' o.dst v) x')→opW P o st x fun v st' x'=>K (putSt st' o.dst v) x':=fun st h=>by
  cases hA:clsA o with
  | true =>
   by_cases h0:k=0
   ·subst h0
    unfold runD at h
    rw [hA] at h
    exact opV_opW h
   rw [runD_A1 hA h0 (Nat.lt_of_not_le fun e=>h3 ⟨hA,e⟩)] at h
   cases hb:(slotsOf o).all fun t=>freeRB 4 es (st.tmps.getD t .undef)&&awayB es (st.tmps.getD t .undef) with
   | false=>rw [hb] at h; exact h.elim
   | true =>
    rw [hb] at h
    obtain ⟨v,h,b⟩:=opV_point _ _ _ _ _ h
    cases hv:freeRB 4 es v with
    | false=>rw [hv] at h; exact h.elim
    | true=>rw [hv] at h; exact opV_opW (b _ h)
  | false =>
   unfold runD at h
   rw [hA] at h
   simp only at h
   cases hC:clsC o with
   | false =>
    rw [hC] at h
    cases k with
    | zero=>exact h
    | succ k =>
     cases k with
     | zero =>
      simp only at h
      cases hS:stB o with
      | true=>rw [hS] at h; exact opS_opW (K:=fun v st' x'=>K (putSt st' o.dst v) x') h
      | false=>rw [hS] at h; exact opL_opW h
     | succ k =>
      cases k with
      | zero =>
       simp only at h
       cases hS:stB o with
       | true=>rw [hS] at h; exact opT_opW (K:=fun v st' x'=>K (putSt st' o.dst v) x') h
       | false =>
        rw [hS] at h
        simp only at h
        cases hal:allocB o with
        | true =>
         rw [hal] at h
         obtain ⟨l,_,hf⟩:=alloc_form hal h
         have hv:=(hf st.tmps st.seg _ fun _ _=>rfl).1 h
         refine opL_opW ((hf st.tmps st.seg _ fun _ _=>rfl).2 ?_)
         cases hb:(putsA st.seg l).all (freeROB es) with
         | true=>rw [hb] at hv; exact hv
         | false=>rw [hb] at hv; exact hv.elim
        | false=>rw [hal] at h; exact opM_opW h
      | succ k =>
       simp only at h
       cases hS:stB o with
       | true=>rw [hS] at h; exact opT_opW (K:=fun v st' x'=>K (putSt st' o.dst v) x') (opE_opT h)
       | false=>rw [hS] at h; exact opM_opW h
   | true =>
    rw [hC] at h
    simp only at h
    by_cases e2:k=2
    ·subst e2
     simp only at h
     unfold clsC at hC
     cases ho:o.op <;> rw [ho] at h hC <;> try exact h.elim
     rename_i c
     simp only at h hC
     have h':=callH_callK hm h
     unfold opW
     rw [ho]
     simp only
     cases hc:c.callee with
     | value f=>exact h'
     | _=>rw [hc] at hC; cases hC
    by_cases e0:k=0
    case neg =>
     match k,e0,e2,h with
     | 1,_,_,h=>exact h
     | k+3,_,_,h=>exact h
    subst e0
    simp only at h
    unfold clsC at hC
    cases ho:o.op <;> rw [ho] at h hC <;> try exact h.elim
    rename_i c
    simp only at h hC
    have:=callD_callK hm h
    unfold opW
    rw [ho]
    simp only
    cases hc:c.callee with
    | value f=>exact this
    | _=>rw [hc] at hC; cases hC
 unfold stepD guardG at h
 unfold stepW guardG
 cases hg:o.guard with
 | none=>rw [hg] at h; exact hrun _ h
 | some p =>
  obtain ⟨j,want⟩:=p
  rw [hg] at h
  simp only at h ⊢
  cases hj:ops[j]? with
  | none=>rw [hj] at h; exact h.elim
  | some oj =>
   rw [hj] at h
   simp only at h ⊢
   cases hd:oj.dst with
   | none=>rw [hd] at h; exact h.elim
   | some dj =>
    rw [hd] at h
    simp only at h ⊢
    cases hv:st.tmps.getD dj .undef with
    | bool b =>
     rw [hv] at h
     simp only at h ⊢
     by_cases hb:b=want
     ·rw [if_pos hb] at h ⊢; exact hrun _ h
     rw [if_neg hb] at h ⊢; exact h
    | skip=>rw [hv] at h; exact h
    | _=>rw [hv] at h; exact h.elim
def letF:Nat→List Nat→AV S→AV S
 | 0,ds,v=>match v with
  | .sl u xs (some d)=>if memb ds d then .sl u xs none else .sl u xs (some d)
  | .elp u d i p=>if memb ds d then .undef else .elp u d i p
  | .agg _=>.undef
  | .tup _=>.undef
  | v=>v
 | n+1,ds,v=>match v with
  | .sl u xs (some d)=>if memb ds d then .sl u xs none else .sl u xs (some d)
  | .elp u d i p=>if memb ds d then .undef else .elp u d i p
  | .agg cs=>.agg (cs.map (letF n ds))
  | .tup cs=>.tup (cs.map (letF n ds))
  | v=>v
omit [Cod S] in
theorem letK_eq:∀ (n:Nat) (ds:List Nat) (v:AV S) (K:AV S→Prop),letK n ds v K=K (letF n ds v):=by
 intro n
 have hmap:∀ (m:Nat) (ds:List Nat),(∀ (v:AV S) (K:AV S→Prop),letK m ds v K=K (letF m ds v))→∀ (cs:List (AV S)) (K:List (AV S)→Prop),mapK (letK m ds) cs K=K (cs.map (letF m ds)):=fun m ds ih cs=>by
  induction cs with
  | nil=>intro K; rfl
  | cons c cs ihc=>intro K; simp only [mapK,ih,ihc,List.map_cons]
 induction n with
 | zero =>
  intro ds v K
  cases v with
  | sl u xs oo =>
   cases oo with
   | none=>rfl
   | some d=>simp only [letK,letF]; cases memb ds d <;> simp
  | elp u d i p=>simp only [letK,letF]; cases memb ds d <;> simp
  | _=>rfl
 | succ n ih =>
  intro ds v K
  cases v with
  | sl u xs oo =>
   cases oo with
   | none=>rfl
   | some d=>simp only [letK,letF]; cases memb ds d <;> simp
  | elp u d i p=>simp only [letK,letF]; cases memb ds d <;> simp
  | agg cs=>simp only [letK,letF]; exact hmap n ds (ih ds) cs _
  | tup cs=>simp only [letK,letF]; exact hmap n ds (ih ds) cs _
  | _=>rfl
omit [Cod S] in
theorem letF_free:∀ (n:Nat) {es:List Nat} {e:Nat} (v:AV S),memb es e=true→freeRB n es v=true→letF n [e] v=v:=by
 intro n
 induction n with
 | zero=>intro es e v he h; cases v <;> first | rfl | (simp [freeRB] at h; done)
 | succ n ih =>
  intro es e v he h
  have hm:∀ cs:List (AV S),cs.all (freeRB n es)=true→cs.map (letF n [e])=cs:=fun cs h=>by
   induction cs with
   | nil=>rfl
   | cons c cs ihc =>
    simp only [List.all_cons,Bool.and_eq_true] at h
    simp only [List.map_cons,ih c he h.1,ihc h.2]
  cases v with
  | sl u xs oo =>
   cases oo with
   | none=>rfl
   | some d =>
    simp only [freeRB,Bool.not_eq_true'] at h
    have:memb [e] d=false:=by
     cases hb:memb [e] d with
     | false=>rfl
     | true =>
      obtain rfl:d=e:=memb_one hb
      rw [he] at h; cases h
    simp [letF,this]
  | elp u d i p =>
   simp only [freeRB,Bool.not_eq_true'] at h
   have:memb [e] d=false:=by
    cases hb:memb [e] d with
    | false=>rfl
    | true =>
     obtain rfl:d=e:=memb_one hb
     rw [he] at h; cases h
   simp [letF,this]
  | agg cs=>simp only [freeRB] at h; simp only [letF,hm cs h]
  | tup cs=>simp only [freeRB] at h; simp only [letF,hm cs h]
  | _=>rfl
omit [Cod S] in
theorem letAllK_free {e:Nat} (he:memb es e=true) (hf:st.seg.all (freeROB es)=true) (K:St S→Prop):letAllK [e] st K=K { st with tmps:=st.tmps.map (letF 4 [e]) }:=by
 have h1:∀ (cs:List (AV S)) (K:List (AV S)→Prop),mapK (letK 4 [e]) cs K=K (cs.map (letF 4 [e])):=fun cs=>by
  induction cs with
  | nil=>intro K; rfl
  | cons c cs ih=>intro K; simp only [mapK,letK_eq,ih,List.map_cons]
 have h2:∀ (cs:List (AV S)),cs.all (freeRB 4 es)=true→cs.map (letF 4 [e])=cs:=fun cs h=>by
  induction cs with
  | nil=>rfl
  | cons c cs ih =>
   simp only [List.all_cons,Bool.and_eq_true] at h
   simp only [List.map_cons,letF_free 4 c he h.1,ih h.2]
 have h3:∀ (sg:List (Nat×AO S)) (K:List (Nat×AO S)→Prop),sg.all (freeROB es)=true→mapK (letOK [e]) sg K=K sg:=fun sg=>by
  induction sg with
  | nil=>intro K _; rfl
  | cons p sg ih =>
   intro K h
   simp only [List.all_cons,Bool.and_eq_true] at h
   obtain ⟨d,ao⟩:=p
   cases ao with
   | cells cs=>simp only [mapK,letOK,h1,h2 cs h.1]; exact ih _ h.2
   | frz cs=>simp only [mapK,letOK]; exact ih _ h.2
   | row u f=>simp only [mapK,letOK]; exact ih _ h.2
   | mpz ks us=>simp only [mapK,letOK]; exact ih _ h.2
   | mp kvs=>simp only [mapK,letOK]; exact ih _ h.2
 unfold letAllK
 rw [h1,h3 _ _ hf]
def upd (st:St S) (l:List (Nat×AO S)) (d:Option Nat) (v:AV S):St S:=putSt { st with seg:=putsA st.seg l } d v
def updM (st:St S) (e:Nat) (l:List (Nat×AO S)) (d:Option Nat) (v:AV S):St S:=upd { st with tmps:=st.tmps.map (letF 4 [e]) } l d v
omit [Cod S] in
theorem upd_seg (st:St S) (l:List (Nat×AO S)) (d:Option Nat) (v:AV S):(upd st l d v).seg=putsA st.seg l:=by cases d <;> rfl
omit [Cod S] in
theorem upd_up (st:St S) (l:List (Nat×AO S)) (d:Option Nat) (v:AV S):(upd st l d v).up=st.up:=by cases d <;> rfl
omit [Cod S] in
theorem upd_tmps (st:St S) (l:List (Nat×AO S)) (d:Option Nat) (v:AV S):(upd st l d v).tmps=(putSt st d v).tmps:=by cases d <;> rfl
omit [Cod S] in
theorem getD_set_ne {l:List (AV S)} {d t:Nat} {v:AV S} (h:d≠t):(l.set d v).getD t .undef=l.getD t .undef:=by
 simp [List.getD_eq_getElem?_getD,List.getElem?_set_ne h]
omit [Cod S] in
theorem getD_map {l:List (AV S)} {e t:Nat}:(l.map (letF 4 [e])).getD t .undef=letF 4 [e] (l.getD t .undef):=by
 simp only [List.getD_eq_getElem?_getD,List.getElem?_map]
 cases l[t]? <;> rfl
omit [Cod S] in
theorem Same.upd {ls:List Nat} {st:St S} {l:List (Nat×AO S)} {d:Option Nat} {v:AV S} (h:∀ t,d=some t→t ∉ ls):Same ls st.tmps (upd st l d v).tmps:=by
 intro t ht
 rw [upd_tmps]
 cases d with
 | none=>rfl
 | some d=>exact getD_set_ne fun e=>h d rfl (e ▸ ht)
omit [Cod S] in
theorem Same.symm {ls:List Nat} {ts ts':List (AV S)} (h:Same ls ts ts'):Same ls ts' ts:=fun t ht=>(h t ht).symm
omit [Cod S] in
theorem upd_comm {st:St S} {l m:List (Nat×AO S)} {d e:Option Nat} {v u:AV S} (h:∀ t,d=some t→e≠some t) (hk:∀ p∈l,∀ q∈m,p.1≠q.1):upd (upd st l d v) m e u=upd (upd st m e u) l d v:=by
 have hp:putsA (putsA st.seg l) m=putsA (putsA st.seg m) l:=putsA_comm hk
 cases d with
 | none =>
  cases e with
  | none=>simp only [Go.Ab.upd,putSt]; rw [hp]
  | some e=>simp only [Go.Ab.upd,putSt]; rw [hp]
 | some d =>
  cases e with
  | none=>simp only [Go.Ab.upd,putSt]; rw [hp]
  | some e =>
   have hne:d≠e:=fun h'=>h d rfl (by rw [h'])
   simp only [Go.Ab.upd,putSt]
   rw [hp,List.set_comm _ _ hne]
omit [Cod S] in
theorem updM_comm {st:St S} {m:List (Nat×AO S)} {d:Option Nat} {e:Nat} {dm:Option Nat} {v u:AV S} (h:∀ t,d=some t→dm≠some t) (hv:letF 4 [e] v=v):updM (upd st [] d v) e m dm u=upd (updM st e m dm u) [] d v:=by
 have h1:updM (upd st [] d v) e m dm u=upd (upd { st with tmps:=st.tmps.map (letF 4 [e]) } [] d v) m dm u:=by
  cases d with
  | none=>rfl
  | some d=>simp only [updM,Go.Ab.upd,putSt,List.map_set,hv]
 rw [h1,upd_comm h fun p hp=>by simp at hp]
 rfl
omit [Cod S] in
theorem updM_comm' {st:St S} {l m:List (Nat×AO S)} {d:Option Nat} {e:Nat} {dm:Option Nat} {v u:AV S} (h:∀ t,dm=some t→d≠some t) (hv:letF 4 [e] v=v) (hk:∀ p∈m,∀ q∈l,p.1≠q.1):updM (upd st m d v) e l dm u=upd (updM st e l dm u) m d v:=by
 have h1:updM (upd st m d v) e l dm u=upd (upd { st with tmps:=st.tmps.map (letF 4 [e]) } m d v) l dm u:=by
  cases d with
  | none=>rfl
  | some d=>simp only [updM,Go.Ab.upd,putSt,List.map_set,hv]
 rw [h1,upd_comm (fun t ht e'=>h t e' ht) hk]
 rfl
theorem guard_looks {j:Nat} {want:Bool} {oj:Oper} {dj:Nat} (hg:o.guard=some (j,want)) (hj:ops[j]?=some oj) (hd:oj.dst=some dj):dj∈o.looksAt ops:=by
 unfold Oper.looksAt
 refine List.mem_append_right _ ?_
 simp [hg,hj,hd]
def SameG (ops:Array Oper) (o:Oper) (ts ts':List (AV S)):Prop:=∀ j want oj dj,o.guard=some (j,want)→ops[j]?=some oj→oj.dst=some dj→ts'.getD dj .undef=ts.getD dj .undef
omit [Cod S] in
theorem Same.toG {ts ts':List (AV S)} (h:Same (o.looksAt ops) ts ts'):SameG ops o ts ts':=fun _ _ _ _ hg hj hd=>h _ (guard_looks hg hj hd)
omit [Cod S] in
theorem guardG_look {run:St S→(St S→X→Prop)→Prop} (h:guardG ops o run st x K) {j:Nat} {want:Bool} {oj:Oper} {dj:Nat} (hg:o.guard=some (j,want)) (hj:ops[j]?=some oj) (hd:oj.dst=some dj) :
  (∃ b,st.tmps.getD dj .undef=.bool b)∨st.tmps.getD dj .undef=.skip:=by
 unfold guardG at h
 rw [hg] at h
 simp only at h
 rw [hj] at h
 simp only at h
 rw [hd] at h
 simp only at h
 cases hv:st.tmps.getD dj .undef with
 | bool b=>exact .inl ⟨b,rfl⟩
 | skip=>exact .inr rfl
 | _=>rw [hv] at h; exact h.elim
omit [Cod S] in
theorem guardG_cases {run:St S→X→(St S→X→Prop)→Prop} (h:guardG ops o (fun st K=>run st x K) st x K) :
  (run st x K∧∀ (st':St S) (x':X) (K':St S→X→Prop),SameG ops o st.tmps st'.tmps→run st' x' K'→guardG ops o (fun st K=>run st x' K) st' x' K') ∨
  (K (putSt st o.dst .skip) x∧∀ (st':St S) (x':X) (K':St S→X→Prop),SameG ops o st.tmps st'.tmps→K' (putSt st' o.dst .skip) x'→guardG ops o (fun st K=>run st x' K) st' x' K'):=by
 unfold guardG at h ⊢
 cases hg:o.guard with
 | none=>rw [hg] at h; exact .inl ⟨h,fun st' x' K' _ h=>h⟩
 | some p =>
  obtain ⟨j,want⟩:=p
  rw [hg] at h
  simp only at h ⊢
  cases hj:ops[j]? with
  | none=>rw [hj] at h; exact h.elim
  | some oj =>
   rw [hj] at h
   simp only at h ⊢
   cases hd:oj.dst with
   | none=>rw [hd] at h; exact h.elim
   | some dj =>
    rw [hd] at h
    simp only at h ⊢
    cases hv:st.tmps.getD dj .undef with
    | bool b =>
     rw [hv] at h
     simp only at h
     by_cases hb:b=want
     ·rw [if_pos hb] at h
      refine .inl ⟨h,fun st' x' K' hs h=>?_⟩
      rw [hs j want oj dj hg hj hd,hv]
      simp only
      rw [if_pos hb]; exact h
     rw [if_neg hb] at h
     refine .inr ⟨h,fun st' x' K' hs h=>?_⟩
     rw [hs j want oj dj hg hj hd,hv]
     simp only
     rw [if_neg hb]; exact h
    | skip =>
     rw [hv] at h
     exact .inr ⟨h,fun st' x' K' hs h=>by rw [hs j want oj dj hg hj hd,hv]; exact h⟩
    | _=>rw [hv] at h; exact h.elim
theorem slots_looks {t:Nat} (h:t∈slotsOf o):t∈o.looksAt ops:=by
 unfold slotsOf at h
 obtain ⟨y,hy,h1⟩:=List.mem_filterMap.1 h
 refine List.mem_append_left _ (List.mem_filterMap.2 ⟨y,hy,?_⟩)
 cases y <;> first | exact h1 | cases h1
theorem stepD_A (hA:clsA o=true) (hk3:k < 3) (h:stepD P ops es k o st x K):∃ v,K (upd st [] o.dst v) x ∧
  (∀ (st':St S) (x':X) (K':St S→X→Prop),Same (o.looksAt ops) st.tmps st'.tmps→SegLe st.seg st'.seg→st'.up=st.up→K' (upd st' [] o.dst v) x'→stepD P ops es k o st' x' K') ∧
  (k≠0→freeRB 4 es v=true∧∀ (st':St S) (x':X) (K':St S→X→Prop) (e:Nat),memb es e=true→(∀ t,t∈o.looksAt ops→st'.tmps.getD t .undef=letF 4 [e] (st.tmps.getD t .undef)) →
   SegLe st.seg st'.seg→st'.up=st.up→K' (upd st' [] o.dst v) x'→stepD P ops es k o st' x' K'):=by
 have hlook:∀ {st':St S} {e:Nat},(∀ t,t∈o.looksAt ops→st'.tmps.getD t .undef=letF 4 [e] (st.tmps.getD t .undef))→SameG ops o st.tmps st'.tmps:=fun {st' e} hl j want oj dj hg hj hd=>by
  rw [hl dj (guard_looks hg hj hd)]
  rcases guardG_look h hg hj hd with ⟨b,h1⟩ | h1
  ·rw [h1]; rfl
  rw [h1]; rfl
 have h0:=h
 rcases guardG_cases (run:=fun st x K=>runD P es k o st x fun v st' x'=>K (putSt st' o.dst v) x') h with ⟨h,hb⟩ | ⟨h,hb⟩
 ·by_cases hk0:k=0
  ·subst hk0
   simp only [runD,hA] at h
   obtain ⟨v,h,b⟩:=opV_point _ _ _ _ _ h
   refine ⟨v,h,fun st' x' K' hs hle hup hK=>hb st' x' K' hs.toG ?_,fun h=>absurd rfl h⟩
   simp only [runD,hA]
   rw [hup]
   exact opV_same hs hle (b _ hK)
  rw [runD_A1 hA hk0 hk3] at h
  cases hsl:(slotsOf o).all fun t=>freeRB 4 es (st.tmps.getD t .undef)&&awayB es (st.tmps.getD t .undef) with
  | false=>rw [hsl] at h; exact h.elim
  | true =>
   rw [hsl] at h
   simp only at h
   obtain ⟨v,h,b⟩:=opV_point _ _ _ _ _ h
   cases hv:freeRB 4 es v with
   | false=>rw [hv] at h; exact h.elim
   | true =>
    rw [hv] at h
    have hgo:∀ (st':St S) (x':X) (K':St S→X→Prop),Same (o.looksAt ops) st.tmps st'.tmps→SegLe st.seg st'.seg→st'.up=st.up→K' (upd st' [] o.dst v) x'→stepD P ops es k o st' x' K':=fun st' x' K' hs hle hup hK=>by
     refine hb st' x' K' hs.toG ?_
     have hsl':(slotsOf o).all (fun t=>freeRB 4 es (st'.tmps.getD t .undef)&&awayB es (st'.tmps.getD t .undef))=true:=by
      rw [List.all_eq_true] at hsl ⊢
      intro t ht
      have:=hsl t ht
      rw [hs t (slots_looks ht)]; exact this
     rw [runD_A1 hA hk0 hk3]
     simp only [hsl']
     rw [hup]
     refine opV_same hs hle (b _ ?_)
     simp only [hv]
     exact hK
    refine ⟨v,h,hgo,fun _=>⟨hv,fun st' x' K' e he hl hle hup hK=>hgo st' x' K' (fun t ht=>?_) hle hup hK⟩⟩
    rw [hl t ht]
    rcases List.mem_append.1 (show t∈o.looksAt ops from ht) with h1 | h1
    ·obtain ⟨y,hy,h2⟩:=List.mem_filterMap.1 h1
     have hts:t∈slotsOf o:=List.mem_filterMap.2 ⟨y,hy,by cases y <;> first | exact h2 | cases h2⟩
     exact letF_free 4 _ he (Bool.and_eq_true_iff.1 (List.all_eq_true.1 hsl t hts)).1
    cases hg:o.guard with
    | none=>rw [hg] at h1; simp at h1
    | some p =>
     obtain ⟨j,want⟩:=p
     rw [hg] at h1
     simp only at h1
     cases hj:ops[j]? with
     | none=>rw [hj] at h1; simp at h1
     | some oj =>
      rw [hj] at h1
      simp only [Option.bind_some] at h1
      cases hd:oj.dst with
      | none=>rw [hd] at h1; simp at h1
      | some dj =>
       rw [hd] at h1
       obtain rfl:t=dj:=by simpa using h1
       rcases guardG_look h0 hg hj hd with ⟨b',h3⟩ | h3
       ·rw [h3]; rfl
       rw [h3]; rfl
 exact ⟨_,h,fun st' x' K' hs _ _ hK=>hb st' x' K' hs.toG hK,fun _=>⟨rfl,fun st' x' K' e he hl _ _ hK=>hb st' x' K' (hlook hl) hK⟩⟩
theorem opX_same {st st':St S} {j:Option Nat} {K:AV S→Prop} (hs:Same (o.looksAt ops) st.tmps st'.tmps) (hseg:st'.seg=st.seg) (hj:∀ k,j=some k→st'.tmps.getD k .undef=st.tmps.getD k .undef) (h:opX P j o st K):opX P j o st' K:=by
 have he:∀ y∈o.op.operands,∀ K,evK st'.tmps y K=evK st.tmps y K:=fun y hy K=>evK_same hs (fun t e=>looksAt_op hy t e) K
 unfold opX at h ⊢
 cases ho:o.op <;> rw [ho] at h he <;> try exact h.elim
 case indexAddr t y i=>simp only [he y (by simp [Op.operands]),he i (by simp [Op.operands]),hseg]; exact h
 case load t p =>
  cases j with
  | none=>simp only [he p (by simp [Op.operands]),hseg]; exact h
  | some k=>simp only [he p (by simp [Op.operands]),nthK_eq,hj k rfl]; simp only [nthK_eq] at h; exact h
theorem opX_point {st:St S} {j:Option Nat} {K:AV S→Prop} (h:opX P j o st K):∃ v,K v∧∀ K':AV S→Prop,K' v→opX P j o st K':=by
 unfold opX at h
 unfold opX
 cases ho:o.op <;> rw [ho] at h <;> try exact h.elim
 case indexAddr t y i =>
  simp only at h ⊢
  obtain ⟨ty,h,b1⟩:=Point.ty _ _ h
  obtain ⟨v,h,b2⟩:=Point.ev _ _ _ h
  obtain ⟨iv,h,b3⟩:=Point.ev _ _ _ h
  cases iv with
  | int k n =>
   simp only at h
   cases hk:ty.kind with
   | slice ut bb ez =>
    rw [hk] at h
    simp only at h
    cases v with
    | sl u xs r =>
     cases r with
     | none=>exact h.elim
     | some e =>
      simp only at h
      obtain ⟨xs',h,b4⟩:=Point.cast _ _ h
      rw [findK_eq] at h
      cases hl:lookA st.seg e with
      | none=>rw [hl] at h; exact h.elim
      | some ao =>
       rw [hl] at h
       cases ao with
       | row u' f =>
        cases f with
        | true =>
         simp only at h
         obtain ⟨y0,hy0,h⟩:=h
         refine ⟨_,h,fun K' hK=>b1 _ (b2 _ (b3 _ ?_))⟩
         simp only [hk]
         refine b4 _ ?_
         rw [findK_eq,hl]
         exact ⟨y0,hy0,hK⟩
        | false=>exact h.elim
       | _=>exact h.elim
    | _=>exact h.elim
   | _=>rw [hk] at h; exact h.elim
  | _=>exact h.elim
 case load t p =>
  simp only at h ⊢
  obtain ⟨ty,h,b1⟩:=Point.ty _ _ h
  obtain ⟨pv,h,b2⟩:=Point.ev _ _ _ h
  cases pv <;> try exact h.elim
  case elp u d i p =>
   cases j with
   | some k =>
    simp only [nthK_eq] at h ⊢
    obtain ⟨xs,⟨e,he,h⟩,b4⟩:=Point.hold _ _ _ _ h
    obtain ⟨m,h,b6⟩:=Point.read _ _ _ h
    obtain ⟨v,h,b5⟩:=Point.val _ _ _ h
    exact ⟨v,h,fun K' hK=>b1 _ (b2 _ (b4 _ ⟨e,he,b6 _ (b5 _ hK)⟩))⟩
   | none =>
    obtain ⟨b0,h⟩:=h
    rw [findK_eq] at h
    cases hl:lookA st.seg b0 with
    | none=>rw [hl] at h; exact h.elim
    | some ao =>
     rw [hl] at h
     cases ao with
     | cells cs =>
      simp only at h
      obtain ⟨xs,⟨e,he,h⟩,b4⟩:=Point.hold _ _ _ _ h
      obtain ⟨m,h,b6⟩:=Point.read _ _ _ h
      obtain ⟨v,h,b5⟩:=Point.val _ _ _ h
      refine ⟨v,h,fun K' hK=>b1 _ (b2 _ ⟨b0,?_⟩)⟩
      rw [findK_eq,hl]
      exact b4 _ ⟨e,he,b6 _ (b5 _ hK)⟩
     | _=>exact h.elim
def lookJ (k:Nat):Option Nat:=match k with
 | j+4=>some j
 | _=>none
theorem runD_X {st:St S} {x:X} {K:AV S→St S→X→Prop} (hA:clsA o=true) (h3:3≤k):runD P es k o st x K=opX P (lookJ k) o st fun v=>K v st x:=by
 unfold runD
 rw [hA]
 match k,h3 with
 | 0,h=>exact absurd h (by decide)
 | 1,h=>exact absurd h (by decide)
 | 2,h=>exact absurd h (by decide)
 | 3,_=>rfl
 | j+4,_=>rfl
theorem stepD_A' (hA:clsA o=true) (h:stepD P ops es k o st x K):∃ v,K (upd st [] o.dst v) x ∧
  ∀ (st':St S) (x':X) (K':St S→X→Prop),Same (o.looksAt ops) st.tmps st'.tmps→st'.seg=st.seg→st'.up=st.up→(∀ j,lookJ k=some j→st'.tmps.getD j .undef=st.tmps.getD j .undef)→K' (upd st' [] o.dst v) x'→stepD P ops es k o st' x' K':=by
 by_cases hk3:3≤k
 ·rcases guardG_cases (run:=fun st x K=>runD P es k o st x fun v st' x'=>K (putSt st' o.dst v) x') h with ⟨h,hb⟩ | ⟨h,hb⟩
  ·rw [runD_X hA hk3] at h
   obtain ⟨v,h,b⟩:=opX_point h
   refine ⟨v,h,fun st' x' K' hs hseg hup hj hK=>hb st' x' K' hs.toG ?_⟩
   rw [runD_X hA hk3]
   exact opX_same hs hseg hj (b _ hK)
  exact ⟨_,h,fun st' x' K' hs _ _ _ hK=>hb st' x' K' hs.toG hK⟩
 obtain ⟨v,h1,h2,_⟩:=stepD_A hA (Nat.lt_of_not_le hk3) h
 exact ⟨v,h1,fun st' x' K' hs hseg hup _ hK=>h2 st' x' K' hs (by rw [hseg]; exact fun d ao h _=>h) hup hK⟩
omit [Cod S] in
theorem keep_look {k j:Nat} {q:Oper} (h:keepB k q=true) (hj:lookJ k=some j) {st:St S} {u:AV S} {l:List (Nat×AO S)}:(upd st l q.dst u).tmps.getD j .undef=st.tmps.getD j .undef:=by
 have hk:k=j+4:=by
  match k,hj with
  | k+4,hj=>cases hj; rfl
 subst hk
 simp only [keepB] at h
 cases hd:q.dst with
 | none=>rfl
 | some d =>
  rw [hd] at h
  simp only [Bool.not_eq_true'] at h
  have hne:d≠j:=fun e=>by rw [e] at h; simp at h
  simp only [upd,putSt,List.getD_eq_getElem?_getD]
  rw [List.getElem?_set_ne hne]
theorem stepD_C (hm:CallOk P) (hC:clsC o=true) (hk:k=0) (h:stepD P ops es k o st x K):∃ (l:List (Nat×AO S)) (T:(AV S→Prop)→Prop),RowsIn st.seg l∧(∀ Q Q':AV S→Prop,(∀ r,Q r→Q' r)→T Q→T Q')∧(∀ Q,T Q→∃ r,Q r) ∧
  T (fun r=>K (upd st l o.dst r) x) ∧
  ∀ (st':St S) (x':X) (K':St S→X→Prop),Same (o.looksAt ops) st.tmps st'.tmps→Sub st.seg st'.seg→T (fun r=>K' (upd st' l o.dst r) x')→stepD P ops es k o st' x' K':=by
 subst hk
 have hA:clsA o=false:=by
  unfold clsC at hC
  unfold clsA
  cases ho:o.op <;> rw [ho] at hC <;> try cases hC
  rename_i c
  simp only at hC ⊢
  cases hc:c.callee with
  | value f=>simp only
  | _=>rw [hc] at hC <;> cases hC
 rcases guardG_cases (run:=fun st x K=>runD P es 0 o st x fun v st' x'=>K (putSt st' o.dst v) x') h with ⟨h,hb⟩ | ⟨h,hb⟩
 ·simp only [runD,hA,hC] at h
  cases ho:o.op <;> rw [ho] at h <;> try exact h.elim
  rename_i c
  obtain ⟨g,all,l,kp,h1,h2,h3⟩:=callD_form hm h
  refine ⟨l,fun Q=>P.call g all fun r=>kp r∧plainR r (Q r),h1,fun Q Q' hq h=>hm.mono g all _ _ (fun r hr=>⟨hr.1,plainR_mono (hq r) hr.2⟩) h,fun Q h=>(hm.wit g all _ h).imp fun r hr=>plainR_out hr.2,h2,fun st' x' K' hs hsub hK=>hb st' x' K' hs.toG ?_⟩
  simp only [runD,hA,hC,ho]
  exact h3 st' x' _ ho hs hsub hK
 exact ⟨[],fun Q=>Q .skip,fun p hp=>by simp at hp,fun _ _ h h'=>h _ h',fun Q h=>⟨_,h⟩,h,fun st' x' K' hs _ hK=>hb st' x' K' hs.toG hK⟩
theorem clsL_spec (h:clsL k o=true):k=1∧(∃ d,o.dst=some d)∧clsA o=false∧clsC o=false∧stB o=false:=by
 simp only [clsL,Bool.and_eq_true,Bool.not_eq_true'] at h
 obtain ⟨⟨⟨⟨h1,h3⟩,h4⟩,h5⟩,h6⟩:=h
 exact ⟨Nat.eq_of_beq_eq_true h1,Option.isSome_iff_exists.1 h3,h4,h5,h6⟩
theorem clsS_spec (h:clsS k o=true):k=1∧o.guard=none∧o.dst=none∧clsA o=false∧clsC o=false∧stB o=true:=by
 simp only [clsS,Bool.and_eq_true,Bool.not_eq_true'] at h
 obtain ⟨⟨⟨⟨⟨h1,h2⟩,h3⟩,h4⟩,h5⟩,h6⟩:=h
 exact ⟨Nat.eq_of_beq_eq_true h1,by simpa using h2,by simpa using h3,h4,h5,h6⟩
theorem clsM_spec (h:clsM k o=true):k=2∧o.guard=none∧(∃ d,o.dst=some d)∧clsA o=false∧clsC o=false∧stB o=false∧allocB o=false:=by
 simp only [clsM,Bool.and_eq_true,Bool.not_eq_true'] at h
 obtain ⟨⟨⟨⟨⟨⟨h1,h2⟩,h3⟩,h4⟩,h5⟩,h6⟩,h7⟩:=h
 exact ⟨Nat.eq_of_beq_eq_true h1,by simpa using h2,Option.isSome_iff_exists.1 h3,h4,h5,h6,h7⟩
theorem clsN_spec (h:clsN k o=true):k=2∧o.guard=none∧(∃ d,o.dst=some d)∧clsA o=false∧clsC o=false∧stB o=false∧allocB o=true:=by
 simp only [clsN,Bool.and_eq_true,Bool.not_eq_true'] at h
 obtain ⟨⟨⟨⟨⟨⟨h1,h2⟩,h3⟩,h4⟩,h5⟩,h6⟩,h7⟩:=h
 exact ⟨Nat.eq_of_beq_eq_true h1,by simpa using h2,Option.isSome_iff_exists.1 h3,h4,h5,h6,h7⟩
theorem clsT_spec (h:clsT k o=true):k=2∧o.guard=none∧o.dst=none∧clsA o=false∧clsC o=false∧stB o=true:=by
 simp only [clsT,Bool.and_eq_true,Bool.not_eq_true'] at h
 obtain ⟨⟨⟨⟨⟨h1,h2⟩,h3⟩,h4⟩,h5⟩,h6⟩:=h
 exact ⟨Nat.eq_of_beq_eq_true h1,by simpa using h2,by simpa using h3,h4,h5,h6⟩
theorem stepD_L (hL:clsL k o=true) (h:stepD P ops es k o st x K):∃ (v:AV S) (l:List (Nat×AO S)),NewIn (o.dst.getD 0) st.seg l∧K (upd st l o.dst v) x ∧
  ∀ (st':St S) (x':X) (K':St S→X→Prop),Same (o.looksAt ops) st.tmps st'.tmps→Alike (o.dst.getD 0) st.seg st'.seg→K' (upd st' l o.dst v) x'→stepD P ops es k o st' x' K':=by
 obtain ⟨h1,⟨d,hd⟩,hA,hC,hS⟩:=clsL_spec hL
 subst h1
 rcases guardG_cases (run:=fun st x K=>runD P es 1 o st x fun v st' x'=>K (putSt st' o.dst v) x') h with ⟨h,hb⟩ | ⟨h,hb⟩
 ·simp only [runD,hA,hC,hS] at h
  obtain ⟨v,l,h2,h3,h4⟩:=opL_form (ops:=ops) h
  refine ⟨v,l,h2,h3,fun st' x' K' hs ha hK=>hb st' x' K' hs.toG ?_⟩
  simp only [runD,hA,hC,hS]
  exact h4 st'.tmps st'.seg _ hs ha hK
 exact ⟨.skip,[],fun p hp=>by simp at hp,h,fun st' x' K' hs _ hK=>hb st' x' K' hs.toG hK⟩
theorem stepD_alloc (hL:clsL k o=true) (ha:allocB o=true) (hg:o.guard=none) (h:stepD P ops es k o st x K):∃ (v:AV S) (l:List (Nat×AO S)),NewIn (o.dst.getD 0) st.seg l ∧
  ∀ (st':St S) (x':X) (K':St S→X→Prop),Alike (o.dst.getD 0) st.seg st'.seg→(stepD P ops es k o st' x' K'↔K' (upd st' l o.dst v) x'):=by
 obtain ⟨h1,⟨d,hd⟩,hA,hC,hS⟩:=clsL_spec hL
 subst h1
 simp only [stepD,guardG,hg,runD,hA,hC,hS] at h ⊢
 obtain ⟨l,h2,h3⟩:=alloc_form ha h
 exact ⟨_,l,h2,fun st' x' K' ha=>h3 st'.tmps st'.seg _ ha⟩
theorem stepD_det (hL:clsL k o=true) (ha:allocB o=true∨bldB o=true) (hg:o.guard=none) (h:stepD P ops es k o st x K):∃ (v:AV S) (l:List (Nat×AO S)),NewIn (o.dst.getD 0) st.seg l ∧
  ∀ (st':St S) (x':X) (K':St S→X→Prop),Same (o.looksAt ops) st.tmps st'.tmps→Alike (o.dst.getD 0) st.seg st'.seg→(stepD P ops es k o st' x' K'↔K' (upd st' l o.dst v) x'):=by
 rcases ha with ha | hb
 ·obtain ⟨v,l,h1,h2⟩:=stepD_alloc hL ha hg h
  exact ⟨v,l,h1,fun st' x' K' _=>h2 st' x' K'⟩
 obtain ⟨h1,⟨d,hd⟩,hA,hC,hS⟩:=clsL_spec hL
 subst h1
 simp only [stepD,guardG,hg,runD,hA,hC,hS] at h ⊢
 obtain ⟨v,l,h2,h3⟩:=build_form (ops:=ops) hb h
 exact ⟨v,l,h2,fun st' x' K' hs ha=>h3 st'.tmps st'.seg _ hs ha⟩
theorem stepD_N (hN:clsN k o=true) (h:stepD P ops es k o st x K):∃ l:List (Nat×AO S),NewIn (o.dst.getD 0) st.seg l∧(putsA st.seg l).all (freeROB es)=true∧K (upd st l o.dst (.own (o.dst.getD 0) [])) x ∧
  ∀ (st':St S) (x':X) (K':St S→X→Prop),Alike (o.dst.getD 0) st.seg st'.seg→(putsA st'.seg l).all (freeROB es)=true→K' (upd st' l o.dst (.own (o.dst.getD 0) [])) x'→stepD P ops es k o st' x' K':=by
 obtain ⟨h1,hg,⟨d,hd⟩,hA,hC,hS,hal⟩:=clsN_spec hN
 subst h1
 simp only [stepD,guardG,hg,runD,hA,hC,hS,hal] at h ⊢
 obtain ⟨l,h2,h3⟩:=alloc_form hal h
 have h:=(h3 st.tmps st.seg _ fun _ _=>rfl).1 h
 cases hb:(putsA st.seg l).all (freeROB es) with
 | false=>rw [hb] at h; exact h.elim
 | true =>
  rw [hb] at h
  refine ⟨l,h2,hb,h,fun st' x' K' ha hf hK=>(h3 st'.tmps st'.seg _ ha).2 ?_⟩
  simp only [hf]
  exact hK
omit [Cod S] in
theorem mem_putA {sg:List (Nat×AO S)} {n:Nat} {a:AO S} {y:Nat×AO S} (hy:y∈sg) (hn:n≠y.1):y∈putA sg n a:=by
 induction sg with
 | nil=>cases hy
 | cons p sg ih =>
  obtain ⟨k,b⟩:=p
  simp only [putA]
  rcases List.mem_cons.1 hy with rfl | hy
  ·rw [if_neg (fun e=>hn e.symm)]
   split <;> simp
  split
  ·exact List.mem_cons_of_mem _ hy
  split
  ·exact List.mem_cons_of_mem _ (List.mem_cons_of_mem _ hy)
  exact List.mem_cons_of_mem _ (ih hy)
omit [Cod S] in
theorem mem_putsA {l:List (Nat×AO S)}:∀ {sg:List (Nat×AO S)} {y:Nat×AO S},y∈sg→(∀ p∈l,p.1≠y.1)→y∈putsA sg l:=by
 induction l with
 | nil=>exact fun hy _=>hy
 | cons p l ih=>exact fun hy hn=>ih (mem_putA hy (hn p List.mem_cons_self)) fun q hq=>hn q (List.mem_cons_of_mem _ hq)
omit [Cod S] in
theorem lookA_none_mem {sg:List (Nat×AO S)} {n:Nat} (h:lookA sg n=none) {y:Nat×AO S} (hy:y∈sg):n≠y.1:=by
 induction sg with
 | nil=>cases hy
 | cons p sg ih =>
  obtain ⟨k,b⟩:=p
  simp only [lookA] at h
  by_cases hk:k=n
  ·rw [if_pos hk] at h; cases h
  rw [if_neg hk] at h
  rcases List.mem_cons.1 hy with rfl | hy
  ·exact fun e=>hk e.symm
  exact ih h hy
omit [Cod S] in
theorem all_new {es:List Nat} {sg l:List (Nat×AO S)} (hl:∀ p∈l,lookA sg p.1=none) (h:(putsA sg l).all (freeROB es)=true):sg.all (freeROB es)=true :=
 List.all_eq_true.2 fun _ hy=>List.all_eq_true.1 h _ (mem_putsA hy fun p hp=>lookA_none_mem (hl p hp) hy)
omit [Cod S] in
theorem all_row {es:List Nat} {sg:List (Nat×AO S)} {n:Nat} {a b:AO S} (hb:lookA sg n=some b) (hf:freeROB es (n,b)=true) (h:(putA sg n a).all (freeROB es)=true):sg.all (freeROB es)=true:=by
 induction sg with
 | nil=>rfl
 | cons p sg ih =>
  obtain ⟨k,c⟩:=p
  simp only [lookA] at hb
  simp only [putA] at h
  by_cases hk:k=n
  ·rw [if_pos hk] at hb h
   cases hb
   subst hk
   simp only [List.all_cons,Bool.and_eq_true] at h ⊢
   exact ⟨hf,h.2⟩
  rw [if_neg hk] at hb h
  by_cases hn:n≤k
  ·rw [if_pos hn] at h
   simp only [List.all_cons,Bool.and_eq_true] at h ⊢
   exact h.2
  rw [if_neg hn] at h
  simp only [List.all_cons,Bool.and_eq_true] at h ⊢
  exact ⟨h.1,ih hb h.2⟩
omit [Cod S] in
theorem all_rows {es:List Nat} {l:List (Nat×AO S)}:∀ {sg:List (Nat×AO S)},RowsIn sg l→(putsA sg l).all (freeROB es)=true→sg.all (freeROB es)=true:=by
 induction l with
 | nil=>exact fun _ h=>h
 | cons p l ih =>
  intro sg hr h
  obtain ⟨⟨u,f,hp⟩,u',f',hq⟩:=hr p List.mem_cons_self
  refine all_row hq rfl (ih (sg:=putA sg p.1 p.2) (fun q hm=>⟨(hr q (List.mem_cons_of_mem _ hm)).1,?_⟩) h)
  obtain ⟨v,g,hg⟩:=(hr q (List.mem_cons_of_mem _ hm)).2
  rw [lookA_putA]
  split
  ·exact ⟨u,f,by rw [hp]⟩
  exact ⟨v,g,hg⟩
theorem stepD_S (hS:clsS k o=true) (h:stepD P ops es k o st x K):K (upd st [] o.dst .skip) x ∧
  ∀ (st':St S) (x':X) (K':St S→X→Prop),Same (o.looksAt ops) st.tmps st'.tmps→st'.seg=st.seg→K' (upd st' [] o.dst .skip) x'→stepD P ops es k o st' x' K':=by
 obtain ⟨h1,hg,hd,hA,hC,hB⟩:=clsS_spec hS
 subst h1
 simp only [stepD,guardG,hg,runD,hA,hC,hB] at h ⊢
 unfold opS at h ⊢
 cases ho:o.op <;> rw [ho] at h <;> try exact h.elim
 rename_i t p y
 simp only at h ⊢
 obtain ⟨ty,h,b1⟩:=Point.ty _ _ h
 obtain ⟨pv,h,b2⟩:=Point.ev _ _ _ h
 obtain ⟨v,h,b3⟩:=Point.ev _ _ _ h
 obtain ⟨vs,h,b4⟩:=Point.cells _ _ h
 cases hb:Nat.beq ((vs.map width).sum) ty.size&&vs.all nonilB with
 | false=>rw [hb] at h; exact h.elim
 | true =>
  rw [hb] at h
  cases pv with
  | own d q =>
   simp only at h
   rw [findK_eq] at h
   cases hl:lookA st.seg d with
   | none=>rw [hl] at h; exact h.elim
   | some ao =>
    rw [hl] at h
    cases ao with
    | cells cs =>
     simp only at h
     obtain ⟨cs',h,b5⟩:=Point.write _ _ _ _ h
     rw [putK_eq] at h
     obtain ⟨hcs,h⟩:=h
     refine ⟨h,fun st' x' K' hs hseg hK=>?_⟩
     have he:∀ z∈o.op.operands,∀ K,evK st'.tmps z K=evK st.tmps z K:=fun z hz K=>evK_same hs (fun t e=>looksAt_op hz t e) K
     rw [ho] at he
     simp only [he p (by simp [Op.operands]),he y (by simp [Op.operands])]
     refine b1 _ (b2 _ (b3 _ (b4 _ ?_)))
     simp only [hb]
     rw [hseg,findK_eq,hl]
     refine b5 _ ?_
     rw [putK_eq]
     exact ⟨hcs,hK⟩
    | _=>exact h.elim
  | _=>exact h.elim
theorem stepD_T (hT:clsT k o=true) (h:stepD P ops es k o st x K):∃ sg:List (Nat×AO S),K { st with seg:=sg } x ∧
  ∀ (st':St S) (x':X) (K':St S→X→Prop),Same (o.looksAt ops) st.tmps st'.tmps→st'.seg=st.seg→K' { st' with seg:=sg } x'→stepD P ops es k o st' x' K':=by
 obtain ⟨h1,hg,hd,hA,hC,hB⟩:=clsT_spec hT
 subst h1
 simp only [stepD,guardG,hg,runD,hA,hC,hB] at h ⊢
 unfold opT at h ⊢
 cases ho:o.op <;> rw [ho] at h <;> try exact h.elim
 rename_i t p y
 simp only at h ⊢
 obtain ⟨ty,h,b1⟩:=Point.ty _ _ h
 obtain ⟨pv,h,b2⟩:=Point.ev _ _ _ h
 obtain ⟨v,h,b3⟩:=Point.ev _ _ _ h
 obtain ⟨vs,h,b4⟩:=Point.cells _ _ h
 cases hb:Nat.beq ((vs.map width).sum) ty.size&&vs.all nonilB with
 | false=>rw [hb] at h; exact h.elim
 | true =>
  rw [hb] at h
  cases pv with
  | own d q =>
   simp only at h
   rw [findK_eq] at h
   cases hl:lookA st.seg d with
   | none=>rw [hl] at h; exact h.elim
   | some ao =>
    rw [hl] at h
    cases ao with
    | cells cs =>
     simp only at h
     obtain ⟨cs',h,b5⟩:=Point.write _ _ _ _ h
     rw [putK_eq,hd] at h
     refine ⟨_,h,fun st' x' K' hs hseg hK=>?_⟩
     have he:∀ z∈o.op.operands,∀ K,evK st'.tmps z K=evK st.tmps z K:=fun z hz K=>evK_same hs (fun t e=>looksAt_op hz t e) K
     rw [ho] at he
     simp only [he p (by simp [Op.operands]),he y (by simp [Op.operands])]
     refine b1 _ (b2 _ (b3 _ (b4 _ ?_)))
     simp only [hb]
     rw [hseg,findK_eq,hl]
     refine b5 _ ?_
     rw [putK_eq,hd]
     exact hK
    | _=>exact h.elim
  | _=>exact h.elim
theorem clsE_spec (h:clsE k o=true):k=3∧o.guard=none∧o.dst=none∧clsA o=false∧clsC o=false∧stB o=true:=by
 unfold clsE at h
 simp only [Bool.and_eq_true,Bool.not_eq_true',Option.isNone_iff_eq_none] at h
 exact ⟨Nat.eq_of_beq_eq_true h.1.1.1.1.1,h.1.1.1.1.2,h.1.1.1.2,h.1.1.2,h.1.2,h.2⟩
theorem stepD_E (hT:clsE k o=true) (h:stepD P ops es k o st x K):∃ (d:Nat) (ao:AO S),memb es d=true∧K { st with seg:=putA st.seg d ao } x ∧
  ∀ (st':St S) (x':X) (K':St S→X→Prop),Same (o.looksAt ops) st.tmps st'.tmps→st'.seg=st.seg→K' { st' with seg:=putA st.seg d ao } x'→stepD P ops es k o st' x' K':=by
 obtain ⟨h1,hg,hd,hA,hC,hB⟩:=clsE_spec hT
 subst h1
 simp only [stepD,guardG,hg,runD,hA,hC,hB] at h ⊢
 unfold opE at h ⊢
 cases ho:o.op <;> rw [ho] at h <;> try exact h.elim
 rename_i t p y
 simp only at h ⊢
 obtain ⟨ty,h,b1⟩:=Point.ty _ _ h
 obtain ⟨pv,h,b2⟩:=Point.ev _ _ _ h
 obtain ⟨v,h,b3⟩:=Point.ev _ _ _ h
 obtain ⟨vs,h,b4⟩:=Point.cells _ _ h
 cases hb:Nat.beq ((vs.map width).sum) ty.size&&vs.all nonilB with
 | false=>rw [hb] at h; exact h.elim
 | true =>
  rw [hb] at h
  cases pv with
  | own d q =>
   simp only at h
   cases hm:memb es d with
   | false=>rw [hm] at h; exact h.elim
   | true =>
   rw [hm] at h
   simp only at h
   rw [findK_eq] at h
   cases hl:lookA st.seg d with
   | none=>rw [hl] at h; exact h.elim
   | some ao =>
    rw [hl] at h
    cases ao with
    | cells cs =>
     simp only at h
     obtain ⟨cs',h,b5⟩:=Point.write _ _ _ _ h
     rw [putK_eq,hd] at h
     refine ⟨d,.cells cs',hm,h,fun st' x' K' hs hseg hK=>?_⟩
     have he:∀ z∈o.op.operands,∀ K,evK st'.tmps z K=evK st.tmps z K:=fun z hz K=>evK_same hs (fun t e=>looksAt_op hz t e) K
     rw [ho] at he
     simp only [he p (by simp [Op.operands]),he y (by simp [Op.operands])]
     refine b1 _ (b2 _ (b3 _ (b4 _ ?_)))
     simp only [hb,hm]
     rw [hseg,findK_eq,hl]
     refine b5 _ ?_
     rw [putK_eq,hd]
     exact hK
    | _=>exact h.elim
  | _=>exact h.elim
def SegOff (es:List Nat) (sg sg':List (Nat×AO S)):Prop:=∀ d,memb es d=false→lookA sg' d=lookA sg d
omit [Cod S] in
theorem evK_away {ts:List (AV S)} {y:Operand} {K:AV S→Prop} (h:evK ts y K) (ha:∀ t,y=.tmp t→awayB es (ts.getD t .undef)=true):∃ v,K v∧awayB es v=true∧∀ K':AV S→Prop,K' v→evK ts y K':=by
 cases y with
 | tmp t=>simp only [evK,nthK_eq] at h; exact ⟨_,h,ha t rfl,fun K' hK=>by simp only [evK,nthK_eq]; exact hK⟩
 | const v =>
  obtain ⟨c,h,b⟩:=Point.const v _ h
  refine ⟨c,h,?_,b⟩
  have:constK v fun c'=>c'=c:=b _ rfl
  cases c <;> first | rfl | (exfalso; unfold constK at this; split at this <;> first | exact this | cases this)
 | func f=>exact ⟨_,h,rfl,fun K' hK=>hK⟩
 | global g=>exact h.elim
omit [Cod S] in
theorem slot_away {y:Operand} (hy:y∈o.op.operands) {ts:List (AV S)} (h:((slotsOf o).all fun t=>freeRB 4 es (ts.getD t .undef)&&awayB es (ts.getD t .undef))=true) (t:Nat) (e:y=.tmp t):awayB es (ts.getD t .undef)=true:=by
 have hts:t∈slotsOf o:=List.mem_filterMap.2 ⟨y,by simpa using hy,by subst e; rfl⟩
 exact (Bool.and_eq_true_iff.1 (List.all_eq_true.1 h t hts)).2
theorem opV_off {ts:List (AV S)} {sg sg' up:List (Nat×AO S)} (hoff:SegOff es sg sg') (ha:((slotsOf o).all fun t=>freeRB 4 es (ts.getD t .undef)&&awayB es (ts.getD t .undef))=true) {K:AV S→Prop}
  (hv:opV P o ts sg up K):opV P o ts sg' up K:=by
 unfold opV at hv ⊢
 cases ho:o.op <;> rw [ho] at hv <;> try exact hv.elim
 case load t p =>
  simp only at hv ⊢
  obtain ⟨ty,hv,b1⟩:=Point.ty _ _ hv
  obtain ⟨pv,hv,haw,b2⟩:=evK_away (es:=es) hv fun t e=>slot_away (o:=o) (by rw [ho]; simp [Op.operands]) ha t e
  refine b1 _ (b2 _ ?_)
  cases pv with
  | own d q =>
   have hd:memb es d=false:=by simpa [awayB] using haw
   simp only [loadK] at hv ⊢
   rw [findK_eq] at hv ⊢
   rw [hoff d hd]; exact hv
  | _=>exact hv
 case slice t y lo hi mx =>
  cases mx with
  | some m=>exact hv.elim
  | none =>
   simp only at hv ⊢
   obtain ⟨ty,hv,b1⟩:=Point.ty _ _ hv
   obtain ⟨v,hv,haw,b2⟩:=evK_away (es:=es) hv fun t e=>slot_away (o:=o) (by rw [ho]; simp [Op.operands]) ha t e
   obtain ⟨lv,hv,b3⟩:=Point.optOp _ _ _ hv
   obtain ⟨hv',hv,b4⟩:=Point.optOp _ _ _ hv
   refine b1 _ (b2 _ (b3 _ (b4 _ ?_)))
   cases hk:ty.kind with
   | array ua n =>
    rw [hk] at hv
    cases v with
    | own d q =>
     have hd:memb es d=false:=by simpa [awayB] using haw
     simp only [frzK] at hv ⊢
     rw [findK_eq] at hv ⊢
     rw [hoff d hd]; exact hv
    | _=>exact hv
   | _=>rw [hk] at hv; exact hv
 case call c =>
  simp only at hv ⊢
  cases hc:c.callee with
  | builtin b =>
   rw [hc] at hv
   cases b <;> try exact hv.elim
   case len =>
    simp only at hv ⊢
    obtain ⟨vs,hv,b1⟩:=Point.map (fun a=>Point.ev ts a) _ _ hv
    refine b1 _ ?_
    cases ht:c.argTypes.toList with
    | nil=>rw [ht] at hv; cases vs <;> exact hv.elim
    | cons t tl =>
     rw [ht] at hv
     cases vs with
     | nil=>exact hv.elim
     | cons v vs =>
      cases vs with
      | cons=>exact hv.elim
      | nil=>exact hv
   case min =>
    simp only at hv ⊢
    obtain ⟨vs,hv,b1⟩:=Point.map (fun a=>Point.ev ts a) _ _ hv
    refine b1 _ ?_
    cases vs with
    | nil=>simp only [builtinK] at hv
    | cons v vs=>exact hv
   case max =>
    simp only at hv ⊢
    obtain ⟨vs,hv,b1⟩:=Point.map (fun a=>Point.ev ts a) _ _ hv
    refine b1 _ ?_
    cases vs with
    | nil=>simp only [builtinK] at hv
    | cons v vs=>exact hv
  | value f=>rw [hc] at hv; exact hv.elim
  | _=>rw [hc] at hv; exact hv.elim
 all_goals exact hv
theorem stepD_A1e (hA:clsA o=true) (hk:k=1) (h:stepD P ops es k o st x K):∃ v,K (upd st [] o.dst v) x ∧
  ∀ (st':St S) (x':X) (K':St S→X→Prop),Same (o.looksAt ops) st.tmps st'.tmps→SegOff es st.seg st'.seg→st'.up=st.up→K' (upd st' [] o.dst v) x'→stepD P ops es k o st' x' K':=by
 subst hk
 rcases guardG_cases (run:=fun st x K=>runD P es 1 o st x fun v st' x'=>K (putSt st' o.dst v) x') h with ⟨h,hb⟩ | ⟨h,hb⟩
 ·rw [runD_A1 hA (by omega) (by omega)] at h
  cases hsl:(slotsOf o).all fun t=>freeRB 4 es (st.tmps.getD t .undef)&&awayB es (st.tmps.getD t .undef) with
  | false=>rw [hsl] at h; exact h.elim
  | true =>
   rw [hsl] at h
   simp only at h
   obtain ⟨v,h,b⟩:=opV_point _ _ _ _ _ h
   cases hv:freeRB 4 es v with
   | false=>rw [hv] at h; exact h.elim
   | true =>
    rw [hv] at h
    refine ⟨v,h,fun st' x' K' hs hoff hup hK=>hb st' x' K' hs.toG ?_⟩
    have hsl':(slotsOf o).all (fun t=>freeRB 4 es (st'.tmps.getD t .undef)&&awayB es (st'.tmps.getD t .undef))=true:=by
     rw [List.all_eq_true] at hsl ⊢
     intro t ht
     have:=hsl t ht
     rw [hs t (slots_looks ht)]; exact this
    rw [runD_A1 hA (by omega) (by omega)]
    simp only [hsl']
    rw [hup]
    refine opV_off hoff hsl' (opV_same hs (fun _ _ h _=>h) (b _ ?_))
    simp only [hv]
    exact hK
 exact ⟨_,h,fun st' x' K' hs _ _ hK=>hb st' x' K' hs.toG hK⟩
theorem stepD_slot (hA:clsA o=true) (hs:slotB o=true) (h:stepD P ops es 0 o st x K):∃ v,K (upd st [] o.dst v) x ∧
  ∀ (st':St S) (x':X) (K':St S→X→Prop),Same (o.looksAt ops) st.tmps st'.tmps→K' (upd st' [] o.dst v) x'→stepD P ops es 0 o st' x' K':=by
 rcases guardG_cases (run:=fun st x K=>runD P es 0 o st x fun v st' x'=>K (putSt st' o.dst v) x') h with ⟨h,hb⟩ | ⟨h,hb⟩
 ·simp only [runD,hA] at h
  obtain ⟨v,h,b⟩:=opV_point _ _ _ _ _ h
  refine ⟨v,h,fun st' x' K' hsm hK=>hb st' x' K' hsm.toG ?_⟩
  simp only [runD,hA]
  have e:∀ K,opV P o st'.tmps st'.seg st'.up K=opV P o st'.tmps st.seg st.up K:=fun K=>by
   unfold slotB at hs
   unfold opV
   cases ho:o.op <;> rw [ho] at hs <;> first | rfl | cases hs
  rw [e]
  exact opV_same hsm (fun d ao h _=>h) (b _ hK)
 exact ⟨_,h,fun st' x' K' hsm hK=>hb st' x' K' hsm.toG hK⟩
theorem stepD_M (hM:clsM k o=true) (h:stepD P ops es k o st x K):∃ (e:Nat) (v:AV S) (l:List (Nat×AO S)),memb es e=true∧RowsIn st.seg l∧K (updM st e l o.dst v) x∧st.seg.all (freeROB es)=true ∧
  ∀ (st':St S) (x':X) (K':St S→X→Prop),Same (o.looksAt ops) st.tmps st'.tmps→Sub st.seg st'.seg→st'.seg.all (freeROB es)=true→K' (updM st' e l o.dst v) x'→stepD P ops es k o st' x' K':=by
 obtain ⟨h1,hg,⟨d,hd⟩,hA,hC,hSt,hal⟩:=clsM_spec hM
 subst h1
 simp only [stepD,guardG,hg,runD,hA,hC,hSt,hal] at h ⊢
 unfold opM at h
 cases ho:o.op <;> rw [ho] at h <;> try exact h.elim
 rename_i c
 simp only at h
 cases hc:c.callee with
 | builtin b =>
  rw [hc] at h
  cases b <;> try exact h.elim
  case append =>
   simp only at h
   split at h
   ·rename_i t t' tl y z ht hargs
    have he:∀ y'∈c.args.toList,∀ {ts'},Same (o.looksAt ops) st.tmps ts'→∀ K,evK ts' y' K=evK st.tmps y' K:=fun y' hy' ts' hs K=>evK_same hs (fun t e=>looksAt_op (by rw [ho]; simp [Op.operands,Call.operands,hc]; simpa using hy') t e) K
    rw [hargs] at he
    obtain ⟨s,h,b1⟩:=Point.ev _ _ _ h
    obtain ⟨v,h,b2⟩:=Point.ev _ _ _ h
    obtain ⟨ty,h,b3⟩:=Point.ty _ _ h
    obtain ⟨ty',h,b4⟩:=Point.ty _ _ h
    split at h
    ·rename_i u _ _ _ _ _ hk hk'
     cases s with
     | sl us xs oo =>
      cases oo with
      | none=>exact h.elim
      | some e =>
       simp only at h
       cases hb:memb es e&&st.seg.all (freeROB es) with
       | false=>rw [hb] at h; exact h.elim
       | true =>
        rw [hb] at h
        have hb':=hb
        simp only [Bool.and_eq_true] at hb'
        obtain ⟨xs',h,b5⟩:=Point.cast _ _ h
        obtain ⟨ys,h,b6⟩:=Point.more _ _ _ h
        obtain ⟨hle,h⟩:=h
        rw [findK_eq] at h
        cases hl:lookA st.seg e with
        | none=>rw [hl] at h; exact h.elim
        | some ao =>
         rw [hl] at h
         cases ao with
         | row u' f =>
          simp only at h
          cases hu:Cod.ueq u' u with
          | isFalse hne=>rw [hu] at h; exact h.elim
          | isTrue heq =>
           rw [hu] at h
           cases f with
           | true=>exact h.elim
           | false =>
            simp only at h
            rw [letAllK_free hb'.1 hb'.2] at h
            simp only [putK_eq] at h
            refine ⟨e,.sl u (xs'++ys) (some e),[(e,.row u false)],hb'.1,fun p hp=>by obtain rfl:=List.mem_singleton.1 hp; exact ⟨⟨_,_,rfl⟩,_,_,hl⟩,h,hb'.2,fun st' x' K' hs hseg hfr hK=>?_⟩
            unfold opM
            rw [ho]
            simp only [hc,ht,hargs]
            simp only [he y (by simp) hs,he z (by simp) hs]
            refine b1 _ (b2 _ (b3 _ (b4 _ ?_)))
            simp only [hk,hk',hfr,hb'.1,Bool.and_self]
            refine b5 _ (b6 _ ⟨hle,?_⟩)
            rw [findK_eq,hseg _ _ hl]
            simp only [hu]
            rw [letAllK_free hb'.1 hfr]
            simp only [putK_eq]
            exact hK
         | cells cs=>exact h.elim
         | frz cs=>exact h.elim
         | mp kvs=>exact h.elim
         | mpz ks us=>exact h.elim
     | _=>exact h.elim
    exact h.elim
   exact h.elim
 | value f=>rw [hc] at h; exact h.elim
 | _=>rw [hc] at h; exact h.elim
omit [Cod S] in
theorem Alike.refl (d:Nat) (sg:List (Nat×AO S)):Alike d sg sg:=fun _ _=>rfl
omit [Cod S] in
theorem NewIn.alike {d e:Nat} {sg l:List (Nat×AO S)} (h:NewIn e sg l) (hne:e % 1000≠d % 1000):Alike d sg (putsA sg l):=fun k hk=>by
 rw [lookA_putsA_ne fun p hp hpk=>hne (by rw [←(h p hp).2,hpk,hk])]
omit [Cod S] in
theorem RowsIn.alike {d:Nat} {sg l:List (Nat×AO S)} (h:RowsIn sg l):Alike d sg (putsA sg l):=fun k _=>by
 by_cases hr:∃ u f,lookA sg k=some (.row u f)
 ·obtain ⟨u,f,h1⟩:=hr
  obtain ⟨u',f',h2⟩:=(lookA_putsA_row h).2 ⟨u,f,h1⟩
  rw [h1,h2]; rfl
 rw [lookA_putsA_ne fun p hp hpk=>hr (by obtain ⟨u,f,h1⟩:=(h p hp).2; exact ⟨u,f,hpk ▸ h1⟩)]
omit [Cod S] in
theorem Alike.symm {d:Nat} {sg sg':List (Nat×AO S)} (h:Alike d sg sg'):Alike d sg' sg:=fun k hk=>(h k hk).symm
theorem clsH_spec (h:clsH k o=true):k=2∧o.guard=none∧(∃ d,o.dst=some d)∧clsC o=true:=by
 unfold clsH at h
 simp only [Bool.and_eq_true] at h
 exact ⟨Nat.eq_of_beq_eq_true h.1.1.1,by simpa using h.1.1.2,Option.isSome_iff_exists.1 h.1.2,h.2⟩
theorem stepD_H (hm:CallOk P) (hH:clsH k o=true) (h:stepD P ops es k o st x K):lookA st.seg (o.dst.getD 0)=none∧∃ (l:List (Nat×AO S)) (T:(AV S→Prop)→Prop),RowsIn st.seg l∧(∀ Q Q':AV S→Prop,(∀ r,Q r→Q' r)→T Q→T Q')∧(∀ Q,T Q→∃ r,Q r) ∧
  T (fun r=>K (upd st (l++newR (o.dst.getD 0) r) o.dst r) x) ∧
  ∀ (st':St S) (x':X) (K':St S→X→Prop),Same (o.looksAt ops) st.tmps st'.tmps→Sub st.seg st'.seg→lookA st'.seg (o.dst.getD 0)=none→T (fun r=>K' (upd st' (l++newR (o.dst.getD 0) r) o.dst r) x')→stepD P ops es k o st' x' K':=by
 obtain ⟨hk,hg,⟨d,hd⟩,hC⟩:=clsH_spec hH
 subst hk
 have hA:clsA o=false:=by
  unfold clsC at hC
  unfold clsA
  cases ho:o.op <;> rw [ho] at hC <;> try cases hC
  rename_i c
  simp only at hC ⊢
  cases hc:c.callee with
  | value f=>simp only
  | _=>rw [hc] at hC <;> cases hC
 simp only [stepD,guardG,hg,runD,hA,hC] at h ⊢
 cases ho:o.op <;> rw [ho] at h <;> try exact h.elim
 rename_i c
 obtain ⟨hn,g,all,l,kp,h1,h2,h3⟩:=callH_form hm h
 refine ⟨hn,l,fun Q=>P.call g all fun r=>(kp r∧IsH (o.dst.getD 0) r)∧Q r,h1,fun Q Q' hq h=>hm.mono g all _ _ (fun r hr=>⟨hr.1,hq r hr.2⟩) h,fun Q h=>(hm.wit g all _ h).imp fun r hr=>hr.2,h2,fun st' x' K' hs hsub hn' hK=>?_⟩
 exact h3 st' x' _ ho hs hsub hn' hK
theorem swap_spec {ls ms:List Nat} {i p:Nat} (h:swapB ops ls ms i p=true):∃ o q,ops[i]?=some o∧ops[p]?=some q∧o.apart ops q=true ∧
  ((clsA o=true∧((clsA q=true∧keepB (kindOf ls ms i) q=true∧keepB (kindOf ls ms p) o=true)∨(kindOf ls ms i < 3∧((clsC q=true∧kindOf ls ms p=0)∨clsL (kindOf ls ms p) q=true∨clsS (kindOf ls ms p) q=true))))∨((clsC o=true∧kindOf ls ms i=0)∧clsL (kindOf ls ms p) q=true∧(allocB q=true∨bldB q=true)∧q.guard=none) ∨
   (clsL (kindOf ls ms i) o=true∧clsL (kindOf ls ms p) q=true∧o.dst.getD 0 % 1000≠q.dst.getD 0 % 1000)∨(clsA o=true∧kindOf ls ms i=1∧clsM (kindOf ls ms p) q=true)∨(clsA o=true∧kindOf ls ms i < 3∧clsH (kindOf ls ms p) q=true)∨(clsH (kindOf ls ms i) o=true∧clsL (kindOf ls ms p) q=true∧allocB q=true∧q.guard=none∧o.dst.getD 0 % 1000≠q.dst.getD 0 % 1000)∨(clsA o=true∧slotB o=true∧kindOf ls ms i=0∧clsT (kindOf ls ms p) q=true)∨(clsA o=true∧kindOf ls ms i=1∧clsE (kindOf ls ms p) q=true)∨(clsA o=true∧kindOf ls ms i < 3∧clsN (kindOf ls ms p) q=true)∨(clsL (kindOf ls ms i) o=true∧clsN (kindOf ls ms p) q=true∧o.dst.getD 0 % 1000≠q.dst.getD 0 % 1000)∨(clsM (kindOf ls ms i) o=true∧clsN (kindOf ls ms p) q=true)):=by
 unfold swapB at h
 cases hi:ops[i]? with
 | none=>rw [hi] at h; simp at h
 | some o =>
  cases hp:ops[p]? with
  | none=>rw [hi,hp] at h; simp at h
  | some q =>
   rw [hi,hp] at h
   simp only [Bool.and_eq_true,Bool.or_eq_true,Bool.not_eq_true'] at h
   refine ⟨o,q,rfl,rfl,h.1,?_⟩
   rcases h.2 with (((((((((⟨h1,⟨⟨h2,h3⟩,h4⟩ | ⟨hk,(⟨h2,h3⟩ | h2) | h2⟩⟩ | ⟨⟨⟨⟨h1,h0⟩,h2⟩,h3⟩,h4⟩) | ⟨⟨h1,h2⟩,h3⟩) | ⟨⟨h1,h2⟩,h3⟩) | ⟨⟨h1,hk⟩,h2⟩) | ⟨⟨⟨⟨h1,h2⟩,h3⟩,h4⟩,h5⟩) | ⟨⟨⟨h1,h2⟩,h3⟩,h4⟩) | ⟨⟨h1,h2⟩,h3⟩) | ⟨⟨h1,hk⟩,h2⟩) | ⟨⟨h1,h2⟩,h3⟩) | ⟨h1,h2⟩
   ·exact .inl ⟨h1,.inl ⟨h2,h3,h4⟩⟩
   ·exact .inl ⟨h1,.inr ⟨(by have h9:=hk; simp [Nat.blt] at h9; omega),.inl ⟨h2,Nat.eq_of_beq_eq_true h3⟩⟩⟩
   ·exact .inl ⟨h1,.inr ⟨(by have h9:=hk; simp [Nat.blt] at h9; omega),.inr (.inl h2)⟩⟩
   ·exact .inl ⟨h1,.inr ⟨(by have h9:=hk; simp [Nat.blt] at h9; omega),.inr (.inr h2)⟩⟩
   ·exact .inr (.inl ⟨⟨h1,Nat.eq_of_beq_eq_true h0⟩,h2,h3,by simpa using h4⟩)
   ·exact .inr (.inr (.inl ⟨h1,h2,fun e=>by rw [e] at h3; simp at h3⟩))
   ·exact .inr (.inr (.inr (.inl ⟨h1,Nat.eq_of_beq_eq_true h2,h3⟩)))
   ·exact .inr (.inr (.inr (.inr (.inl ⟨h1,(by have h9:=hk; simp [Nat.blt] at h9; omega),h2⟩))))
   ·exact .inr (.inr (.inr (.inr (.inr (.inl ⟨h1,h2,h3,by simpa using h4,fun e=>by rw [e] at h5; simp at h5⟩)))))
   ·exact .inr (.inr (.inr (.inr (.inr (.inr (.inl ⟨h1,h2,Nat.eq_of_beq_eq_true h3,h4⟩))))))
   ·exact .inr (.inr (.inr (.inr (.inr (.inr (.inr (.inl ⟨h1,Nat.eq_of_beq_eq_true h2,h3⟩)))))))
   ·exact .inr (.inr (.inr (.inr (.inr (.inr (.inr (.inr (.inl ⟨h1,(by have h9:=hk; simp [Nat.blt] at h9; omega),h2⟩))))))))
   ·exact .inr (.inr (.inr (.inr (.inr (.inr (.inr (.inr (.inr (.inl ⟨h1,h2,fun e=>by rw [e] at h3; simp at h3⟩)))))))))
   exact .inr (.inr (.inr (.inr (.inr (.inr (.inr (.inr (.inr (.inr ⟨h1,h2⟩)))))))))
theorem stepD_swap (hm:CallOk P) {ls ms:List Nat} {i p:Nat} (hi:ops[i]?=some o) (hp:ops[p]?=some q) (hsw:swapB ops ls ms i p=true) (h:stepD P ops es (kindOf ls ms i) o st x fun s y=>stepD P ops es (kindOf ls ms p) q s y K) :
  stepD P ops es (kindOf ls ms p) q st x fun s y=>stepD P ops es (kindOf ls ms i) o s y K:=by
 obtain ⟨o',q',hi',hp',hap,hcase⟩:=swap_spec hsw
 rw [hi] at hi'; cases hi'
 rw [hp] at hp'; cases hp'
 obtain ⟨a1,a2,a3⟩:=Oper.apart_spec hap
 have hso:∀ (l:List (Nat×AO S)) (u:AV S),Same (o.looksAt ops) st.tmps (upd st l q.dst u).tmps:=fun l u=>Same.upd a3
 have hsq:∀ (l:List (Nat×AO S)) (v:AV S),Same (q.looksAt ops) (upd st l o.dst v).tmps st.tmps:=fun l v=>(Same.upd a1).symm
 have hno:∀ m:List (Nat×AO S),∀ p∈([]:List (Nat×AO S)),∀ q∈m,p.1≠q.1:=fun m p hp=>by simp at hp
 rcases hcase with ⟨hA,hq⟩ | ⟨⟨hC,hCi⟩,hL,hal,hqg⟩ | ⟨hLo,hLq,hne⟩ | ⟨hA,hki,hM⟩ | ⟨hA,hk3,hH⟩ | ⟨hH,hL,hal,hqg,hne⟩ | ⟨hA,hSl,hki,hT⟩ | ⟨hA,hki,hE⟩ | ⟨hA,hk3,hN⟩ | ⟨hLo,hN,hne⟩ | ⟨hM,hN⟩
 ·have hsegq0:∀ v,(upd st [] o.dst v).seg=st.seg:=fun v=>upd_seg ..
  rcases hq with ⟨hq,hkq,hko⟩ | ⟨hk3,hq⟩
  ·obtain ⟨v,h,ho⟩:=stepD_A' hA h
   obtain ⟨u,h,hb⟩:=stepD_A' hq h
   refine hb st x _ (hsq [] v) (hsegq0 v).symm (upd_up ..).symm (fun j hj=>(keep_look hko hj).symm) ?_
   exact ho _ x K (hso [] u) (upd_seg ..) (upd_up ..) (fun j hj=>keep_look hkq hj) (by rw [←upd_comm a2 (hno [])]; exact h)
  obtain ⟨v,h,ho,_⟩:=stepD_A hA hk3 h
  have hend:∀ (l:List (Nat×AO S)) (u:AV S) (y:X),SegLe st.seg (putsA st.seg l)→K (upd (upd st [] o.dst v) l q.dst u) y→stepD P ops es (kindOf ls ms i) o (upd st l q.dst u) y K:=fun l u y hle hK =>
   ho _ y K (hso l u) (by rw [upd_seg]; exact hle) (upd_up ..) (by rw [←upd_comm a2 (hno l)]; exact hK)
  have hsegq:(upd st [] o.dst v).seg=st.seg:=upd_seg ..
  rcases hq with hq | hq | hq
  ·obtain ⟨l,T,h1,h2,h3,h4,h5⟩:=stepD_C hm hq.1 hq.2 h
   rw [hsegq] at h1 h5
   exact h5 st x _ (hsq [] v) (fun _ _ h=>h) (h2 _ _ (fun r hr=>hend l r x h1.segLe hr) h4)
  ·obtain ⟨u,l,h1,h2,h3⟩:=stepD_L hq h
   rw [hsegq] at h1 h3
   exact h3 st x _ (hsq [] v) (Alike.refl _ _) (hend l u x h1.sub.segLe h2)
  obtain ⟨h2,h3⟩:=stepD_S hq h
  rw [hsegq] at h3
  exact h3 st x _ (hsq [] v) rfl (hend [] _ x (fun d ao h _=>h) h2)
 ·obtain ⟨l,T,h1,h2,h3,h4,h5⟩:=stepD_C hm hC hCi h
  obtain ⟨r0,h6⟩:=h3 _ h4
  obtain ⟨v,m,h7,h8⟩:=stepD_det hL hal hqg h6
  rw [upd_seg] at h7 h8
  have hal1:Alike (q.dst.getD 0) (putsA st.seg l) st.seg:=h1.alike.symm
  have h7':NewIn (q.dst.getD 0) st.seg m:=fun p hp=>⟨hal1.none (h7 p hp).2 (h7 p hp).1,(h7 p hp).2⟩
  refine (h8 st x _ (hsq l r0) hal1).2 (h5 _ x _ (hso m v) (by rw [upd_seg]; exact h7'.sub) (h2 _ _ (fun r hr=>?_) h4))
  have hK:=(h8 (upd st l o.dst r) x K (fun t ht=>(hsq l r t ht).symm.trans (hsq l r0 t ht)) (by rw [upd_seg]; exact Alike.refl _ _)).1 hr
  rw [upd_comm (fun t ht e=>a2 t e ht) (fun p hp p' hp' e=>?_)]
  ·exact hK
  obtain ⟨u,f,h9⟩:=(h1 p' hp').2
  exact h7'.ne h9 p hp e
 ·obtain ⟨v,l,h1,h2,h3⟩:=stepD_L hLo h
  obtain ⟨u,m,h4,h5,h6⟩:=stepD_L hLq h2
  rw [upd_seg] at h4 h6
  have hal1:Alike (q.dst.getD 0) (putsA st.seg l) st.seg:=(h1.alike hne).symm
  have h4':NewIn (q.dst.getD 0) st.seg m:=fun p hp=>⟨hal1.none (h4 p hp).2 (h4 p hp).1,(h4 p hp).2⟩
  refine h6 st x _ (hsq l v) hal1 (h3 _ x K (hso m u) (by rw [upd_seg]; exact h4'.alike fun e=>hne e.symm) ?_)
  rw [←upd_comm a2 fun p hp p' hp' e=>hne (by rw [←(h1 p hp).2,e,(h4 p' hp').2])]
  exact h5
 ·obtain ⟨v,h,_,ho⟩:=stepD_A hA (by rw [hki]; decide) h
  obtain ⟨hfv,ho⟩:=ho (by rw [hki]; simp)
  obtain ⟨e,u,l,h1,h2,h3,hfr,h4⟩:=stepD_M hM h
  have hsegq:(upd st [] o.dst v).seg=st.seg:=upd_seg ..
  rw [hsegq] at h2 h4 hfr
  refine h4 st x _ (hsq [] v) (fun _ _ h=>h) hfr (ho _ x K e h1 (fun t ht=>?_) (by simp only [updM,upd_seg]; exact h2.segLe) (by simp only [updM,upd_up]) ?_)
  ·have:t ∉ []:=by simp
   have hs:Same (o.looksAt ops) (st.tmps.map (letF 4 [e])) (updM st e l q.dst u).tmps:=Same.upd (st:={ st with tmps:=st.tmps.map (letF 4 [e]) }) a3
   rw [hs t ht,getD_map]
  rw [←updM_comm a2 (letF_free 4 v h1 hfv)]
  exact h3
 ·obtain ⟨v,h,ho,_⟩:=stepD_A hA hk3 h
  have hsegq:(upd st [] o.dst v).seg=st.seg:=upd_seg ..
  obtain ⟨hn,l,T,h1,h2,h3,h4,h5⟩:=stepD_H hm hH h
  rw [hsegq] at hn h1 h5
  refine h5 st x _ (hsq [] v) (fun _ _ h=>h) hn (h2 _ _ (fun r hr=>?_) h4)
  have hle:SegLe st.seg (putsA st.seg (l++newR (q.dst.getD 0) r)):=fun k ao hk hr=>by
   rw [putsA_append]; exact (newR_in (h1.none hn)).sub.segLe k ao (h1.segLe k ao hk hr) hr
  exact ho _ x K (hso _ r) (by rw [upd_seg]; exact hle) (upd_up ..) (by rw [←upd_comm a2 (hno _)]; exact hr)
 ·obtain ⟨hn,l,T,h1,h2,h3,h4,h5⟩:=stepD_H hm hH h
  obtain ⟨r0,h6⟩:=h3 _ h4
  obtain ⟨v,m,h7,h8⟩:=stepD_alloc hL hal hqg h6
  rw [upd_seg] at h7 h8
  have halr:∀ r,Alike (q.dst.getD 0) st.seg (putsA st.seg (l++newR (o.dst.getD 0) r)):=fun r k hk=>by
   rw [putsA_append,(newR_in (h1.none hn)).alike hne k hk,h1.alike k hk]
  have h7':NewIn (q.dst.getD 0) st.seg m:=fun p hp=>⟨(halr r0).symm.none (h7 p hp).2 (h7 p hp).1,(h7 p hp).2⟩
  refine (h8 st x _ (halr r0).symm).2 (h5 _ x _ (hso m v) (by rw [upd_seg]; exact h7'.sub) ?_ (h2 _ _ (fun r hr=>?_) h4))
  ·rw [upd_seg,lookA_putsA_ne fun p hp e=>hne (by rw [←(h7' p hp).2,e])]; exact hn
  have hK:=(h8 (upd st (l++newR (o.dst.getD 0) r) o.dst r) x K (by rw [upd_seg]; exact fun k hk=>by rw [halr r k hk,←halr r0 k hk])).1 hr
  rw [upd_comm (fun t ht e=>a2 t e ht) (fun p hp p' hp' e=>?_)]
  ·exact hK
  rcases List.mem_append.1 hp' with hp' | hp'
  ·obtain ⟨u,f,h9⟩:=(h1 p' hp').2
   exact h7'.ne h9 p hp e
  exact hne (by rw [←(newR_in (h1.none hn) p' hp').2,←e,(h7' p hp).2])
 ·rw [hki] at h ⊢
  obtain ⟨v,h,ho⟩:=stepD_slot hA hSl h
  obtain ⟨sg,h2,hb⟩:=stepD_T hT h
  refine hb st x _ (hsq [] v) (by rw [upd_seg]; rfl) (ho _ x K (fun _ _=>rfl) ?_)
  have e:({ upd st [] o.dst v with seg:=sg }:St S)=upd { st with seg:=sg } [] o.dst v:=by cases hd:o.dst <;> rfl
  rw [←e]
  exact h2
 ·obtain ⟨v,h,ho⟩:=stepD_A1e hA hki h
  obtain ⟨d,ao,hd,h2,hb⟩:=stepD_E hE h
  have hsegq:(upd st [] o.dst v).seg=st.seg:=upd_seg ..
  rw [hsegq] at h2 hb
  refine hb st x _ (hsq [] v) rfl (ho _ x K (fun _ _=>rfl) (fun k hk=>?_) rfl ?_)
  ·rw [lookA_putA,if_neg]; rintro rfl; rw [hd] at hk; cases hk
  have e:({ upd st [] o.dst v with seg:=putA st.seg d ao }:St S)=upd { st with seg:=putA st.seg d ao } [] o.dst v:=by cases hd:o.dst <;> rfl
  rw [←e]
  exact h2
 ·obtain ⟨v,h,ho,_⟩:=stepD_A hA hk3 h
  have hsegq:(upd st [] o.dst v).seg=st.seg:=upd_seg ..
  obtain ⟨l,h1,hfr,h2,h3⟩:=stepD_N hN h
  rw [hsegq] at h1 hfr h3
  exact h3 st x _ (Alike.refl _ _) hfr (ho _ x K (hso l _) (by rw [upd_seg]; exact h1.sub.segLe) (upd_up ..) (by rw [←upd_comm a2 (hno l)]; exact h2))
 ·obtain ⟨v,l,h1,h2,h3⟩:=stepD_L hLo h
  obtain ⟨m,h4,hfr,h5,h6⟩:=stepD_N hN h2
  rw [upd_seg] at h4 h6 hfr
  have hal1:Alike (q.dst.getD 0) (putsA st.seg l) st.seg:=(h1.alike hne).symm
  have h4':NewIn (q.dst.getD 0) st.seg m:=fun p hp=>⟨hal1.none (h4 p hp).2 (h4 p hp).1,(h4 p hp).2⟩
  have hd:∀ p∈l,∀ p'∈m,p.1≠p'.1:=fun p hp p' hp' e=>hne (by rw [←(h1 p hp).2,e,(h4' p' hp').2])
  refine h6 st x _ hal1 (all_new (l:=l) (fun p hp=>?_) ?_) (h3 _ x K (hso m _) (by rw [upd_seg]; exact h4'.alike fun e=>hne e.symm) ?_)
  ·rw [lookA_putsA_ne fun p' hp' e=>hd p hp p' hp' e.symm]; exact (h1 p hp).1
  ·rw [←putsA_comm hd]; exact hfr
  rw [←upd_comm a2 hd]
  exact h5
 obtain ⟨e,v,l,he,h1,h2,hf0,h3⟩:=stepD_M hM h
 obtain ⟨m,h4,hfr,h5,h6⟩:=stepD_N hN h2
 have hseg:(updM st e l o.dst v).seg=putsA st.seg l:=by simp only [updM,upd_seg]
 rw [hseg] at h4 h6 hfr
 have hal1:Alike (q.dst.getD 0) (putsA st.seg l) st.seg:=h1.alike.symm
 have h4':NewIn (q.dst.getD 0) st.seg m:=fun p hp=>⟨hal1.none (h4 p hp).2 (h4 p hp).1,(h4 p hp).2⟩
 have hd:∀ p∈l,∀ p'∈m,p.1≠p'.1:=fun p hp p' hp' e'=>by
  obtain ⟨w,f,h9⟩:=(h1 p hp).2
  exact h4'.ne h9 p' hp' e'.symm
 have hr:RowsIn (putsA st.seg m) l:=fun p hp=>⟨(h1 p hp).1,by
  obtain ⟨w,f,h9⟩:=(h1 p hp).2
  exact ⟨w,f,h4'.sub _ _ h9⟩⟩
 have hfm:(putsA st.seg m).all (freeROB es)=true:=all_rows hr (by rw [←putsA_comm hd]; exact hfr)
 refine h6 st x _ hal1 hfm (h3 _ x K (hso m _) (by rw [upd_seg]; exact h4'.sub) (by rw [upd_seg]; exact hfm) ?_)
 rw [updM_comm' a2 rfl fun p hp p' hp' e'=>hd p' hp' p hp e'.symm]
 exact h5
theorem stepD_under (hm:CallOk P) {ls ms:List Nat} {i p:Nat} (hi:ops[i]?=some o) (hsw:swapB ops ls ms i p=true) {K':St S→X→Prop} (hK:∀ s y,K s y→K' s y) (h:stepD P ops es (kindOf ls ms i) o st x K):stepD P ops es (kindOf ls ms i) o st x K':=by
 obtain ⟨o',q',hi',hp',hap,hcase⟩:=swap_spec hsw
 rw [hi] at hi'; cases hi'
 have hA:clsA o=true∨(clsC o=true∧kindOf ls ms i=0)∨clsL (kindOf ls ms i) o=true∨clsH (kindOf ls ms i) o=true∨clsM (kindOf ls ms i) o=true:=by
  rcases hcase with h | h | h | h | h | h | h | h | h | h | h
  ·exact .inl h.1
  ·exact .inr (.inl h.1)
  ·exact .inr (.inr (.inl h.1))
  ·exact .inl h.1
  ·exact .inl h.1
  ·exact .inr (.inr (.inr (.inl h.1)))
  ·exact .inl h.1
  ·exact .inl h.1
  ·exact .inl h.1
  ·exact .inr (.inr (.inl h.1))
  exact .inr (.inr (.inr (.inr h.1)))
 rcases hA with hA | ⟨hC,hCi⟩ | hL | hH | hM
 ·obtain ⟨v,h,hb⟩:=stepD_A' hA h
  exact hb st x _ (fun _ _=>rfl) rfl rfl (fun _ _=>rfl) (hK _ _ h)
 ·obtain ⟨l,T,h1,h2,h3,h4,h5⟩:=stepD_C hm hC hCi h
  exact h5 st x _ (fun _ _=>rfl) (fun _ _ h=>h) (h2 _ _ (fun r hr=>hK _ _ hr) h4)
 ·obtain ⟨u,l,h1,h2,h3⟩:=stepD_L hL h
  exact h3 st x _ (fun _ _=>rfl) (Alike.refl _ _) (hK _ _ h2)
 ·obtain ⟨hn,l,T,h1,h2,h3,h4,h5⟩:=stepD_H hm hH h
  exact h5 st x _ (fun _ _=>rfl) (fun _ _ h=>h) hn (h2 _ _ (fun r hr=>hK _ _ hr) h4)
 obtain ⟨e,v,l,he,h1,h2,hf0,h3⟩:=stepD_M hM h
 exact h3 st x _ (fun _ _=>rfl) (fun _ _ h=>h) hf0 (hK _ _ h2)
def SeqD (P:Par S X) (ops:Array Oper) (ls ms es:List Nat) (K:St S→X→Prop):List Nat→St S→X→Prop
 | [],st,x=>K st x
 | i :: r,st,x=>∃ o,ops[i]?=some o∧stepD P ops es (kindOf ls ms i) o st x (SeqD P ops ls ms es K r)
theorem SeqD.front (hm:CallOk P) {ls ms:List Nat} {p:Nat} {post:List Nat}:∀ {pre:List Nat} {st:St S} {x:X},(∀ i∈pre,swapB ops ls ms i p=true)→SeqD P ops ls ms es K (pre++p :: post) st x→SeqD P ops ls ms es K (p :: (pre++post)) st x
 | [],_,_,_,h=>h
 | i :: pre,st,x,hs,h=>by
  obtain ⟨o,hi,h⟩:=h
  have hsw:=hs i (List.mem_cons_self ..)
  obtain ⟨_,q,_,hp,_⟩:=swap_spec hsw
  have h':stepD P ops es (kindOf ls ms i) o st x fun s y=>stepD P ops es (kindOf ls ms p) q s y (SeqD P ops ls ms es K (pre++post)) :=
   stepD_under hm hi hsw (fun s y h=>by
    obtain ⟨q',hq',h⟩:=SeqD.front hm (pre:=pre) (fun j hj=>hs j (List.mem_cons_of_mem _ hj)) h
    rw [hp] at hq'; cases hq'
    exact h) h
  refine ⟨q,hp,?_⟩
  have e:SeqD P ops ls ms es K (i :: pre++post)=fun s y=>stepD P ops es (kindOf ls ms i) o s y (SeqD P ops ls ms es K (pre++post)):=by
   funext s y
   simp [SeqD,hi]
  rw [e]
  exact stepD_swap hm hi hp hsw h'
end Go.Ab
namespace Go.Ab
open Go
variable {S:Sig} [Cod S] {X:Type}
theorem ancOf_go {A:List Nat} {i:Nat}:∀ {l:List Edge},Nat.testBit (ancOf.go A l) i=true→∃ e∈l,Region.binds .any e=true∧(e.on=i∨Nat.testBit (A.getD e.on 0) i=true)
 | [],h=>by simp [ancOf.go] at h
 | e :: l,h=>by
  simp only [ancOf.go] at h
  cases hb:Region.binds .any e with
  | false =>
   rw [hb] at h
   obtain ⟨e',he',h'⟩:=ancOf_go (l:=l) h
   exact ⟨e',List.mem_cons_of_mem _ he',h'⟩
  | true =>
   rw [hb] at h
   simp only at h
   have h':Nat.testBit (ancOf.go A l ||| (A.getD e.on 0 ||| 2 ^ e.on)) i=true:=h
   rw [Nat.testBit_or,Nat.testBit_or,Nat.testBit_two_pow] at h'
   simp only [Bool.or_eq_true,decide_eq_true_eq] at h'
   rcases h' with h' | h' | h'
   ·obtain ⟨e',he',h'⟩:=ancOf_go (l:=l) h'
    exact ⟨e',List.mem_cons_of_mem _ he',h'⟩
   ·exact ⟨e,List.mem_cons_self ..,hb,.inr h'⟩
   exact ⟨e,List.mem_cons_self ..,hb,.inl h'⟩
theorem memb_iff {l:List Nat} {d:Nat}:memb l d=true↔d∈l:=by
 induction l with
 | nil=>simp [memb]
 | cons a l ih =>
  simp only [memb]
  cases hb:Nat.beq a d with
  | true=>simp [Nat.eq_of_beq_eq_true hb]
  | false =>
   have hne:d≠a:=fun e=>by subst e; simp at hb
   simp [ih,hne]
theorem nodupB_iff {l:List Nat} (h:nodupB l=true):l.Nodup:=by
 induction l with
 | nil=>exact List.nodup_nil
 | cons a l ih =>
  simp only [nodupB,Bool.and_eq_true,Bool.not_eq_true'] at h
  refine List.nodup_cons.2 ⟨fun hm=>?_,ih h.2⟩
  rw [memb_iff.2 hm] at h
  simp at h
theorem pairB_iff {ops:Array Oper} {ls ms A:List Nat} {l:List Nat} (h:pairB ops ls ms A l=true):l.Pairwise fun i p=>okB ops ls ms A i p=true:=by
 induction l with
 | nil=>exact List.Pairwise.nil
 | cons a l ih =>
  simp only [pairB,Bool.and_eq_true,List.all_eq_true] at h
  exact List.Pairwise.cons h.1 (ih h.2)
variable {gl:Gl} {En:Env X} {P:Program} {par:Par S X} {ro:Option Nat} {n:Nat}
structure DrawInv (ops:Array Oper) (ls ms A:List Nat) (c:List Nat) (listed:Array Bool):Prop where
 sz:listed.size=ops.size
 mem:∀ i,i < ops.size→(listed.getD i true=false↔i∈c)
 nd:c.Nodup
 pw:c.Pairwise fun i p=>okB ops ls ms A i p=true
 self:∀ i∈c,selfB ops A i=true
 cl:∀ j,listed.getD j false=true→∀ i,Nat.testBit (A.getD j 0) i=true→listed.getD i false=true
theorem getD_tf {l:Array Bool} {i:Nat} (h:i < l.size):l.getD i true=l.getD i false:=by simp [Array.getD,h]
theorem selfB_spec {ops:Array Oper} {A:List Nat} {i:Nat} (h:selfB ops A i=true):∃ o,ops[i]?=some o∧A.getD i 0=ancOf A o∧edgeB i i ops=false∧∀ e∈o.after.toList,e.on < ops.size:=by
 unfold selfB at h
 cases ho:ops[i]? with
 | none=>rw [ho] at h; simp at h
 | some o =>
  rw [ho] at h
  simp only [Bool.and_eq_true,Bool.not_eq_true',List.all_eq_true] at h
  obtain ⟨⟨h1,h2⟩,h3⟩:=h
  exact ⟨o,rfl,Nat.eq_of_beq_eq_true h1,h2,fun e he=>Nat.le_of_ble_eq_true (h3 e he)⟩
theorem mem_ready {ops:Array Oper} {listed:Array Bool} {p:Nat}:p∈Region.ready .any ops listed↔p < ops.size∧listed.getD p true=false∧∃ o,ops[p]?=some o∧∀ e∈o.after.toList,Region.binds .any e=true→listed.getD e.on false=true:=by
 unfold Region.ready
 rw [List.mem_filter,List.mem_range]
 constructor
 ·rintro ⟨h1,h2⟩
  refine ⟨h1,?_⟩
  simp only [Bool.and_eq_true,Bool.not_eq_true'] at h2
  refine ⟨h2.1,_,Array.getElem?_eq_getElem h1,fun e he hb=>?_⟩
  have h3:=h2.2
  rw [Array.getElem?_eq_getElem h1] at h3
  simp only [Option.map_some,Option.getD_some,Array.all_eq_true_iff_forall_mem] at h3
  have:=h3 e (by simpa using he)
  rw [hb] at this
  simpa using this
 rintro ⟨h1,h2,o,ho,h3⟩
 refine ⟨h1,?_⟩
 rw [h2,ho]
 simp only [Bool.not_false,Option.map_some,Option.getD_some,Bool.true_and,Array.all_eq_true_iff_forall_mem]
 intro e he
 cases hb:Region.binds .any e with
 | false=>rfl
 | true=>simpa using h3 e (by simpa using he) hb
theorem DrawInv.anc {ops:Array Oper} {ls ms A:List Nat} {c:List Nat} {listed:Array Bool} (h:DrawInv ops ls ms A c listed) {p:Nat} (hp:p∈Region.ready .any ops listed) {i:Nat} (hi:Nat.testBit (A.getD p 0) i=true):listed.getD i false=true:=by
 obtain ⟨h1,h2,o,ho,h3⟩:=mem_ready.1 hp
 obtain ⟨o',ho',ha,_,_⟩:=selfB_spec (h.self p ((h.mem p h1).1 h2))
 rw [ho] at ho'; cases ho'
 rw [ha] at hi
 obtain ⟨e,he,hb,h4⟩:=ancOf_go hi
 have h5:=h3 e he hb
 rcases h4 with h4 | h4
 ·rw [←h4]; exact h5
 exact h.cl _ h5 _ h4
theorem DrawInv.next {ops:Array Oper} {ls ms A:List Nat} {pre post:List Nat} {p:Nat} {listed:Array Bool} (h:DrawInv ops ls ms A (pre++p :: post) listed) (hp:p∈Region.ready .any ops listed) :
  DrawInv ops ls ms A (pre++post) (listed.setIfInBounds p true):=by
 have hsub:(pre++post).Sublist (pre++p :: post):=List.Sublist.append (List.Sublist.refl _) (List.sublist_cons_self _ _)
 have hpn:p ∉ pre++post:=by
  have:=h.nd
  rw [List.nodup_append] at this
  obtain ⟨_,h2,h3⟩:=this
  intro hm
  rcases List.mem_append.1 hm with hm | hm
  ·exact h3 p hm p (List.mem_cons_self ..) rfl
  exact (List.nodup_cons.1 h2).1 hm
 have hps:p < listed.size:=by rw [h.sz]; exact (mem_ready.1 hp).1
 have hget:∀ i d,(listed.setIfInBounds p true).getD i d=if p=i then true else listed.getD i d:=fun i d=>by
  by_cases e:p=i
  ·subst e; simp [Array.getD,hps]
  by_cases hi:i < listed.size
  ·simp [Array.getD,e,hi]
  simp [Array.getD,e,hi]
 refine ⟨by simp [h.sz],fun i hi=>?_,h.nd.sublist hsub,h.pw.sublist hsub,fun i hi=>h.self i (hsub.subset hi),fun j hj i hi=>?_⟩
 ·rw [hget]
  by_cases e:p=i
  ·subst e
   simp only [if_true]
   exact ⟨fun h=>by simp at h,fun h=>absurd h hpn⟩
  simp only [e,if_false]
  rw [h.mem i hi]
  simp only [List.mem_append,List.mem_cons]
  have:i≠p:=fun e'=>e e'.symm
  simp [this]
 rw [hget] at hj ⊢
 by_cases e':p=i
 ·simp [e']
 simp only [e',if_false]
 by_cases e:p=j
 ·subst e; exact h.anc hp hi
 simp only [e,if_false] at hj
 exact h.cl j hj i hi
theorem nodup_sub_len:∀ {l m:List Nat},l.Nodup→(∀ a∈l,a∈m)→l.length≤m.length
 | [],_,_,_=>Nat.zero_le _
 | a :: l,m,hn,hs=>by
  obtain ⟨h1,h2⟩:=List.nodup_cons.1 hn
  have ha:=hs a (List.mem_cons_self ..)
  have:=nodup_sub_len (l:=l) (m:=m.erase a) h2 fun b hb=>(List.mem_erase_of_ne (show b≠a from fun e=>h1 (e ▸ hb))).2 (hs b (List.mem_cons_of_mem _ hb))
  rw [List.length_erase_of_mem ha] at this
  have:=List.length_pos_of_mem ha
  simp only [List.length_cons]
  omega
variable [LawCod S]
theorem SeqD_any (hpo:ParOk P gl par En) (hm:CallOk par) {ops:Array Oper} {es ls ms A:List Nat} {Kq:St S→X→Prop} {Q:Exit→Act→World→Prop} {D:List Deferred}
  (hQ:∀ a' w' V' l' st' x',a'.defers=D→Kq st' x'→SR gl En x' w' V' l' a'.tmps st'→Q .normal a' w'):∀ (f:Nat) (c:List Nat) (listed:Array Bool) (a:Act) (w:World) (V:Nat→Nat→Prop) (l:Loc) (st:St S) (x:X),
  c.length=f→DrawInv ops ls ms A c listed→a.defers=D→SR gl En x w V l a.tmps st→SeqD par ops ls ms es Kq c st x→wpAnyIn (Fo ro) n P .any ops Q f listed a w
 | 0,c,listed,a,w,V,l,st,x,hf,hi,hD,hs,h=>by
  have hc:c=[]:=List.eq_nil_of_length_eq_zero hf
  subst hc
  refine ⟨?_,hQ a w V l st x hD h hs⟩
  apply List.eq_nil_iff_forall_not_mem.2
  intro p hp
  obtain ⟨h1,h2,_⟩:=mem_ready.1 hp
  exact absurd ((hi.mem p h1).1 h2) (by simp)
 | f + 1,c,listed,a,w,V,l,st,x,hf,hi,hD,hs,h=>by
  refine ⟨fun hr=>?_,fun p hp=>?_⟩
  ·cases c with
   | nil=>simp at hf
   | cons i c =>
    exfalso
    obtain ⟨o,ho,_,hself,hsz⟩:=selfB_spec (hi.self i (List.mem_cons_self ..))
    have hlt:i < ops.size:=by
     rcases Nat.lt_or_ge i ops.size with h | h
     ·exact h
     rw [Array.getElem?_eq_none h] at ho; cases ho
    have:i∈Region.ready .any ops listed:=mem_ready.2 ⟨hlt,(hi.mem i hlt).2 (List.mem_cons_self ..),o,ho,fun e he hb=>by
     have hes:=hsz e he
     have hne:¬ e.on∈i :: c:=fun hm=>by
      have hedge:edgeB i e.on ops=true:=by
       unfold edgeB
       rw [ho]
       simp only [List.any_eq_true,Bool.and_eq_true]
       exact ⟨e,he,hb,by simp⟩
      rcases List.mem_cons.1 hm with hm | hm
      ·rw [hm,hself] at hedge; cases hedge
      have:=(List.pairwise_cons.1 hi.pw).1 _ hm
      unfold okB at this
      rw [hedge] at this
      simp at this
     rw [←getD_tf (by rw [hi.sz]; exact hes)]
     cases hv:listed.getD e.on true with
     | true=>rfl
     | false=>exact absurd ((hi.mem _ hes).1 hv) hne⟩
    rw [hr] at this
    simp at this
  obtain ⟨h1,h2,_⟩:=mem_ready.1 hp
  obtain ⟨pre,post,rfl⟩:=List.append_of_mem ((hi.mem p h1).1 h2)
  have hsw:∀ i∈pre,swapB ops ls ms i p=true:=fun i him=>by
   have hok:okB ops ls ms A i p=true:=(List.pairwise_append.1 hi.pw).2.2 i him p (List.mem_cons_self ..)
   unfold okB at hok
   simp only [Bool.and_eq_true,Bool.or_eq_true] at hok
   rcases hok.1 with h3 | h3
   ·exfalso
    have h4:=hi.anc hp h3
    obtain ⟨oi,hoi,_,_,_⟩:=selfB_spec (hi.self i (List.mem_append_left _ him))
    have hlt:i < ops.size:=by
     rcases Nat.lt_or_ge i ops.size with h | h
     ·exact h
     rw [Array.getElem?_eq_none h] at hoi; cases hoi
    have h5:=(hi.mem i hlt).2 (List.mem_append_left _ him)
    rw [getD_tf (by rw [hi.sz]; exact hlt),h4] at h5
    cases h5
   exact h3
  obtain ⟨o,ho,h⟩:=SeqD.front hm hsw h
  by_cases h3:clsA o=true∧3≤kindOf ls ms p
  ·have hX:stepX par (lookJ (kindOf ls ms p)) ops o st x (SeqD par ops ls ms es Kq (pre++post)):=by
    unfold stepD at h
    simp only [runD_X h3.1 h3.2] at h
    exact h
   refine stepX_sound hpo (Kq:=SeqD par ops ls ms es Kq (pre++post)) (D:=D) (fun a' w' V' l' st' x' hD' hK hs'=>?_) ho hD hs hX
   exact SeqD_any hpo hm hQ f (pre++post) _ a' w' V' l' st' x' (by simp at hf ⊢; omega) (hi.next hp) hD' hs' hK
  refine stepW_sound hpo (Kq:=SeqD par ops ls ms es Kq (pre++post)) (D:=D) (fun a' w' V' l' st' x' hD' hK hs'=>?_) ho hD hs (stepD_stepW hm h3 h)
  exact SeqD_any hpo hm hQ f (pre++post) _ a' w' V' l' st' x' (by simp at hf ⊢; omega) (hi.next hp) hD' hs' hK
theorem draw_region (hpo:ParOk P gl par En) (hm:CallOk par) (hmix:P.follows .mixedOrders=true) {id:Nat} {ops:Array Oper} {ls ms es c:List Nat} (hc:drawB ops ls ms c=true) {Kq:St S→X→Prop} {Q:Exit→Act→World→Prop} {D:List Deferred}
  (hQ:∀ a' w' V' l' st' x',a'.defers=D→Kq st' x'→SR gl En x' w' V' l' a'.tmps st'→Q .normal a' w')
  {a:Act} {w:World} {V:Nat→Nat→Prop} {l:Loc} {st:St S} {x:X} (hD:a.defers=D) (hs:SR gl En x w V l a.tmps st) (h:SeqD par ops ls ms es Kq c st x):(Code.region id ops true).wpIn (Fo ro) n P Q a w:=by
 unfold drawB at hc
 simp only [Bool.and_eq_true,List.all_eq_true] at hc
 obtain ⟨⟨⟨h1,h2⟩,h3⟩,h4⟩:=hc
 have hlen:=Nat.eq_of_beq_eq_true h1
 have hnd:=nodupB_iff h2
 have hlt:∀ i∈c,i < ops.size:=fun i hi=>by
  obtain ⟨o,ho,_⟩:=selfB_spec (h3 i hi)
  rcases Nat.lt_or_ge i ops.size with h | h
  ·exact h
  rw [Array.getElem?_eq_none h] at ho; cases ho
 have hall:∀ i,i < ops.size→i∈c:=fun i hi=>by
  apply Classical.byContradiction
  intro hn
  have:=nodup_sub_len hnd (m:=(List.range ops.size).erase i) fun j hj=>(List.mem_erase_of_ne (show j≠i from fun e=>hn (e ▸ hj))).2 (List.mem_range.2 (hlt j hj))
  rw [List.length_erase_of_mem (List.mem_range.2 hi),List.length_range] at this
  omega
 refine wpIn_region_any hmix (SeqD_any hpo hm hQ _ c _ a _ V l st x hlen ⟨by simp,fun i hi=>?_,hnd,pairB_iff h4,h3,fun j hj i hi=>?_⟩ hD
  (hs.grow (w':={ w with drawn:=w.drawn+1 }) ⟨rfl,rfl,rfl,Nat.le_refl _,fun _ _=>rfl⟩ (fun _ _ h=>h) fun _ _ h=>.inl h) h)
 ·simp [Array.getD,hi,hall i hi]
 exfalso
 by_cases hj':j < ops.size <;> simp [Array.getD,hj'] at hj
omit [Cod S] [LawCod S] in
theorem set_sameL {l:List (AV S)} {d:Nat}:l.set d (l.getD d .undef)=l:=by
 apply List.ext_getElem?
 intro i
 rw [List.getElem?_set]
 by_cases h:d=i
 ·subst h
  by_cases h2:d < l.length
  ·simp [h2,List.getD_eq_getElem?_getD]
  simp [h2]
 simp [h]
omit [LawCod S] in
theorem opsD_seq {par:Par S X} {ops:Array Oper} {ls ms es:List Nat} {K:St S→X→Prop}:∀ (c:List Nat) (st:St S) (x:X),opsD par ops ls ms es c st x K↔SeqD par ops ls ms es K c st x
 | [],st,x=>Iff.rfl
 | i :: c,st,x=>by
  have e:∀ s y,opsD par ops ls ms es c s y K=SeqD par ops ls ms es K c s y:=fun s y=>propext (opsD_seq c s y)
  simp only [opsD,SeqD,e,setK_eq,nthK_eq,forceK_eq]
  cases hi:ops[i]? with
  | none=>simp
  | some o =>
   simp only [Option.some.injEq,exists_eq_left']
   unfold stepD guardG
   cases hd0:o.dst <;> simp only [putSt] <;> (
    cases hg:o.guard with
    | none=>exact Iff.rfl
    | some p =>
     obtain ⟨j,want⟩:=p
     simp only
     cases hj:ops[j]? with
     | none=>exact Iff.rfl
     | some oj =>
      simp only
      cases hd:oj.dst with
      | none=>exact Iff.rfl
      | some dj =>
       simp only
       cases hv:st.tmps.getD dj .undef with
       | bool b =>
        simp only
        have hst:st.tmps.set dj (.bool b)=st.tmps:=by rw [←hv,set_sameL]
        cases b <;> cases want <;> simp only [bcase,hst] <;> simp
       | _=>exact Iff.rfl)
end Go.Ab
namespace Go.Ab
open Go
variable {S:Sig} [Cod S]
variable {X:Type} {gl:Gl} {En:Env X} {x x' x0:X} {w w1 w' w0:World} {V V' V0:Nat→Nat→Prop} {l l' l0:Loc} {ts ts':Array Value} {st st':St S} {U U0:Nat→Prop}
structure SubInv {X:Type} (En:Env X) (x:X) (w:World) (U:Nat→Prop) (x':X) (w':World):Prop where
 inv:En.inv x' w'
 size:w.heap.size≤w'.heap.size
 block:∀ b,b < w.heap.size→¬ En.E x b→¬ U b→w'.heap[b]?=w.heap[b]?
 cell:∀ b o,b < w.heap.size→¬ U b→¬ En.EM x b o→eye w' b o=eye w b o
 e:∀ b,En.E x' b→En.E x b∨w.heap.size≤b
 em:∀ b o,En.EM x' b o→En.EM x b o∨w.heap.size≤b
theorem SubInv.step (h:SubInv En x w U x' w') (g:gl.G w'):SubStep gl En x w U x' w':=⟨h.inv,g,h.size,h.block,h.cell,h.e,h.em⟩
theorem SubInv.refl (h:En.inv x w):SubInv En x w U x w:=⟨h,Nat.le_refl _,fun _ _ _ _=>rfl,fun _ _ _ _ _=>rfl,fun _ h=>.inl h,fun _ _ h=>.inl h⟩
def Env.sub (En:Env X) (x0:X) (w0:World) (V0:Nat→Nat→Prop) (U:Nat→Prop) (ups owns:Nat→Option Nat):Env X where
 fv:=En.fv
 ups:=ups
 owns:=owns
 fz b o v:=V0 b o∧eye w0 b o=v
 inv x w:=SubInv En x0 w0 U x w
 E x b:=En.E x b∨(b < w0.heap.size∧¬ U b)
 EM x b o:=En.EM x b o∨(b < w0.heap.size∧¬ U b∧¬ V0 b o)
 lt x w b h hb:=hb.elim (En.lt x w b h.inv) fun hb=>Nat.lt_of_lt_of_le hb.1 h.size
 emE x b o h:=h.imp (En.emE x b o) fun h=>⟨h.1,h.2.1⟩
 stable x w w' h hk:=⟨En.stable x w w' h.inv (hk.mono fun _ h=>.inl h),Nat.le_trans h.size hk.size,
  fun b hb hE hU=>(hk.block b (.inr ⟨hb,hU⟩)).trans (h.block b hb hE hU),
  fun b o hb hU hM=>(cell_congr (hk.block b (.inr ⟨hb,hU⟩)) o).trans (h.cell b o hb hU hM),h.e,h.em⟩
theorem Env.sub_ext {ups owns:Nat→Option Nat}:Env.Ext gl En (En.sub x0 w0 V0 U0 ups owns) where
 fv:=rfl
 inv:=fun _ _ h=>h.inv
 e:=fun _ _ h=>.inl h
 em:=fun _ _ _ h=>.inl h
 emN:=fun x w x' b o hi hb h=>h.elim id fun h=>absurd h.1 (by have:=hi.size; omega)
 lift:=fun x w U x' w' hi hU h=>by
  have hE:∀ b,b < w0.heap.size→¬ En.E x0 b→¬ En.E x b:=fun b hb hn hE=>(hi.e b hE).elim hn fun h=>by omega
  have hM:∀ b o,b < w0.heap.size→¬ En.EM x0 b o→¬ En.EM x b o:=fun b o hb hn hE=>(hi.em b o hE).elim hn fun h=>by omega
  have hUU:∀ b,b < w0.heap.size→¬ U0 b→¬ U b:=fun b hb hn hu=>hU b hu (.inr ⟨hb,hn⟩)
  have hsz:=hi.size
  refine ⟨⟨h.inv,Nat.le_trans hi.size h.size,fun b hb hn hu=>(h.block b (by omega) (hE b hb hn) (hUU b hb hu)).trans (hi.block b hb hn hu),
   fun b o hb hu hn=>(h.cell b o (by omega) (hUU b hb hu) (hM b o hb hn)).trans (hi.cell b o hb hu hn),
   fun b hb=>(h.e b hb).elim (hi.e b) fun h=>.inr (by omega),fun b o hb=>(h.em b o hb).elim (hi.em b o) fun h=>.inr (by omega)⟩,
   h.g,h.size,fun b hb hn hu=>h.block b hb (fun h=>hn (.inl h)) hu,fun b o hb hu hn=>h.cell b o hb hu fun h=>hn (.inl h),
   fun b hb=>hb.elim (fun hb=>(h.e b hb).imp .inl id) fun hb=>.inl (.inr hb),fun b o hb=>hb.elim (fun hb=>(h.em b o hb).imp .inl id) fun hb=>.inl (.inr hb)⟩
theorem SR.enter (h:SR gl En x w V l ts st) {owns:Nat→Option Nat} (ho:∀ d b,owns d=some b→l.own d=some b):SR gl (En.sub x w V (MutB l st) l.up owns) x w V l ts st :=
 ⟨h.le,⟨h.cb.cb,rfl,ho,fun _ _ _ e=>e⟩,SubInv.refl h.inv,h.g,h.vlt,fun b o hv hm=>hm.elim (h.vem b o hv) fun hm=>hm.2.2 hv,h.sz,h.tmps,h.seg,h.up,h.rego,h.regt,
  fun k d b hm=>⟨fun hE=>hE.elim (h.mine k d b hm).1 fun hE=>hE.2 ⟨k,d,hm⟩,(h.mine k d b hm).2⟩,h.dis⟩
structure Link (gl:Gl) (En:Env X) (x:X) (w:World) (V:Nat→Nat→Prop) (l:Loc) (owns:Nat→Option Nat) (U:Nat→Prop) (x':X) (w':World) (V':Nat→Nat→Prop) (l':Loc) (U':Nat→Prop):Prop where
 step:SubStep gl En x w U x' w'
 v:∀ b o,V b o→V' b o∧eye w' b o=eye w b o
 v':∀ b o,V' b o→b < w'.heap.size∧¬ En.EM x' b o∧(V b o∨U b∨w.heap.size≤b)
 own:∀ d b,owns d=some b→l'.own d=some b
 up:l'.up=l.up
 cbv:l'.cbv=l.cbv
 mt:∀ b,U' b→¬ En.E x' b∧b < w'.heap.size∧(U b∨w.heap.size≤b)
theorem SR.leave {owns:Nat→Option Nat} (h0:SR gl En x w V l ts st) (hoo:∀ d b,En.owns d=some b→owns d=some b) (h:SR gl (En.sub x w V (MutB l st) l.up owns) x' w' V' l' ts' st') :
  SR gl En x' w' V' l' ts' st'∧Link gl En x w V l owns (MutB l st) x' w' V' l' (MutB l' st'):=by
 have hv:∀ b o,V b o→V' b o∧eye w' b o=eye w b o:=fun b o hv=>by
  exact h.cb.fz b o _ ⟨hv,rfl⟩
 have hi:SubInv En x w (MutB l st) x' w':=h.inv
 refine ⟨⟨h.le,⟨h.cb.cb,h.cb.up.trans h0.cb.up,fun d b e=>h.cb.own d b (hoo d b e),fun b o v e=>?_⟩,hi.inv,h.g,h.vlt,fun b o hv hm=>h.vem b o hv (.inl hm),h.sz,h.tmps,h.seg,h.up,h.rego,h.regt,
  fun k d b hm=>⟨fun hE=>(h.mine k d b hm).1 (.inl hE),(h.mine k d b hm).2⟩,h.dis⟩,hi.step h.g,hv,fun b o hv'=>⟨h.vlt b o hv',fun hm=>h.vem b o hv' (.inl hm),?_⟩,h.cb.own,h.cb.up,h.cb.cb.trans h0.cb.cb.symm,fun b ⟨k,d,hm⟩=>?_⟩
 ·obtain ⟨h1,h2⟩:=h0.cb.fz b o v e
  obtain ⟨h3,h4⟩:=hv b o h1
  exact ⟨h3,h4.trans h2⟩
 ·rcases Nat.lt_or_ge b w.heap.size with hb | hb
  ·by_cases hu:MutB l st b
   ·exact .inr (.inl hu)
   exact .inl (Classical.byContradiction fun hn=>h.vem b o hv' (.inr ⟨hb,hu,hn⟩))
  exact .inr (.inr hb)
 obtain ⟨o,hc⟩:=h.mlt hm
 refine ⟨fun hE=>(h.mine k d b hm).1 (.inl hE),lt_of_heap hc,?_⟩
 rcases Nat.lt_or_ge b w.heap.size with hb | hb
 ·by_cases hu:MutB l st b
  ·exact .inl hu
  exact absurd (.inr ⟨hb,hu⟩) (h.mine k d b hm).1
 exact .inr hb
theorem Reps.stay (hv:∀ b o,V b o→V' b o∧eye w' b o=eye w b o) {vs:List Value} {cs:List (AV S)} (h:Reps w V l vs cs) :
  ∀ n l',cs.all (stayB n)=true→(∀ d b,l.own d=some b→l'.own d=some b)→l'.up=l.up→l'.cbv=l.cbv→Reps w' V' l' vs cs:=by
 have hcons:∀ {n:Nat} {c:AV S} {cs:List (AV S)},(c :: cs).all (stayB n)=true→stayB n c=true∧cs.all (stayB n)=true:=fun h=>by simpa using h
 have hat:∀ {b o:Nat} {ws:List Value},CellsAt w V b o ws→CellsAt w' V' b o ws:=fun h=>h.mono (fun b o h=>(hv b o h).1) fun b o h=>(hv b o h).2
 have hnone:∀ {vs:List Value} {cs:List (AV S)},Reps w V Loc.none vs cs→Reps w' V' Loc.none vs cs:=fun hr =>
  hr.mono (fun b o h=>(hv b o h).1) (fun b o h=>(hv b o h).2) _ (Loc.le_refl _) fun d b n cap ht=>by simp [Loc.none] at ht
 have hnk:∀ {l:Loc} {vs:List Value} {cs:List (AV S)} (l':Loc),Reps w V l.notok vs cs→(∀ d b,l.own d=some b→l'.own d=some b)→l'.up=l.up→l'.cbv=l.cbv→Reps w' V' l'.notok vs cs:=fun {l} {_} {_} l' hr ho hu hc =>
  hr.mono (fun b o h=>(hv b o h).1) (fun b o h=>(hv b o h).2) _ ⟨ho,fun d b e=>by rw [show l'.notok.up=l'.up from rfl,hu]; exact e,fun _ _ h=>by simp [Loc.notok] at h,fun v e=>by rw [show l'.notok.cbv=l'.cbv from rfl,hc]; exact e⟩ fun d b n cap ht=>by simp [Loc.notok] at ht
 induction h with
 | nil=>exact fun _ _ _ _ _ _=>.nil _
 | @flat l v c vs cs h _ ih =>
  intro n l' hn ho hu hc
  obtain ⟨h1,h2⟩:=hcons hn
  refine .flat ?_ (ih n l' h2 ho hu hc)
  cases c with
  | own d p=>obtain ⟨b,hb,hv⟩:=h; exact ⟨b,ho _ _ hb,hv⟩
  | up d p=>obtain ⟨b,hb,hv⟩:=h; exact ⟨b,by rw [hu]; exact hb,hv⟩
  | sl u xs o =>
   cases o with
   | none=>exact h
   | some d=>cases n <;> simp [stayB] at h1
  | cb=>exact ⟨by rw [hc]; exact h.1,h.2⟩
  | mpv d=>obtain ⟨b,hb,hv⟩:=h; exact ⟨b,ho _ _ hb,hv⟩
  | mpu d=>obtain ⟨b,hb,hv⟩:=h; exact ⟨b,by rw [hu]; exact hb,hv⟩
  | elp u d i p=>cases n <;> simp [stayB] at h1
  | _=>exact h
 | ref h r _ _ ih=>exact fun n l' hn ho hu hc=>.ref (hat h) (hnone r) (ih n l' (hcons hn).2 ho hu hc)
 | sl h r hcp _ _ ih=>exact fun n l' hn ho hu hc=>.sl (hat h) (hnone r) hcp (ih n l' (hcons hn).2 ho hu hc)
 | tok ht h r hcp _ _ ih =>
  intro n l' hn ho hu hc
  have h1:=(hcons hn).1
  cases n <;> simp [stayB] at h1
 | clo r r' _ ih1 ih2 ih=>exact fun n l' hn ho hu hc=>.clo (hnk l' r ho hu hc) (hnk l' r' ho hu hc) (ih n l' (hcons hn).2 ho hu hc)
 | agg r _ ih1 ih =>
  intro n l' hn ho hu hc
  obtain ⟨h1,h2⟩:=hcons hn
  cases n with
  | zero=>simp [stayB] at h1
  | succ n=>simp only [stayB] at h1; exact .agg (ih1 n l' h1 ho hu hc) (ih _ l' h2 ho hu hc)
 | tup r _ ih1 ih =>
  intro n l' hn ho hu hc
  obtain ⟨h1,h2⟩:=hcons hn
  cases n with
  | zero=>simp [stayB] at h1
  | succ n=>simp only [stayB] at h1; exact .tup (ih1 n l' h1 ho hu hc) (ih _ l' h2 ho hu hc)
 | arr hx r _ _ ih=>exact fun n l' hn ho hu hc=>.arr hx (hnone r) (ih n l' (hcons hn).2 ho hu hc)
 | mpf hv1 hm hb r r' _ _ _ ih=>exact fun n l' hn ho hu hc=>.mpf (hv _ _ hv1).1 (eye_map (hv _ _ hv1).2 hm) hb (hnone r) (hnone r') (ih n l' (hcons hn).2 ho hu hc)
theorem SR.putL (h:SR gl En x w V l ts st) {L:Nat} {r r':Loop} (hL:w.heap[L]?=some (.loop r)) (hE:¬ En.E x L):SR gl En x (w.putObj L (.loop r')) V l ts st:=by
 have hlt:=lt_of_heap hL
 have hcell:∀ b o,eye (w.putObj L (.loop r')) b o=eye w b o:=fun b o=>by
  by_cases hb:b=L
  ·subst hb
   simp only [eye,World.cell?,World.putObj_heap_same hlt,hL]
  exact cell_congr (World.putObj_heap_other hb) o
 have hblk:∀ {b:Nat} {c:Array Value} {el:TypeId},w.heap[b]?=some (.cells c el (0,0))→(w.putObj L (.loop r')).heap[b]?=some (.cells c el (0,0)):=fun {b c el} hb=>by
  rw [World.putObj_heap_other]
  ·exact hb
  intro e; subst e; rw [hL] at hb; cases hb
 have hr:∀ {l1:Loc} {vs:List Value} {cs:List (AV S)},Reps w V l1 vs cs→Reps (w.putObj L (.loop r')) V l1 vs cs:=fun hr =>
  hr.mono (fun _ _ h=>h) (fun b o _=>hcell b o) _ (Loc.le_refl _) fun _ b _ _ _ o _=>hcell b o
 have hat:∀ {b o:Nat} {ws:List Value},CellsAt w V b o ws→CellsAt (w.putObj L (.loop r')) V b o ws:=fun h=>h.mono (fun _ _ h=>h) fun b o _=>hcell b o
 have hsz:(w.putObj L (.loop r')).heap.size=w.heap.size:=by simp [World.putObj]
 refine ⟨h.le,h.cb.world (fun _ _ h=>h) (fun b o _=>hcell b o),En.stable _ _ _ h.inv ⟨rfl,rfl,rfl,by rw [hsz]; exact Nat.le_refl _,fun b hb=>World.putObj_heap_other fun e=>hE (e ▸ hb)⟩,
  gl.st _ _ h.g (by rw [hsz]; exact Nat.le_refl _) fun b _ o=>hcell b o,fun b o hv=>by rw [hsz]; exact h.vlt b o hv,h.vem,h.sz,fun i c hi=>hr (h.tmps i c hi),fun d ao hd=>?_,fun d ao hd=>?_,h.rego,h.regt,h.mine,h.dis⟩
 ·have h3:=h.seg d ao hd
  cases ao with
  | cells cs=>obtain ⟨b,hb,c,el,h4,h5,h6⟩:=h3; exact ⟨b,hb,c,el,hblk h4,hr h5,h6⟩
  | frz cs=>obtain ⟨b,ws,hb,h4,h5⟩:=h3; exact ⟨b,ws,hb,hat h4,hr h5⟩
  | row u f =>
   obtain ⟨t,ht,h4⟩:=h3
   refine ⟨t,ht,?_⟩
   cases t with
   | no=>trivial
   | «at» b n cap=>obtain ⟨c,el,h5,h6⟩:=h4; exact ⟨c,el,hblk h5,h6⟩
  | mp kvs =>
   obtain ⟨b,hb,hmp⟩:=h3
   exact ⟨b,hb,hmp.mono (World.putObj_heap_other fun e=>by obtain ⟨es,ck,h1,_⟩:=hmp; rw [e,hL] at h1; cases h1) hr fun o=>by obtain ⟨es,ck,_,_,h3⟩:=hmp; exact h3 o⟩
  | mpz ks us=>obtain ⟨b2,hb2,hmz⟩:=h3; exact ⟨b2,hb2,hr hmz⟩
 have h3:=h.up d ao hd
 cases ao with
 | cells cs=>obtain ⟨b,hb,c,el,h4,h5,h6⟩:=h3; exact ⟨b,hb,c,el,hblk h4,hr h5,h6⟩
 | frz cs=>obtain ⟨b,ws,hb,h4,h5⟩:=h3; exact ⟨b,ws,hb,hat h4,hr h5⟩
 | row u f=>trivial
 | mp kvs =>
  obtain ⟨b,hb,hmp⟩:=h3
  exact ⟨b,hb,hmp.mono (World.putObj_heap_other fun e=>by obtain ⟨es,ck,h1,_⟩:=hmp; rw [e,hL] at h1; cases h1) hr fun o=>by obtain ⟨es,ck,_,_,h3⟩:=hmp; exact h3 o⟩
 | mpz ks us=>obtain ⟨b2,hb2,hmz⟩:=h3; exact ⟨b2,hb2,hr hmz⟩
theorem SR.keep (h:SR gl En x w V l ts st) {A:Nat→Prop} (hk:Keep A w w') (hA:∀ b o,V b o→A b) (hM:∀ b,MutB l st b→A b) (hE:∀ b,En.E x b→A b) (hg:∀ b,b < gl.g0→A b):SR gl En x w' V l ts st:=by
 have hcell:∀ b o,V b o→eye w' b o=eye w b o:=fun b o hv=>cell_congr (hk.block b (hA b o hv)) o
 have hblk:∀ {k d b},Mut l st k d b→w'.heap[b]?=w.heap[b]?:=fun {k d b} hm=>hk.block b (hM b ⟨k,d,hm⟩)
 have hr:∀ {l1:Loc} {vs:List Value} {cs:List (AV S)},(∀ d t,l1.tok d=some t→l.tok d=some t)→Reps w V l1 vs cs→Reps w' V l1 vs cs:=fun hl1 hr =>
  hr.mono (fun _ _ h=>h) hcell _ (Loc.le_refl _) fun d b n cap ht o _=>by
   obtain ⟨u,f,hreg⟩:=h.regt _ _ (hl1 _ _ ht)
   exact cell_congr (hblk (k:=false) (d:=d) ⟨_,hreg,n,cap,hl1 _ _ ht⟩) o
 have hat:∀ {b o:Nat} {ws:List Value},CellsAt w V b o ws→CellsAt w' V b o ws:=fun h=>h.mono (fun _ _ h=>h) hcell
 have hno:∀ d t,Loc.none.tok d=some t→l.tok d=some t:=fun d t e=>by simp [Loc.none] at e
 have hnk:∀ d t,l.notok.tok d=some t→l.tok d=some t:=fun d t e=>by simp [Loc.notok] at e
 refine ⟨h.le,h.cb.world (fun _ _ h=>h) hcell,En.stable _ _ _ h.inv (hk.mono hE),gl.st _ _ h.g hk.size fun b hb o=>cell_congr (hk.block b (hg b hb)) o,fun b o hv=>Nat.lt_of_lt_of_le (h.vlt b o hv) hk.size,h.vem,
  h.sz,fun i c hi=>hr (fun _ _ h=>h) (h.tmps i c hi),fun d ao hd=>?_,fun d ao hd=>?_,h.rego,h.regt,h.mine,h.dis⟩
 ·have:=h.seg d ao hd
  cases ao with
  | cells cs =>
   obtain ⟨b,hb,c,el,h1,h2,h3⟩:=this
   exact ⟨b,hb,c,el,by rw [hblk (k:=false) (d:=d) ⟨_,hd,hb⟩]; exact h1,hr (fun _ _ h=>h) h2,h3⟩
  | frz cs=>obtain ⟨b,ws,hb,h1,h2⟩:=this; exact ⟨b,ws,hb,hat h1,hr hno h2⟩
  | row u f =>
   obtain ⟨t,ht,h1⟩:=this
   refine ⟨t,ht,?_⟩
   cases t with
   | no=>trivial
   | «at» b n cap=>obtain ⟨c,el,h2,h3⟩:=h1; exact ⟨c,el,by rw [hblk (k:=false) (d:=d) ⟨_,hd,n,cap,ht⟩]; exact h2,h3⟩
  | mp kvs =>
   obtain ⟨b,hb,hmp⟩:=this
   exact ⟨b,hb,hmp.mono (hblk (k:=false) (d:=d) ⟨_,hd,hb⟩) (hr hno) fun o=>by obtain ⟨es,ck,_,_,h3⟩:=hmp; exact h3 o⟩
  | mpz ks us=>obtain ⟨b2,hb2,hmz⟩:=this; exact ⟨b2,hb2,(hr hno) hmz⟩
 have:=h.up d ao hd
 cases ao with
 | cells cs =>
  obtain ⟨b,hb,c,el,h1,h2,h3⟩:=this
  exact ⟨b,hb,c,el,by rw [hblk (k:=true) (d:=d) ⟨_,hd,trivial,hb⟩]; exact h1,hr hnk h2,h3⟩
 | frz cs=>obtain ⟨b,ws,hb,h1,h2⟩:=this; exact ⟨b,ws,hb,hat h1,hr hno h2⟩
 | row u f=>trivial
 | mp kvs =>
  obtain ⟨b,hb,hmp⟩:=this
  exact ⟨b,hb,hmp.mono (hblk (k:=true) (d:=d) ⟨_,hd,trivial,hb⟩) (hr hno) fun o=>by obtain ⟨es,ck,_,_,h3⟩:=hmp; exact h3 o⟩
 | mpz ks us=>obtain ⟨b2,hb2,hmz⟩:=this; exact ⟨b2,hb2,(hr hno) hmz⟩
theorem SR.marks_nil (h:SR gl En x w V l ts st):SR gl (En.marks []) x w V l ts st :=
 ⟨h.le,⟨h.cb.cb,h.cb.up,h.cb.own,h.cb.fz⟩,⟨h.inv,List.nodup_nil,fun _ hD=>absurd hD (List.not_mem_nil)⟩,h.g,h.vlt,h.vem,h.sz,h.tmps,h.seg,h.up,h.rego,h.regt,fun k d b hm=>⟨fun hE=>hE.elim (h.mine k d b hm).1 fun hD=>absurd hD (List.not_mem_nil),(h.mine k d b hm).2⟩,h.dis⟩
theorem SR.of_marks_nil (h:SR gl (En.marks []) x w V l ts st):SR gl En x w V l ts st :=
 ⟨h.le,⟨h.cb.cb,h.cb.up,h.cb.own,h.cb.fz⟩,h.inv.1,h.g,h.vlt,h.vem,h.sz,h.tmps,h.seg,h.up,h.rego,h.regt,fun k d b hm=>⟨fun hE=>(h.mine k d b hm).1 (.inl hE),(h.mine k d b hm).2⟩,h.dis⟩
theorem Reps.dataL [LawCod S] {u:S.U} (hu:Cod.data u=true):∀ (xs:List (S.T u)) {ws:List Value} {w:World} {V:Nat→Nat→Prop} {l:Loc},Reps w V l ws (xs.flatMap (Cod.enc u))→∀ w' V' l',Reps w' V' l' ws (xs.flatMap (Cod.enc u)):=fun xs=>by
 induction xs with
 | nil=>intro ws w V l h w' V' l'; rw [h.nil_inv]; exact .nil _
 | cons x xs ih =>
  intro ws w V l h w' V' l'
  rw [List.flatMap_cons] at h ⊢
  obtain ⟨va,vb,rfl,h1,h2⟩:=h.split
  exact (LawCod.data u x hu _ _ _ _ h1 _ _ _).append (ih h2 _ _ _)
theorem Reps.data [LawCod S] {vs:List Value} {cs:List (AV S)} (h:Reps w V l vs cs):∀ n,cs.all (dataB n)=true→∀ w' V' l',Reps w' V' l' vs cs:=by
 have hcons:∀ {n:Nat} {c:AV S} {cs:List (AV S)},(c :: cs).all (dataB n)=true→dataB n c=true∧cs.all (dataB n)=true:=fun h=>by simpa using h
 induction h with
 | nil=>exact fun _ _ _ _ _=>.nil _
 | @flat l v c vs cs h _ ih =>
  intro n hn w' V' l'
  obtain ⟨h1,h2⟩:=hcons hn
  refine .flat ?_ (ih n h2 _ _ _)
  cases n with
  | zero=>simp [dataB] at h1
  | succ n=>cases c <;> first | exact h | (simp [dataB] at h1; done)
 | ref h r _ _ ih=>intro n hn; have h1:=(hcons hn).1; cases n <;> simp [dataB] at h1
 | sl h r hcp _ _ ih=>intro n hn; have h1:=(hcons hn).1; cases n <;> simp [dataB] at h1
 | tok ht h r hcp _ _ ih=>intro n hn; have h1:=(hcons hn).1; cases n <;> simp [dataB] at h1
 | clo r r' _ ih1 ih2 ih=>intro n hn; have h1:=(hcons hn).1; cases n <;> simp [dataB] at h1
 | agg r _ ih1 ih =>
  intro n hn w' V' l'
  obtain ⟨h1,h2⟩:=hcons hn
  cases n with
  | zero=>simp [dataB] at h1
  | succ n=>simp only [dataB] at h1; exact .agg (ih1 n h1 _ _ _) (ih _ h2 _ _ _)
 | tup r _ ih1 ih =>
  intro n hn w' V' l'
  obtain ⟨h1,h2⟩:=hcons hn
  cases n with
  | zero=>simp [dataB] at h1
  | succ n=>simp only [dataB] at h1; exact .tup (ih1 n h1 _ _ _) (ih _ h2 _ _ _)
 | arr hx r _ _ ih =>
  intro n hn w' V' l'
  obtain ⟨h1,h2⟩:=hcons hn
  cases n with
  | zero=>simp [dataB] at h1
  | succ n=>simp only [dataB] at h1; exact .arr hx (Reps.dataL h1 _ r _ _ _) (ih _ h2 _ _ _)
 | mpf hv hm hb r r' _ _ _ ih=>intro n hn; have h1:=(hcons hn).1; cases n <;> simp [dataB] at h1
end Go.Ab
namespace Go.Ab
open Go
theorem wpIn_scope {F:Fence} {n:Nat} {P:Program} {c:Code} {Q:Exit→Act→World→Prop} {a:Act} {w:World} (hg:∀ l a w,¬ Q (.goto l) a w) (h:c.wpIn F n P Q a w):(Code.scope c).wpIn F n P Q a w:=by
 intro b k cs hro hb hr
 have h0:(lone (b.atR a (.code (.scope c) :: k)) cs w).fenced P F:=fenced_calm hb hr rfl
 have hs:step P (lone (b.atR a (.code (.scope c) :: k)) cs w)=.next (lone (b.atR a (.code c :: .inScope c :: k)) cs w):=step_lone_go (by simp [stepG,stepG.exec,Frame.atR])
 have hx:∀ id,exitTo id (.inScope c :: k)=exitTo id k:=fun id=>by simp [exitTo]
 obtain ⟨e,a₁,w₁,hq,harr⟩:=h b (.inScope c :: k) cs hro hb hr
 cases e with
 | normal=>exact ⟨.normal,a₁,w₁,hq,.head h0 hs (StepsIn.trans harr (.one (fenced_calm hb hr rfl) (step_lone_go (by simp [stepG,stepG.exec,Frame.atR]))))⟩
 | exit id=>exact ⟨.exit id,a₁,w₁,hq,fun k' hk=>.head h0 hs (harr.1 k' (by rw [hx]; exact hk)),fun hr' hk=>let ⟨k₁,h1,h2⟩:=harr.2 hr' (by rw [hx]; exact hk); ⟨k₁,h1,.head h0 hs h2⟩⟩
 | goto l=>exact (hg _ _ _ hq).elim
 | ret=>exact ⟨_,a₁,w₁,hq,.of_steps (.one h0 hs) harr⟩
 | panic ch=>exact ⟨_,a₁,w₁,hq,.of_steps (.one h0 hs) harr⟩
 | outgrown=>exact ⟨_,a₁,w₁,hq,.of_steps (.one h0 hs) harr⟩
def LoopIn (F:Fence) (n:Nat) (P:Program) (c:Code) (Q:Exit→Act→World→Prop) (a:Act) (w:World):Prop :=
 ∀ (b:Frame) (k:List Item) (cs:List Frame),b.roundOf=F.round→F.fn b.fn→F.room (cs.length+1+n) →
  ∃ e a' w',Q e a' w'∧ArrivesIn (Machine.fenced P F) P (lone (b.atR a (.code c :: .inLoop c :: k)) cs w) b k cs e a' w'
theorem LoopIn.loop {F:Fence} {n:Nat} {P:Program} {c:Code} {Q:Exit→Act→World→Prop} {a:Act} {w:World} (h:LoopIn F n P c Q a w):(Code.loop c).wpIn F n P Q a w:=by
 intro b k cs hro hb hr
 obtain ⟨e,a',w',hq,harr⟩:=h b k cs hro hb hr
 exact ⟨e,a',w',hq,.of_steps (.one (fenced_calm hb hr rfl) stepR_loop) harr⟩
theorem LoopIn.round {F:Fence} {n:Nat} {P:Program} {c:Code} {Q:Exit→Act→World→Prop} {a:Act} {w:World} (h:c.wpIn F n P (Exit.then (LoopIn F n P c Q) Q) a w):LoopIn F n P c Q a w:=by
 intro b k cs hro hb hr
 obtain ⟨e,a₁,w₁,hq,harr⟩:=h b (.inLoop c :: k) cs hro hb hr
 cases e with
 | normal =>
  obtain ⟨e₂,a₂,w₂,hq₂,harr₂⟩:=hq b k cs hro hb hr
  exact ⟨e₂,a₂,w₂,hq₂,.of_steps (StepsIn.trans harr (.one (fenced_calm hb hr rfl) stepR_inLoop)) harr₂⟩
 | exit id=>exact ⟨_,a₁,w₁,hq,.pass (x:=.inLoop c) rfl (fun _ _=>.inl (by simp)) harr⟩
 | goto l=>exact ⟨_,a₁,w₁,hq,.pass (x:=.inLoop c) rfl (fun _ _=>.inl (by simp)) harr⟩
 | ret=>exact ⟨_,a₁,w₁,hq,.pass (x:=.inLoop c) rfl (fun _ _=>.inl (by simp)) harr⟩
 | panic ch=>exact ⟨_,a₁,w₁,hq,.pass (x:=.inLoop c) rfl (fun _ _=>.inl (by simp)) harr⟩
 | outgrown=>exact ⟨_,a₁,w₁,hq,.pass (x:=.inLoop c) rfl (fun _ _=>.inl (by simp)) harr⟩
variable {S:Sig} [Cod S]
variable {X:Type} {gl:Gl} {En:Env X} {x:X} {w w1 w':World} {V V':Nat→Nat→Prop} {l l0:Loc} {ts:Array Value} {st:St S}
variable {P:Program} {par:Par S X} {a:Act} {ro:Option Nat} {n:Nat}
def At (gl:Gl) (En:Env X) (rd:Bool) (D0:List Nat) (Qa:St S→X→Prop) (a:Act) (w:World):Prop :=
 ∃ st x V l Ds,Qa st x∧SR gl (En.marks Ds) x w V l a.tmps st∧a.defers=Ds.map markOf∧(rd=true→Ds=D0)
def Post (gl:Gl) (En:Env X) (rd:Bool) (D0:List Nat) (Qa:AExit→St S→X→Prop):Exit→Act→World→Prop
 | .normal,a,w=>At gl En rd D0 (Qa .normal) a w
 | .exit id,a,w=>At gl En rd D0 (Qa (.exit id)) a w
 | .ret,a,w=>At gl En rd D0 (Qa .ret) a w
 | _,_,_=>False
omit [Cod S] in
theorem maskK_elim:∀ (i m:Nat) (ts:List (AV S)) (K:List (AV S)→Prop),maskK i m ts K→∃ ts',K ts'∧ts'.length=ts.length∧∀ (j:Nat) (c:AV S),ts'[j]?=some c→c=.undef∨ts[j]?=some c
 | i,m,[],K,h=>⟨[],h,rfl,fun j c h=>by simp at h⟩
 | i,m,v :: ts,K,h=>by
  simp only [maskK] at h
  cases hb:Nat.testBit m i with
  | true =>
   rw [hb] at h
   obtain ⟨ts',hK,hl,h1⟩:=maskK_elim (i+1) m ts _ h
   refine ⟨_,hK,by simp [hl],fun j c hj=>?_⟩
   cases j with
   | zero=>exact .inr hj
   | succ j=>exact h1 j c (by simpa using hj)
  | false =>
   rw [hb] at h
   obtain ⟨ts',hK,hl,h1⟩:=maskK_elim (i+1) m ts _ h
   refine ⟨_,hK,by simp [hl],fun j c hj=>?_⟩
   cases j with
   | zero=>simp at hj; exact .inl hj.symm
   | succ j=>exact h1 j c (by simpa using hj)
theorem SRx.mask (h:SRx gl En x w V l l0 ts st) {tm:List (AV S)} (hl:tm.length=st.tmps.length) (hm:∀ (j:Nat) (c:AV S),tm[j]?=some c→c=.undef∨st.tmps[j]?=some c):SRx gl En x w V l l0 ts { st with tmps:=tm } :=
 ⟨h.le,h.cb,h.inv,h.g,h.vlt,h.vem,by simp [h.sz,hl],fun i c hi=>(hm i c hi).elim (fun hu=>by subst hu; exact Rep.flat1 trivial) (h.tmps i c),h.seg,h.up,h.rego,h.regt,h.mine,h.dis⟩
variable [LawCod S]
theorem pubF_elim {d:Nat} {sg:List (Nat×AO S)} {K:List (Nat×AO S)→Prop} (h:pubF d sg K):∃ sg',K sg'∧OutOk sg sg' fun _ _ _ _=>True:=by
 unfold pubF at h
 rw [findK_eq] at h
 cases hl:lookA sg d with
 | none=>rw [hl] at h; exact h.elim
 | some ao =>
  rw [hl] at h
  cases ao with
  | row u f =>
   simp only [putK_eq] at h
   refine ⟨_,h,⟨fun hs=>?_⟩⟩
   obtain ⟨V',h1,h2,h3,_⟩:=(publish hl).out hs
   exact ⟨V',h1,h2,h3,trivial⟩
  | cells cs =>
   obtain ⟨cs',sg1,h,_,h1⟩:=(outK_elim 60).2 _ _ _ h
   simp only [putK_eq] at h
   refine ⟨_,h,⟨fun hs=>?_⟩⟩
   obtain ⟨V',h1,h2,h3,_⟩:=(freeze hl h1).out hs
   exact ⟨V',h1,h2,h3,trivial⟩
  | _=>exact h.elim
theorem pubLK_elim:∀ (ds:List Nat) (sg:List (Nat×AO S)) (K:List (Nat×AO S)→Prop),pubLK ds sg K→∃ sg',K sg'∧OutOk sg sg' fun _ _ _ _=>True
 | [],sg,K,h=>⟨sg,h,OutOk.refl fun _ _ _=>trivial⟩
 | d :: ds,sg,K,h=>by
  obtain ⟨sg1,h,h1⟩:=pubF_elim h
  obtain ⟨sg',hK,h2⟩:=pubLK_elim ds sg1 K h
  exact ⟨sg',hK,OutOk.trans h1 h2 fun _ _ _ _ _ _ _ _ _=>trivial⟩
def Loc.unown (l:Loc) (ds:List Nat):Loc:={ l with own:=fun k=>if memb ds k=true then Option.none else l.own k }
omit [LawCod S] in
theorem Reps.unown {ds:List Nat} {vs:List Value} {cs:List (AV S)} (h:Reps w V l vs cs):∀ n,cs.all (freeB n ds)=true→Reps w V (l.unown ds) vs cs:=by
 have hcons:∀ {n:Nat} {c:AV S} {cs:List (AV S)},(c :: cs).all (freeB n ds)=true→freeB n ds c=true∧cs.all (freeB n ds)=true:=fun h=>by simpa using h
 induction h with
 | nil=>exact fun _ _=>.nil _
 | @flat l v c vs cs h _ ih =>
  intro n hn
  obtain ⟨h1,h2⟩:=hcons hn
  refine .flat ?_ (ih n h2)
  cases c with
  | own d p =>
   obtain ⟨b,hb,hv⟩:=h
   cases n with
   | zero=>cases h1
   | succ n =>
    simp only [freeB] at h1
    refine ⟨b,?_,hv⟩
    have:memb ds d=false:=by cases hm:memb ds d with
     | true=>rw [hm] at h1; cases h1
     | false=>rfl
    simp [Loc.unown,this,hb]
  | mpv d =>
   obtain ⟨b,hb,hv⟩:=h
   cases n with
   | zero=>cases h1
   | succ n =>
    simp only [freeB] at h1
    refine ⟨b,?_,hv⟩
    have:memb ds d=false:=by cases hm:memb ds d with
     | true=>rw [hm] at h1; cases h1
     | false=>rfl
    simp [Loc.unown,this,hb]
  | sl u xs o=>cases o <;> exact h
  | _=>exact h
 | ref h r _ _ ih=>exact fun n hn=>.ref h r (ih n (hcons hn).2)
 | sl h r hc _ _ ih=>exact fun n hn=>.sl h r hc (ih n (hcons hn).2)
 | tok ht h r hc _ _ ih=>exact fun n hn=>.tok ht h r hc (ih n (hcons hn).2)
 | clo r r' _ ih1 ih2 ih =>
  intro n hn
  obtain ⟨h1,h2⟩:=hcons hn
  cases n with
  | zero=>cases h1
  | succ n =>
   simp only [freeB,Bool.and_eq_true] at h1
   exact .clo (ih1 n h1.1) (ih2 n h1.2) (ih _ h2)
 | agg r _ ih1 ih =>
  intro n hn
  obtain ⟨h1,h2⟩:=hcons hn
  cases n with
  | zero=>cases h1
  | succ n=>exact .agg (ih1 n (by simpa [freeB] using h1)) (ih _ h2)
 | tup r _ ih1 ih =>
  intro n hn
  obtain ⟨h1,h2⟩:=hcons hn
  cases n with
  | zero=>cases h1
  | succ n=>exact .tup (ih1 n (by simpa [freeB] using h1)) (ih _ h2)
 | arr hx r _ _ ih=>exact fun n hn=>.arr hx r (ih n (hcons hn).2)
 | mpf hv hm hb r r' _ _ _ ih=>exact fun n hn=>.mpf hv hm hb r r' (ih n (hcons hn).2)
omit [Cod S] in
theorem dropOK_elim (ds:List Nat):∀ (sg:List (Nat×AO S)) (K:List (Nat×AO S)→Prop),dropOK ds sg K→∃ sg',K sg'∧∀ d,lookA sg' d=if memb ds d=true then none else lookA sg d
 | [],K,h=>⟨[],h,fun d=>by simp [lookA]⟩
 | (k,a) :: sg,K,h=>by
  simp only [dropOK] at h
  cases hm:memb ds k with
  | true =>
   rw [hm] at h
   obtain ⟨sg',hK,h1⟩:=dropOK_elim ds sg K h
   refine ⟨sg',hK,fun d=>?_⟩
   rw [h1 d]
   by_cases hd:memb ds d=true
   ·simp [hd]
   have hne:¬ k=d:=fun e=>hd (e ▸ hm)
   simp [hd,lookA,hne]
  | false =>
   rw [hm] at h
   obtain ⟨sg',hK,h1⟩:=dropOK_elim ds sg _ h
   refine ⟨_,hK,fun d=>?_⟩
   simp only [lookA]
   by_cases hkd:k=d
   ·subst hkd; simp [hm]
   simp only [hkd,if_false]; exact h1 d
theorem lookA_mem {α:Type}:∀ {sg:List (Nat×α)} {d:Nat} {a:α},lookA sg d=some a→(d,a)∈sg
 | [],d,a,h=>by simp [lookA] at h
 | (k,b) :: sg,d,a,h=>by
  simp only [lookA] at h
  by_cases hk:k=d
  ·simp only [hk,if_true] at h; cases h; subst hk; exact List.mem_cons_self
  simp only [hk,if_false] at h; exact List.mem_cons_of_mem _ (lookA_mem h)
omit [Cod S] in
theorem sharedB_elim {sg:List (Nat×AO S)}:∀ {ds:List Nat},sharedB sg ds=true→∀ d,memb ds d=true→∀ u f,lookA sg d=some (.row u f)→f=false
 | [],_,d,hd,_,_,_=>by simp [memb] at hd
 | e :: ds,h,d,hd,u,f,hl=>by
  have hgo:∀ (sg:List (Nat×AO S)),sharedB.go sg e=true→∀ u f,lookA sg e=some (.row u f)→f=false:=fun sg=>by
   induction sg with
   | nil=>intro _ u f hl; simp [lookA] at hl
   | cons p sg ih =>
    obtain ⟨k,a⟩:=p
    intro h u f hl
    simp only [sharedB.go] at h
    simp only [lookA] at hl
    by_cases hk:k=e
    ·subst hk
     simp only [if_true] at hl
     cases hl
     simpa using h
    have:Nat.beq k e=false:=by cases hb:Nat.beq k e with
     | true=>exact absurd (Nat.eq_of_beq_eq_true hb) hk
     | false=>rfl
    rw [this] at h
    rw [if_neg hk] at hl
    exact ih h u f hl
  simp only [sharedB] at h
  cases hg:sharedB.go sg e with
  | false=>rw [hg] at h; cases h
  | true =>
   rw [hg] at h
   simp only [memb] at hd
   cases hb:Nat.beq e d with
   | true=>have:=Nat.eq_of_beq_eq_true hb; subst this; exact hgo sg hg u f hl
   | false=>rw [hb] at hd; exact sharedB_elim h d hd u f hl
theorem wkK_elim {m:Wk} {K:St S→Prop} (hs:SR gl En x w V l ts st) (hpin:∀ d b,En.owns d=some b→memb m.drop d=false) (h:wkK m st K):∃ st' V' l',K st'∧SR gl En x w V' l' ts st':=by
 unfold wkK at h
 obtain ⟨tm,h,hl,hm⟩:=maskK_elim _ _ _ _ h
 obtain ⟨sg,h,ho⟩:=pubLK_elim _ _ _ h
 obtain ⟨V1,hV1,hs1,_,_⟩:=ho.out hs
 have hs2:=hs1.mask (tm:=tm) hl hm
 cases hsh:sharedB sg m.drop with
 | false=>rw [hsh] at h; exact h.elim
 | true =>
  rw [hsh] at h
  simp only at h
  obtain ⟨st',h,hlen,_,hlet⟩:=letAllK_elim h
  have hshared:Shared V1 l m.drop:=fun d hd b n cap ht o ho=>by
   obtain ⟨u,f,hreg⟩:=hs2.regt _ _ ht
   have hf:=sharedB_elim hsh d hd u f hreg
   subst hf
   obtain ⟨t,ht',h1⟩:=hs2.seg d _ hreg
   rw [ht] at ht'; cases ht'
   obtain ⟨c,el,h2,h3,h4,h5⟩:=h1
   exact (h5 o).2 ho
  have hs3:=hlet hshared hs2
  obtain ⟨sg',h,hdrop⟩:=dropOK_elim _ _ _ h
  cases hfree:st'.tmps.all (freeB 5 m.drop)&&(sg'.all (freeOB m.drop)&&st'.up.all (freeOB m.drop)) with
  | false=>rw [hfree] at h; exact h.elim
  | true =>
   rw [hfree] at h
   simp only [Bool.and_eq_true,List.all_eq_true] at hfree
   obtain ⟨hf1,hf2,hf3⟩:=hfree
   have hown:∀ d b,((l.untok m.drop).unown m.drop).own d=some b→memb m.drop d=false∧l.own d=some b:=fun d b h=>by
    simp only [Loc.unown] at h
    by_cases hm:memb m.drop d=true
    ·rw [if_pos hm] at h; cases h
    rw [if_neg hm] at h; exact ⟨by simpa using hm,h⟩
   have htok:∀ d t,((l.untok m.drop).unown m.drop).tok d=some t→memb m.drop d=false∧l.tok d=some t:=fun d t h=>by
    simp only [Loc.unown,Loc.untok] at h
    by_cases hm:memb m.drop d=true
    ·rw [if_pos hm] at h; cases h
    rw [if_neg hm] at h; exact ⟨by simpa using hm,h⟩
   have hlook:∀ d ao,lookA sg' d=some ao→memb m.drop d=false∧lookA st'.seg d=some ao:=fun d ao h=>by
    rw [hdrop d] at h
    by_cases hm:memb m.drop d=true
    ·rw [if_pos hm] at h; cases h
    rw [if_neg hm] at h; exact ⟨by simpa using hm,h⟩
   have hlook':∀ d ao,memb m.drop d=false→lookA st'.seg d=some ao→lookA sg' d=some ao:=fun d ao hm h=>by rw [hdrop d,if_neg (by simp [hm])]; exact h
   have hmut:∀ {k d b},Mut ((l.untok m.drop).unown m.drop) { st' with seg:=sg' } k d b→Mut l st' k d b:=fun {k d b} hm=>by
    cases k with
    | true=>exact hm
    | false =>
     obtain ⟨ao,h1,h2⟩:=hm
     obtain ⟨h3,h4⟩:=hlook _ _ h1
     refine ⟨ao,h4,?_⟩
     cases ao with
     | cells cs=>exact (hown _ _ h2).2
     | frz cs=>exact h2
     | row u f=>obtain ⟨n,cap,h2⟩:=h2; exact ⟨n,cap,(htok _ _ h2).2⟩
     | mpz ks us=>exact h2.elim
     | mp kvs=>exact (hown _ _ h2).2
   refine ⟨_,V1,(l.untok m.drop).unown m.drop,h,Loc.le_refl _,hs3.cb.mono rfl rfl (fun d b e h=>by simp only [Loc.unown,hpin d b e]; exact h) (fun _ _ h=>h) (fun _ _ _=>rfl),hs3.inv,hs3.g,hs3.vlt,hs3.vem,hs3.sz,fun i c hi=>?_,fun d ao hd=>?_,fun d ao hd=>?_,fun d b hb=>?_,fun d t ht=>?_,
    fun k d b hm=>hs3.mine k d b (hmut hm),fun k d k' d' b h1 h2=>hs3.dis _ _ _ _ _ (hmut h1) (hmut h2)⟩
   ·exact (hs3.tmps i c hi).unown 5 (by simpa using hf1 _ (List.mem_of_getElem? hi))
   ·obtain ⟨h1,h2⟩:=hlook _ _ hd
    have h3:=hs3.seg d ao h2
    have h4:=hf2 _ (lookA_mem hd)
    have hown':∀ b,l.own d=some b→((l.untok m.drop).unown m.drop).own d=some b:=fun b hb=>by simp only [Loc.unown,h1]; exact hb
    cases ao with
    | cells cs=>obtain ⟨b,hb,c,el,h5,h6,h7⟩:=h3; exact ⟨b,hown' b hb,c,el,h5,h6.unown 5 (by simpa [freeOB] using h4),h7⟩
    | frz cs=>obtain ⟨b,ws,hb,h5⟩:=h3; exact ⟨b,ws,hown' b hb,h5⟩
    | row u f=>obtain ⟨t,ht,h5⟩:=h3; exact ⟨t,by simp only [Loc.unown,Loc.untok,h1]; exact ht,h5⟩
    | mpz ks us=>obtain ⟨b,hb,h5⟩:=h3; exact ⟨b,hown' b hb,h5⟩
    | mp kvs=>obtain ⟨b,hb,h5⟩:=h3; exact ⟨b,hown' b hb,h5⟩
   ·have h3:=hs3.up d ao hd
    have h4:=hf3 _ (lookA_mem hd)
    cases ao with
    | cells cs=>obtain ⟨b,hb,c,el,h5,h6,h7⟩:=h3; exact ⟨b,hb,c,el,h5,h6.unown 5 (by simpa [freeOB] using h4),h7⟩
    | frz cs=>exact h3
    | row u f=>trivial
    | mp kvs=>trivial
    | mpz ks us=>trivial
   ·obtain ⟨h1,h2⟩:=hown _ _ hb
    obtain ⟨cs,h3,h4⟩:=hs3.rego d b h2
    exact ⟨cs,hlook' _ _ h1 h3,h4⟩
   obtain ⟨h1,h2⟩:=htok _ _ ht
   obtain ⟨u,f,h3⟩:=hs3.regt d t h2
   exact ⟨u,f,hlook' _ _ h1 h3⟩
theorem wkP_elim {pin:List Nat} {m:Wk} {K:St S→Prop} (hs:SR gl En x w V l ts st) (hpin:∀ d b,En.owns d=some b→memb pin d=true) (h:wkP pin m st K):∃ st' V' l',K st'∧SR gl En x w V' l' ts st':=by
 unfold wkP at h
 cases hb:pin.all (fun d=>!memb m.drop d) with
 | false=>rw [hb] at h; exact h.elim
 | true =>
  rw [hb] at h
  refine wkK_elim hs (fun d b e=>?_) h
  have:=List.all_eq_true.1 hb d (memb_iff.1 (hpin d b e))
  simpa using this
omit [LawCod S] in
def forgF (v:AV S):AV S:=match v with
 | .sl u xs o=>match o with
  | none=>.lens xs.length
  | some d=>.sl u xs (some d)
 | v=>v
omit [Cod S] [LawCod S] in
theorem forgK_map:∀ (zs:List (AV S)) (K:List (AV S)→Prop),mapK forgK zs K=K (zs.map forgF)
 | [],K=>rfl
 | z :: zs,K=>by
  have:∀ (c:AV S) (K:AV S→Prop),forgK c K=K (forgF c):=fun c K=>by
   cases c <;> first | rfl | (rename_i u xs o; cases o <;> rfl)
  simp only [mapK,this,List.map_cons]
  exact forgK_map zs _
omit [LawCod S] in
theorem Reps.forg {vs:List Value} {cs:List (AV S)} (h:Reps w V l vs cs):Reps w V l vs (cs.map forgF):=by
 induction h with
 | nil l=>exact .nil l
 | @flat l v c vs cs h _ ih =>
  rw [List.map_cons]
  cases c with
  | sl u xs o =>
   cases o with
   | none =>
    obtain ⟨rfl,base,cap,rfl⟩:=h
    exact .flat (c:=.lens 0) ⟨base,cap,rfl⟩ ih
   | some d=>exact .flat h ih
  | _=>exact .flat h ih
 | ref h r _ _ ih=>exact .ref h r ih
 | @sl l u xs b o cap ws vs cs h r hc _ _ ih=>exact .flat (c:=.lens xs.length) ⟨_,_,rfl⟩ ih
 | tok ht h r hc _ _ ih=>exact .tok ht h r hc ih
 | clo r r' _ _ _ ih=>exact .clo r r' ih
 | agg r _ _ ih=>exact .agg r ih
 | tup r _ _ ih=>exact .tup r ih
 | arr hx r _ _ ih=>exact .arr hx r ih
 | mpf hv hm hb r r' _ _ _ ih=>exact .mpf hv hm hb r r' ih
theorem Reps.vf {vs:List Value} {cs:List (AV S)} (h:Reps w V l vs cs):∀ n,cs.all (vfB n)=true→∀ V',Reps w V' l vs cs:=by
 have hcons:∀ {n:Nat} {c:AV S} {cs:List (AV S)},(c :: cs).all (vfB n)=true→vfB n c=true∧cs.all (vfB n)=true:=fun h=>by simpa using h
 induction h with
 | nil=>exact fun _ _ _=>.nil _
 | flat h _ ih=>exact fun n hn V'=>.flat h (ih n (hcons hn).2 _)
 | ref h r _ _ ih=>intro n hn; have h1:=(hcons hn).1; cases n <;> simp [vfB] at h1
 | sl h r hcp _ _ ih=>intro n hn; have h1:=(hcons hn).1; cases n <;> simp [vfB] at h1
 | tok ht h r hcp _ _ ih =>
  intro n hn V'
  obtain ⟨h1,h2⟩:=hcons hn
  cases n with
  | zero=>simp [vfB] at h1
  | succ n=>simp only [vfB] at h1; exact .tok ht h (Reps.dataL h1 _ r _ _ _) hcp (ih _ h2 _)
 | clo r r' _ ih1 ih2 ih =>
  intro n hn V'
  obtain ⟨h1,h2⟩:=hcons hn
  cases n with
  | zero=>simp [vfB] at h1
  | succ n=>simp only [vfB,Bool.and_eq_true] at h1; exact .clo (ih1 n h1.1 _) (ih2 n h1.2 _) (ih _ h2 _)
 | agg r _ ih1 ih =>
  intro n hn V'
  obtain ⟨h1,h2⟩:=hcons hn
  cases n with
  | zero=>simp [vfB] at h1
  | succ n=>simp only [vfB] at h1; exact .agg (ih1 n h1 _) (ih _ h2 _)
 | tup r _ ih1 ih =>
  intro n hn V'
  obtain ⟨h1,h2⟩:=hcons hn
  cases n with
  | zero=>simp [vfB] at h1
  | succ n=>simp only [vfB] at h1; exact .tup (ih1 n h1 _) (ih _ h2 _)
 | arr hx r _ _ ih =>
  intro n hn V'
  obtain ⟨h1,h2⟩:=hcons hn
  cases n with
  | zero=>simp [vfB] at h1
  | succ n=>simp only [vfB] at h1; exact .arr hx (Reps.dataL h1 _ r _ _ _) (ih _ h2 _)
 | mpf hv hm hb r r' _ _ _ ih=>intro n hn; have h1:=(hcons hn).1; cases n <;> simp [vfB] at h1
def ResO (a a':AO S):Prop:=match a with
 | .cells cs=>a'=.cells (cs.map forgF)∧(cs.map forgF).all (vfB 5)=true
 | .row u _=>a'=.row u true
 | _=>False
omit [LawCod S] in
theorem resetO_elim:∀ (sg:List (Nat×AO S)) (K:List (Nat×AO S)→Prop),mapK resetO sg K→∃ sg',K sg'∧∀ d,(lookA sg d=none∧lookA sg' d=none)∨∃ a a',lookA sg d=some a∧lookA sg' d=some a'∧ResO a a'
 | [],K,h=>⟨[],h,fun d=>.inl ⟨rfl,rfl⟩⟩
 | (k,a) :: sg,K,h=>by
  have hgo:∀ a',ResO a a'→(mapK resetO sg fun l=>K ((k,a') :: l))→∃ sg',K sg'∧∀ d,(lookA ((k,a) :: sg) d=none∧lookA sg' d=none)∨∃ b b',lookA ((k,a) :: sg) d=some b∧lookA sg' d=some b'∧ResO b b':=fun a' hr h=>by
   obtain ⟨sg',hK,h1⟩:=resetO_elim sg _ h
   refine ⟨_,hK,fun d=>?_⟩
   by_cases hk:k=d
   ·exact .inr ⟨a,a',by simp [lookA,hk],by simp [lookA,hk],hr⟩
   simp only [lookA,hk,if_false]; exact h1 d
  simp only [mapK,resetO] at h
  cases a with
  | cells cs =>
   simp only [forgK_map] at h
   cases hb:(cs.map forgF).all (vfB 5) with
   | false=>rw [hb] at h; exact h.elim
   | true=>rw [hb] at h; exact hgo _ ⟨rfl,hb⟩ h
  | row u f=>exact hgo _ rfl h
  | _=>exact h.elim
theorem resetK_elim {K:St S→Prop} (hs:SR gl En x w V l ts st) (hfz:∀ b o v,¬ En.fz b o v) (h:resetK st K):∃ st',K st'∧SR gl En x w (fun _ _=>False) l ts st':=by
 unfold resetK at h
 cases hup:st.up with
 | cons p q=>rw [hup] at h; exact h.elim
 | nil =>
  rw [hup] at h
  simp only [forgK_map] at h
  cases hb:(st.tmps.map forgF).all (vfB 5) with
  | false=>rw [hb] at h; exact h.elim
  | true =>
   rw [hb] at h
   obtain ⟨sg,h,hsg⟩:=resetO_elim _ _ h
   have hmut:∀ {k d b},Mut l ({ tmps:=st.tmps.map forgF,seg:=sg,up:=[] }:St S) k d b→Mut l st k d b:=fun {k d b} hm=>by
    cases k with
    | true=>obtain ⟨ao,h1,_⟩:=hm; simp [lookA] at h1
    | false =>
     obtain ⟨ao,h1,h2⟩:=hm
     rcases hsg d with ⟨_,h3⟩ | ⟨a,a',h3,h4,h5⟩
     ·rw [h3] at h1; cases h1
     rw [h4] at h1; cases h1
     refine ⟨a,h3,?_⟩
     cases a with
     | cells cs=>obtain ⟨rfl,_⟩:=h5; exact h2
     | row u f=>have h5:ao=.row u true:=h5; subst h5; exact h2
     | _=>exact h5.elim
   refine ⟨_,h,hs.le,⟨hs.cb.cb,hs.cb.up,hs.cb.own,fun b o v e=>absurd e (hfz b o v)⟩,hs.inv,hs.g,fun _ _ h=>h.elim,fun _ _ h=>h.elim,by simp [hs.sz],fun i c hi=>?_,fun d ao hd=>?_,fun d ao hd=>by simp [lookA] at hd,
    fun d b hb=>?_,fun d t ht=>?_,fun k d b hm=>hs.mine k d b (hmut hm),fun k d k' d' b h1 h2=>hs.dis _ _ _ _ _ (hmut h1) (hmut h2)⟩
   ·have hi:(st.tmps.map forgF)[i]?=some c:=hi
    rw [List.getElem?_map] at hi
    cases hc:st.tmps[i]? with
    | none=>rw [hc] at hi; cases hi
    | some c0 =>
     rw [hc] at hi
     have hi:forgF c0=c:=by simpa using hi
     subst hi
     have hm:=List.all_eq_true.1 hb (forgF c0) (List.mem_map_of_mem (List.mem_of_getElem? hc))
     exact Reps.vf (cs:=[forgF c0]) (hs.tmps i c0 hc).forg 5 (by simpa using hm) _
   ·rcases hsg d with ⟨_,h3⟩ | ⟨a,a',h3,h4,h5⟩
    ·rw [h3] at hd; cases hd
    rw [h4] at hd; cases hd
    have h6:=hs.seg d a h3
    cases a with
    | cells cs =>
     obtain ⟨rfl,h7⟩:=h5
     obtain ⟨b,hb,c,el,h8,h9,_⟩:=h6
     exact ⟨b,hb,c,el,h8,h9.forg.vf 5 h7 _,fun _ h=>h⟩
    | row u f =>
     have h5:ao=.row u true:=h5
     subst h5
     obtain ⟨t,ht,h7⟩:=h6
     refine ⟨t,ht,?_⟩
     cases t with
     | no=>trivial
     | «at» b n cap=>obtain ⟨c,el,h8,h9,h10,_⟩:=h7; exact ⟨c,el,h8,h9,h10,fun _ h=>h⟩
    | _=>exact h5.elim
   ·obtain ⟨ao,h1,h2⟩:=hs.rego d b hb
    rcases hsg d with ⟨h3,_⟩ | ⟨a,a',h3,h4,h5⟩
    ·rw [h3] at h1; cases h1
    rw [h3] at h1; cases h1
    cases ao with
    | cells cs=>obtain ⟨rfl,_⟩:=h5; exact ⟨_,h4,trivial⟩
    | row u f=>exact h2.elim
    | _=>exact h5.elim
   obtain ⟨u,f,h1⟩:=hs.regt d t ht
   rcases hsg d with ⟨h3,_⟩ | ⟨a,a',h3,h4,h5⟩
   ·rw [h3] at h1; cases h1
   rw [h3] at h1; cases h1
   have h5:a'=.row u true:=h5
   subst h5
   exact ⟨u,true,h4⟩
theorem wkR_elim {rs:Bool} {pin:Bool×List Nat} {m:Wk} {K:St S→Prop} (hs:SR gl En x w V l ts st) (hpin:∀ d b,En.owns d=some b→memb pin.2 d=true) (hfz:rs=true→pin.1=false→∀ b o v,¬ En.fz b o v) (h:wkR rs pin m st K) :
  ∃ st' V' l',K st'∧SR gl En x w V' l' ts st':=by
 unfold wkR at h
 cases rs with
 | false=>exact wkP_elim hs hpin h
 | true =>
  simp only at h
  cases hp:pin.1 with
  | true=>rw [hp] at h; exact wkP_elim hs hpin h
  | false =>
   rw [hp] at h
   obtain ⟨r,h⟩:=h
   obtain ⟨st',V',l',h,hs'⟩:=wkP_elim hs hpin h
   cases r with
   | false=>exact ⟨st',V',l',h,hs'⟩
   | true=>obtain ⟨st2,h,hs2⟩:=resetK_elim hs' (hfz rfl hp) h; exact ⟨st2,_,l',h,hs2⟩
def RoOk (En:Env X) (ro:Option Nat) (b:Bool):Prop:=(b=false→ro=none)∧(b=true→∃ L r,ro=some L∧∀ x w,En.inv x w→w.heap[L]?=some (.loop r))
def Sound (P:Program) (gl:Gl) (par:Par S X) (c:Code):Prop :=
 ∀ (En:Env X),ParOk P gl par En→∀ (ro:Option Nat) (n:Nat) (pin:Bool×List Nat),(∀ d b,En.owns d=some b→memb pin.2 d=true)→RoOk En ro pin.1→(par.rs=true→pin.1=false→∀ b o v,¬ En.fz b o v) →
  ∀ (D0:List Nat) (Qa:AExit→St S→X→Prop) (st:St S) (x:X) (a:Act) (w:World) (V:Nat→Nat→Prop) (l:Loc) (Ds:List Nat),aWp par c pin Qa st x→SR gl (En.marks Ds) x w V l a.tmps st →
   a.defers=Ds.map markOf→(pin.1=true→Ds=D0)→c.wpIn (Fo ro) n P (Post gl En pin.1 D0 Qa) a w
end Go.Ab
namespace Go.Ab
open Go
variable {S:Sig} [Cod S]
variable {X:Type} {gl:Gl} {P:Program} {par:Par S X} {En:Env X}
structure RS (S:Sig) (X:Type) where
 x:X
 seg:List (Nat×AO S)
 up:List (Nat×AO S)
 l:Loc
 V:Nat→Nat→Prop
 B:Nat→Prop
 jump:Option AExit
def AExit.code:AExit→Option Code
 | .normal=>none
 | .ret=>some .ret
 | .exit id=>some (.exit id)
def RS.st (y:RS S X) (sts:List (AV S)):St S:={ tmps:=sts,seg:=y.seg,up:=y.up }
def recOf (fn:FuncId) (tmps:Array Value) (ps:Array Tmp) (assign body:Code) (D:Nat) (j:Option AExit):Loop :=
 { state:=match j with | none=>.ready | some _=>.done,pending:=j.bind AExit.code,fn,tmps,params:=ps,assign,body,defers:=D }
structure IterInv (gl:Gl) (En:Env X) (ts0:Array Value) (sts:List (AV S)) (L:Nat) (rc:Option AExit→Loop) (n1:Nat) (y:RS S X) (w:World):Prop where
 sr:SR gl En y.x w y.V y.l ts0 (y.st sts)
 rec_:w.heap[L]?=some (.loop (rc y.jump))
 nL:¬ En.E y.x L
 bL:y.B L
 b1:∀ b,b < n1→y.B b
 g1:gl.g0≤n1
 vB:∀ b o,y.V b o→y.B b
 mB:∀ b,MutB y.l (y.st sts) b→y.B b
 eB:∀ b,En.E y.x b→y.B b
 lt:∀ b,y.B b→b < w.heap.size
def Env.iter (gl:Gl) (En:Env X) (ts0:Array Value) (sts:List (AV S)) (L:Nat) (rc:Option AExit→Loop) (n1:Nat):Env (RS S X) where
 fv:=some (.func (.yield L) #[] #[])
 ups _:=none
 owns _:=none
 fz _ _ _:=False
 inv y w:=IterInv gl En ts0 sts L rc n1 y w
 E y b:=y.B b∨En.E y.x b∨MutB y.l (y.st sts) b
 EM y b o:=En.EM y.x b o∨(MutB y.l (y.st sts) b∧¬ y.V b o)
 lt y w b h hb:=by
  rcases hb with hb | hb | hb
  ·exact h.lt b hb
  ·exact h.lt b (h.eB b hb)
  exact h.lt b (h.mB b hb)
 emE y b o h:=h.elim (fun h=>.inr (.inl (En.emE _ _ _ h))) fun h=>.inr (.inr h.1)
 stable y w w' h hk:={
  sr:=h.sr.keep (A:=y.B) (hk.mono fun _ h=>.inl h) h.vB h.mB h.eB fun b hb=>h.b1 b (Nat.lt_of_lt_of_le hb h.g1)
  rec_:=(hk.block L (.inl h.bL)).trans h.rec_
  nL:=h.nL
  bL:=h.bL
  b1:=h.b1
  g1:=h.g1
  vB:=h.vB
  mB:=h.mB
  eB:=h.eB
  lt:=fun b hb=>Nat.lt_of_lt_of_le (h.lt b hb) hk.size }
def roundB (par:Par S X) (pin:List Nat) (ps:List Nat) (sts:List (AV S)) (assign body:Code) (args:List (AV S)) (y:RS S X) (K:AV S→RS S X→Prop):Prop :=
 y.jump=none∧(boxesOf y.seg []).all (memb pin)=true∧∃ (R:AExit→St S→X→Prop) (R2:St S→X→Prop),
  (∀ (s:St S) (x:X),R .normal s x→∃ m,wkP pin m s fun s'=>R2 s' x) ∧
  (∀ (s:St S) (x:X),R2 s x→(boxesOf s.seg []).all (memb pin)=true∧∀ l V B,K (.bool true) ⟨x,s.seg,s.up,l,V,B,none⟩) ∧
  (∀ e (s:St S) (x:X),e≠.normal→R e s x→∀ l V B,K (.bool false) ⟨x,s.seg,s.up,l,V,B,some e⟩) ∧
  eachW.setsK ps args sts fun ts'=>aWp par assign (true,pin) (fun e s' y'=>match e with
   | .normal=>aWp par body (true,pin) R s' y'
   | _=>False) { tmps:=ts',seg:=y.seg,up:=y.up } y.x
theorem roundB_mono {pin ps:List Nat} {sts:List (AV S)} {assign body:Code} (args:List (AV S)) (y:RS S X) (K K':AV S→RS S X→Prop) (hK:∀ r y,K r y→K' r y)
  (h:roundB par pin ps sts assign body args y K):roundB par pin ps sts assign body args y K':=by
 obtain ⟨h1,h2,R,R2,h3,h4,h5,h6⟩:=h
 exact ⟨h1,h2,R,R2,h3,fun s x h=>⟨(h4 s x h).1,fun l V B=>hK _ _ ((h4 s x h).2 l V B)⟩,fun e s x hne h l V B=>hK _ _ (h5 e s x hne h l V B),h6⟩
theorem eachB_of_eachW {pin ps:List Nat} {sts:List (AV S)} {assign body:Code} {Qa:AExit→St S→X→Prop}:∀ (vss:List (List (AV S))) (y:RS S X),y.jump=none→(boxesOf y.seg []).all (memb pin)=true →
  eachW pin ps sts (fun K s y=>aWp par assign (true,pin) (fun e s' y'=>match e with
   | .normal=>aWp par body (true,pin) K s' y'
   | _=>False) s y) Qa vss y.seg y.up y.x →
  eachB (roundB par pin ps sts assign body) vss y fun y'=>match y'.jump with
   | none=>Qa .normal (y'.st sts) y'.x
   | some e=>e≠.normal∧Qa e (y'.st sts) y'.x
 | [],y,hj,hb,h=>by simp only [eachB,hj]; exact h
 | vs :: vss,y,hj,hb,h=>by
  refine ⟨hj,hb,fun e st' x'=>match e with
   | .normal=>∃ m,wkP pin m st' fun s=>match (boxesOf s.seg []).all (memb pin) with
    | true=>eachW pin ps sts (fun K s y=>aWp par assign (true,pin) (fun e s' y'=>match e with
   | .normal=>aWp par body (true,pin) K s' y'
   | _=>False) s y) Qa vss s.seg s.up x'
    | false=>False
   | e=>Qa e { tmps:=sts,seg:=st'.seg,up:=st'.up } x',fun s x'=>match (boxesOf s.seg []).all (memb pin) with
    | true=>eachW pin ps sts (fun K s y=>aWp par assign (true,pin) (fun e s' y'=>match e with
   | .normal=>aWp par body (true,pin) K s' y'
   | _=>False) s y) Qa vss s.seg s.up x'
    | false=>False,fun s x h=>h,fun s x h=>?_,fun e s x hne h l V B=>?_,h⟩
  ·dsimp only at h
   cases hb':(boxesOf s.seg []).all (memb pin) with
   | false=>rw [hb'] at h; exact h.elim
   | true =>
    rw [hb'] at h
    exact ⟨rfl,fun l V B=>eachB_of_eachW vss ⟨x,s.seg,s.up,l,V,B,none⟩ rfl hb' h⟩
  cases e with
  | normal=>exact absurd rfl hne
  | ret=>exact ⟨hne,h⟩
  | exit id=>exact ⟨hne,h⟩
omit [Cod S] in
theorem boxesOf_mem {sg:List (Nat×AO S)} {d:Nat} {ao:AO S}:∀ {l:List Nat},lookA sg d=some ao→(∀ u f,ao≠.row u f)→d∈boxesOf sg l:=by
 induction sg with
 | nil=>intro l h; simp [lookA] at h
 | cons p sg ih =>
  intro l h hr
  obtain ⟨k,a⟩:=p
  simp only [lookA] at h
  by_cases hk:k=d
  ·rw [if_pos hk] at h
   cases h
   cases ao with
   | row u f=>exact absurd rfl (hr u f)
   | cells cs=>simp only [boxesOf]; exact List.mem_cons.2 (.inl hk.symm)
   | frz cs=>simp only [boxesOf]; exact List.mem_cons.2 (.inl hk.symm)
   | mpz ks us=>simp only [boxesOf]; exact List.mem_cons.2 (.inl hk.symm)
   | mp kvs=>simp only [boxesOf]; exact List.mem_cons.2 (.inl hk.symm)
  rw [if_neg hk] at h
  cases a <;> simp only [boxesOf] <;> first | exact ih h hr | exact List.mem_cons_of_mem _ (ih h hr)
omit [Cod S] in
theorem boxesOf_keep {sg:List (Nat×AO S)} {d:Nat}:∀ {l:List Nat},d∈l→d∈boxesOf sg l:=by
 induction sg with
 | nil=>exact fun h=>h
 | cons p sg ih =>
  intro l h
  obtain ⟨k,a⟩:=p
  cases a <;> simp only [boxesOf] <;> first | exact ih h | exact List.mem_cons_of_mem _ (ih h)
omit [Cod S] in
theorem boxesOf_sub {sg:List (Nat×AO S)} {d:Nat} {l:List Nat} (h:d∈boxesOf sg []):d∈boxesOf sg l:=by
 induction sg with
 | nil=>cases h
 | cons p sg ih =>
  obtain ⟨k,a⟩:=p
  cases a <;> simp only [boxesOf] at h ⊢
  case row u f=>exact ih h
  all_goals exact (List.mem_cons.1 h).elim (fun e=>List.mem_cons.2 (.inl e)) fun h=>List.mem_cons_of_mem _ (ih h)
omit [Cod S] in
theorem boxesOf_all {sg:List (Nat×AO S)} {pin:List Nat} (h:(boxesOf sg []).all (memb pin)=true) {d:Nat} {ao:AO S} (hd:lookA sg d=some ao) (hr:∀ u f,ao≠.row u f):memb pin d=true :=
 List.all_eq_true.1 h d (boxesOf_mem hd hr)
theorem SR.pins {x:X} {w:World} {V:Nat→Nat→Prop} {l:Loc} {ts:Array Value} {st:St S} (hs:SR gl En x w V l ts st) {pin:List Nat} (h:(boxesOf st.seg []).all (memb pin)=true) {d b:Nat} (hd:l.own d=some b):memb pin d=true:=by
 obtain ⟨cs,h1,h2⟩:=hs.rego d b hd
 exact boxesOf_all h h1 fun u f e=>by subst e; exact h2
variable [LawCod S]
theorem setsK_elim {x:X} {w:World} {V:Nat→Nat→Prop} {l:Loc}:∀ (ps:List Nat) (args:List (AV S)) (vs:List Value) (ts:Array Value) (st:St S) (K:List (AV S)→Prop),SR gl En x w V l ts st→(∃ w' V',Reps w' V' Loc.none vs args)→eachW.setsK ps args st.tmps K →
  vs.length=ps.length∧∃ ts',K ts'∧SR gl En x w V l ((ps.zip vs).foldl (fun t (p:Nat×Value)=>t.setIfInBounds p.1 p.2) ts) { st with tmps:=ts' }
 | [],[],vs,ts,st,K,hs,⟨w',V',hr⟩,h=>by rw [hr.nil_inv]; exact ⟨rfl,st.tmps,h,hs⟩
 | [],_ :: _,_,_,_,_,_,_,h=>h.elim
 | _ :: _,[],_,_,_,_,_,_,h=>h.elim
 | p :: ps,c :: args,vs,ts,st,K,hs,⟨w',V',hr⟩,h=>by
  have hgo:NotArr c→(match dataB 5 c with
    | true=>setK st.tmps p c fun ts'=>eachW.setsK ps args ts' K
    | false=>False)→vs.length=(p :: ps).length∧∃ ts',K ts'∧SR gl En x w V l (((p :: ps).zip vs).foldl (fun t (p:Nat×Value)=>t.setIfInBounds p.1 p.2) ts) { st with tmps:=ts' }:=fun hna h=>by
   obtain ⟨v,vs',rfl,h1,h2⟩:=hr.head hna
   cases hdb:dataB 5 c with
   | false=>rw [hdb] at h; exact h.elim
   | true =>
    rw [hdb] at h
    simp only [setK_eq] at h
    have hv:Rep w V l v c:=h1.data 5 (by simp [hdb]) _ _ _
    obtain ⟨hl,ts',hK,hs'⟩:=setsK_elim ps args vs' _ { st with tmps:=st.tmps.set p c } K (hs.setTmp p hv) ⟨w',V',h2⟩ h
    exact ⟨by simp [hl],ts',hK,hs'⟩
  cases c <;> first | exact h.elim | exact hgo trivial h
theorem putL_cell {w:World} {L:Nat} {r r':Loop} (hL:w.heap[L]?=some (.loop r)) (b o:Nat):eye (w.putObj L (.loop r')) b o=eye w b o:=by
 by_cases hb:b=L
 ·subst hb
  simp only [eye,World.cell?,World.putObj_heap_same (lt_of_heap hL),hL]
 exact cell_congr (World.putObj_heap_other hb) o
theorem putL_size {w:World} {L:Nat} {o:Go.Obj}:(w.putObj L o).heap.size=w.heap.size:=by simp [World.putObj]
omit [LawCod S] in
theorem not_mutL {x:X} {w:World} {V:Nat→Nat→Prop} {l:Loc} {ts:Array Value} {st:St S} (hs:SR gl En x w V l ts st) {L:Nat} {r:Loop} (hL:w.heap[L]?=some (.loop r)):¬ MutB l st L:=fun ⟨k,d,hm⟩=>by
 obtain ⟨o',hc,ho⟩:=hs.mltO hm
 rw [hL] at hc; cases hc; exact ho
omit [LawCod S] in
theorem round_end {ts0:Array Value} {sts:List (AV S)} {L:Nat} {rc:Option AExit→Loop} {n1:Nat} {y:RS S X} {w w1 w3:World} (hinv:IterInv gl En ts0 sts L rc n1 y w) {x1 x2:X} {V1 V2:Nat→Nat→Prop} {l1 l2:Loc} {U1:Nat→Prop} {st2:St S} {ts2:Array Value} {rb:Loop}
  (h1:Link gl En y.x w y.V y.l y.l.own (MutB y.l (y.st sts)) x1 w1 V1 l1 U1) (hL1:w1.heap[L]?=some (.loop (rc y.jump)))
  (h2:Link gl En x1 (w1.putObj L (.loop rb)) V1 l1 y.l.own U1 x2 w3 V2 l2 (MutB l2 st2)) (hL3:w3.heap[L]?=some (.loop rb)) (hs2:SR gl En x2 w3 V2 l2 ts2 st2) (hstay:sts.all (stayB 6)=true) (j:Option AExit) :
  EnvStep gl (Env.iter gl En ts0 sts L rc n1) y w ⟨x2,st2.seg,st2.up,l2,V2,fun b=>y.B b∨(w.heap.size≤b∧b < w3.heap.size),j⟩ (w3.putObj L (.loop (rc j))):=by
 have hsz1:=h1.step.size
 have hsz2:w1.heap.size≤w3.heap.size:=by have:=h2.step.size; rwa [putL_size] at this
 have hLlt:=hinv.lt L hinv.bL
 have hnL1:¬ En.E x1 L:=fun hE=>(h1.step.e L hE).elim hinv.nL fun h=>by omega
 have hnL2:¬ En.E x2 L:=fun hE=>(h2.step.e L hE).elim hnL1 fun h=>by rw [putL_size] at h; omega
 have hv:∀ b o,y.V b o→V2 b o∧eye w3 b o=eye w b o:=fun b o hvb=>by
  obtain ⟨h3,h4⟩:=h1.v b o hvb
  obtain ⟨h5,h6⟩:=h2.v b o h3
  exact ⟨h5,h6.trans ((putL_cell hL1 b o).trans h4)⟩
 have hU:∀ b,U1 b→MutB y.l (y.st sts) b∨w.heap.size≤b:=fun b hb=>(h1.mt b hb).2.2
 have hM2:∀ b,MutB l2 st2 b→MutB y.l (y.st sts) b∨w.heap.size≤b:=fun b hb=>(h2.mt b hb).2.2.elim (hU b) fun h=>by rw [putL_size] at h; exact .inr (by omega)
 have hE2:∀ b,En.E x2 b→En.E y.x b∨w.heap.size≤b:=fun b hb=>(h2.step.e b hb).elim (fun h=>h1.step.e b h) fun h=>by rw [putL_size] at h; exact .inr (by omega)
 have hEM2:∀ b o,En.EM x2 b o→En.EM y.x b o∨w.heap.size≤b:=fun b o hb=>(h2.step.em b o hb).elim (fun h=>h1.step.em b o h) fun h=>by rw [putL_size] at h; exact .inr (by omega)
 have hsr:SR gl En x2 w3 V2 l2 ts0 { tmps:=sts,seg:=st2.seg,up:=st2.up } :=
  ⟨hs2.le,hs2.cb,hs2.inv,hs2.g,hs2.vlt,hs2.vem,hinv.sr.sz,fun i c hi=>(hinv.sr.tmps i c hi).stay hv 6 l2 (by
   have:=List.all_eq_true.1 hstay c (List.mem_of_getElem? hi)
   simp [this]) h2.own (h2.up.trans h1.up) (h2.cbv.trans h1.cbv),hs2.seg,hs2.up,hs2.rego,hs2.regt,hs2.mine,hs2.dis⟩
 refine ⟨⟨SR.putL hsr hL3 hnL2,World.putObj_heap_same (lt_of_heap hL3),hnL2,.inl hinv.bL,fun b hb=>.inl (hinv.b1 b hb),hinv.g1,fun b o hvb=>?_,fun b hb=>?_,fun b hb=>?_,fun b hb=>?_⟩,(SR.putL hsr hL3 hnL2 (r':=rc j)).g,by rw [putL_size]; omega,fun b hb hE=>?_,fun b o hb hM=>?_,fun b hb=>?_,fun b o hb=>?_⟩
 ·
  obtain ⟨h3,_,h4⟩:=h2.v' b o hvb
  rcases h4 with h4 | h4 | h4
  ·obtain ⟨h5,_,h6⟩:=h1.v' b o h4
   rcases h6 with h6 | h6 | h6
   ·exact .inl (hinv.vB b o h6)
   ·exact .inl (hinv.mB b h6)
   exact .inr ⟨h6,h3⟩
  ·rcases hU b h4 with h5 | h5
   ·exact .inl (hinv.mB b h5)
   exact .inr ⟨h5,h3⟩
  rw [putL_size] at h4
  exact .inr ⟨by omega,h3⟩
 ·rcases hM2 b hb with h3 | h3
  ·exact .inl (hinv.mB b h3)
  exact .inr ⟨h3,(h2.mt b hb).2.1⟩
 ·rcases hE2 b hb with h3 | h3
  ·exact .inl (hinv.eB b h3)
  exact .inr ⟨h3,En.lt _ _ _ hs2.inv hb⟩
 ·rw [putL_size]
  rcases hb with hb | hb
  ·have:=hinv.lt b hb; omega
  exact hb.2
 ·
  have hnB:¬ y.B b:=fun h=>hE (.inl h)
  have hbL:b≠L:=fun e=>hnB (e ▸ hinv.bL)
  have hnE1:¬ En.E y.x b:=fun h=>hE (.inr (.inl h))
  have hnM:¬ MutB y.l (y.st sts) b:=fun h=>hE (.inr (.inr h))
  have e1:=h1.step.block b hb hnE1 hnM
  have e2:=h2.step.block b (by rw [putL_size]; omega) (fun h=>(h1.step.e b h).elim hnE1 fun h=>by omega) (fun h=>(hU b h).elim hnM fun h=>by omega)
  rw [World.putObj_heap_other hbL,e2,World.putObj_heap_other hbL,e1]
 ·
  rw [putL_cell hL3]
  have hnM:¬ En.EM y.x b o:=fun h=>hM (.inl h)
  by_cases hvb:y.V b o
  ·exact (hv b o hvb).2
  have hnU:¬ MutB y.l (y.st sts) b:=fun h=>hM (.inr ⟨h,hvb⟩)
  have e1:=h1.step.cell b o hb hnU hnM
  have e2:=h2.step.cell b o (by rw [putL_size]; omega) (fun h=>(hU b h).elim hnU fun h=>by omega) (fun h=>(h1.step.em b o h).elim hnM fun h=>by omega)
  rw [e2,putL_cell hL1,e1]
 ·rcases hb with hb | hb | hb
  ·rcases hb with hb | hb
   ·exact .inl (.inl hb)
   exact .inr hb.1
  ·exact (hE2 b hb).imp (fun h=>.inr (.inl h)) id
  exact (hM2 b hb).imp (fun h=>.inr (.inr h)) id
 rcases hb with hb | hb
 ·exact (hEM2 b o hb).imp .inl id
 exact (hM2 b hb.1).imp (fun h=>.inr ⟨h,fun hvb=>hb.2 (hv b o hvb).1⟩) id
theorem hd_call {o:Oper} {c:Call} (ho:o.op=.call c):∀ c',o.op≠.defer c':=fun c' e=>by rw [ho] at e; cases e
theorem roundB_ok {assign body:Code} (ha:Sound P gl par assign) (hb:Sound P gl par body) (hpo:ParOk P gl par En) {ts0:Array Value} {sts:List (AV S)} {L D:Nat} {fn:FuncId} {ps:Array Tmp} {n1:Nat} {pin:List Nat} (hstay:sts.all (stayB 6)=true) (_hpin:∀ d b,En.owns d=some b→memb pin d=true) :
  CbOk P gl (Env.iter gl En ts0 sts L (recOf fn ts0 ps assign body D) n1) (roundB par pin ps.toList sts assign body):=by
 intro args y K hB ro n w V fv vs hfv hinv hG hlt hem hr o a c f ho hcal hev hargs next Q hn
 obtain ⟨hj,hbx,R,R2,hR,hR2,hRe,hset⟩:=hB
 have hfv:fv=.func (.yield L) #[] #[]:=(Option.some.inj hfv).symm
 subst hfv
 have hinv:IterInv gl En ts0 sts L (recOf fn ts0 ps assign body D) n1 y w:=hinv
 have hLrec:=hinv.rec_
 rw [hj] at hLrec
 have hLlt:=lt_of_heap hLrec
 have hs1:=SR.enter hinv.sr (owns:=y.l.own) (fun _ _ e=>e)
 obtain ⟨hlen,ts',hset,hs1⟩:=setsK_elim ps.toList args vs ts0 (y.st sts) _ hs1 ⟨w,V,hr⟩ hset
 have hy:=run_yield (P:=P) (args:=vs.toArray) hLrec (by simpa [recOf] using hlen)
 have hzip:((recOf fn ts0 ps assign body D none).params.zip vs.toArray).foldl (fun tmps (p:Tmp×Value)=>tmps.setIfInBounds p.1 p.2) (recOf fn ts0 ps assign body D none).tmps =
   (ps.toList.zip vs).foldl (fun t (p:Nat×Value)=>t.setIfInBounds p.1 p.2) ts0:=by
  rw [←Array.foldl_toList]
  simp [recOf]
 have hargs':c.args.map a.eval=vs.toArray:=by apply Array.ext'; simpa using hargs
 refine ⟨fun _ _=>trivial,?_⟩
 rw [Oper.semAt_plain _ _ _ (hd_call ho)]
 have hy2:(Instr.yield L vs.toArray).run P w=.ok (.round L fn ((ps.toList.zip vs).foldl (fun t (p:Nat×Value)=>t.setIfInBounds p.1 p.2) ts0) assign body) w:=by
  rw [hy,←hzip]; rfl
 have hrun:(execOp a.eval o).run P w=.ok (.round L fn ((ps.toList.zip vs).foldl (fun t (p:Nat×Value)=>t.setIfInBounds p.1 p.2) ts0) assign body) w:=by
  rw [←hy2]
  simp only [execOp,ho,resolve,hcal,hev,Deferred.ofValue]
  simp [Sem.run_bind,Pure.pure,Result.andThen,invoke,hargs']
 rw [hrun,Oper.uponIn_round]
 refine ⟨fun h=>by simp [Fo,Fence.wide] at h,?_⟩
 have hnoL:¬ MutB y.l (y.st sts) L:=not_mutL hinv.sr hLrec
 have hoo:∀ d b,En.owns d=some b→y.l.own d=some b:=hinv.sr.cb.own
 have hpy:∀ d b,y.l.own d=some b→memb pin d=true:=fun d b hd=>hinv.sr.pins hbx hd
 have hfin:∀ (r:Bool) (y':RS S X) (w4:World),K (.bool r) y'→EnvStep gl (Env.iter gl En ts0 sts L (recOf fn ts0 ps assign body D) n1) y w y' w4→next (a.put o.dst (.bool r)) w4:=fun r y' w4 hK he =>
  hn (.bool r) w4 ⟨.bool r,y',hK,he,Rep.flat1 rfl⟩
 refine RoundIn.mono (R:=fun e w4=>∃ v,e=.returned v∧next (a.put o.dst v) w4) (roundIn_of_wpIn (F:=Fo ro) (by trivial) ?_) (by rintro e w4 ⟨v,rfl,h⟩; exact h)
 refine wpIn_mono (ha (En.sub y.x w y.V (MutB y.l (y.st sts)) y.l.up y.l.own) (hpo.ext Env.sub_ext) (some L) (n - 1) (true,pin) (fun d b e=>hpy d b e) ⟨(fun h=>by cases h),fun _=>⟨L,_,rfl,fun x' w' hi=>(SubInv.block hi L hLlt hinv.nL hnoL).trans hLrec⟩⟩ (fun _ h=>by cases h) [] _ { tmps:=ts',seg:=y.seg,up:=y.up } y.x { tmps:=_,defers:=[] } w y.V y.l [] hset (SR.marks_nil hs1) rfl (fun _=>rfl)) fun e a1 w1 hq=>?_
 cases e with
 | normal =>
  obtain ⟨st1,x1,V1,l1,Ds1,hbody,hs1',hd1,hD1⟩:=hq
  have hD1:=hD1 rfl
  subst hD1
  obtain ⟨hsr1,h1⟩:=SR.leave hinv.sr hoo (SR.of_marks_nil hs1')
  have hL1:w1.heap[L]?=some (.loop (recOf fn ts0 ps assign body D y.jump)):=by rw [h1.step.block L hLlt hinv.nL hnoL,hj]; exact hLrec
  have hL1':=hL1
  rw [hj] at hL1'
  have hnL1:¬ En.E x1 L:=fun hE=>(h1.step.e L hE).elim hinv.nL fun h=>by omega
  refine ⟨_,run_beginRound hL1' rfl,?_⟩
  have hsr2:=SR.putL (r':={ recOf fn ts0 ps assign body D none with state:=.busy }) hsr1 hL1 hnL1
  have hL2:(w1.putObj L (.loop { recOf fn ts0 ps assign body D none with state:=.busy })).heap[L]?=some (.loop { recOf fn ts0 ps assign body D none with state:=.busy }):=World.putObj_heap_same (lt_of_heap hL1)
  have hs2:=SR.enter hsr2 (owns:=y.l.own) h1.own
  refine wpIn_mono (hb (En.sub x1 _ V1 (MutB l1 st1) l1.up y.l.own) (hpo.ext Env.sub_ext) (some L) (n - 1) (true,pin) (fun d b e=>hpy d b e) ⟨(fun h=>by cases h),fun _=>⟨L,_,rfl,fun x' w' hi=>(SubInv.block hi L (lt_of_heap hL2) hnL1 (not_mutL hsr2 hL2)).trans hL2⟩⟩ (fun _ h=>by cases h) [] R st1 x1 a1 _ V1 l1 [] hbody (SR.marks_nil hs2) hd1 (fun _=>rfl)) fun e a2 w3 hq=>?_
  have hLk:∀ {x2 V2 l2 U2},Link gl En x1 (w1.putObj L (.loop { recOf fn ts0 ps assign body D none with state:=.busy })) V1 l1 y.l.own (MutB l1 st1) x2 w3 V2 l2 U2→w3.heap[L]?=some (.loop { recOf fn ts0 ps assign body D none with state:=.busy }):=fun h2 =>
   (h2.step.block L (lt_of_heap hL2) hnL1 (not_mutL hsr2 hL2)).trans hL2
  have hend:∀ (j:Option AExit) {w3:World},w3.heap[L]?=some (.loop { recOf fn ts0 ps assign body D none with state:=.busy }) →
    (Instr.endRound L (j.bind AExit.code)).run P w3=.ok (.bool (j.bind AExit.code).isNone) (w3.putObj L (.loop { recOf fn ts0 ps assign body D none with state:=if (j.bind AExit.code).isNone then .ready else .done,pending:=j.bind AExit.code })):=fun j {w3} h=>by
   have:=run_endRound (P:=P) (j.bind AExit.code) h
   exact this
  have hleft:∀ (e:AExit) (co:Code),e≠.normal→e.code=some co→At gl (En.sub x1 (w1.putObj L (.loop { recOf fn ts0 ps assign body D none with state:=.busy })) V1 (MutB l1 st1) l1.up y.l.own) true [] (R e) a2 w3 →
    ∃ v w',(Instr.endRound L (some co)).run P w3=.ok v w'∧∃ v',Ending.returned v=.returned v'∧next (a.put o.dst v') w':=fun e co hne hco hq=>by
   obtain ⟨st2,x2,V2,l2,Ds2,hRq,hs3,hd3,hD3⟩:=hq
   have hD3:=hD3 rfl
   subst hD3
   obtain ⟨hsr3,h2⟩:=SR.leave hsr2 (fun d b e=>hoo d b e) (SR.of_marks_nil hs3)
   have hL3:=hLk h2
   have he:=hend (some e) hL3
   simp only [Option.bind_some,hco,Option.isNone_some] at he
   refine ⟨_,_,he,_,rfl,hfin false _ _ (hRe e st2 x2 hne hRq l2 V2 (fun b=>y.B b∨(w.heap.size≤b∧b < w3.heap.size))) ?_⟩
   have:=round_end hinv h1 hL1 h2 hL3 hsr3 hstay (some e)
   simp only [recOf,Option.bind_some,hco] at this ⊢
   exact this
  cases e with
  | normal =>
   obtain ⟨st2,x2,V2,l2,Ds2,hRn,hs3,hd3,hD3⟩:=hq
   have hD3:=hD3 rfl
   subst hD3
   obtain ⟨m,hm⟩:=hR st2 x2 hRn
   obtain ⟨st3,V3,l3,hR3,hs4⟩:=wkP_elim (SR.of_marks_nil hs3) (fun d b e=>hpy d b e) hm
   obtain ⟨hsr3,h2⟩:=SR.leave hsr2 (fun d b e=>hoo d b e) hs4
   have hL3:=hLk h2
   have he:=hend none hL3
   refine ⟨_,_,he,_,rfl,hfin true _ _ ((hR2 st3 x2 hR3).2 l3 V3 (fun b=>y.B b∨(w.heap.size≤b∧b < w3.heap.size))) ?_⟩
   exact round_end hinv h1 hL1 h2 hL3 hsr3 hstay none
  | ret=>exact hleft .ret .ret (by simp) rfl hq
  | exit id=>exact hleft (.exit id) (.exit id) (by simp) rfl hq
  | _=>exact hq.elim
 | exit id=>obtain ⟨_,_,_,_,_,h,_⟩:=hq; exact h.elim
 | ret=>obtain ⟨_,_,_,_,_,h,_⟩:=hq; exact h.elim
 | _=>exact hq.elim
theorem range_ok {g:Operand} {ps:Array Tmp} {assign body:Code} (ha:Sound P gl par assign) (hb:Sound P gl par body):Sound P gl par (.rangeFunc g ps assign body):=by
 intro En hpo ro n pin hp hro hfz D0 Qa st x a w V l Ds h hs hd hD
 simp only [aWp] at h
 obtain ⟨m,h⟩:=h
 obtain ⟨st0,V0,l0,h,hs0⟩:=wkP_elim hs hp h
 obtain ⟨gv,h,hf⟩:=evK_elim hs0 h
 cases gv with
 | clo fnv first caps =>
  cases fnv with
  | func gf =>
   cases first with
   | cons c cs=>exact h.elim
   | nil =>
    simp only at h
    obtain ⟨caps',sg,h,_,hout⟩:=(outK_elim 60).2 _ _ _ h
    simp only [forceK_eq] at h
    cases hstay:st0.tmps.all (stayB 6) with
    | false=>rw [hstay] at h; exact h.elim
    | true =>
     rw [hstay] at h
     obtain ⟨vss,hit,heach⟩:=h
     obtain ⟨first',caps0,hfv,hr1,hr2⟩:=hf.clo
     have hfirst:first'=#[]:=by apply Array.ext'; simpa using hr1.nil_inv
     subst hfirst
     obtain ⟨V1,hV1,hs1,_,hrr⟩:=hout.out hs0
     have hnl:l0.notok.le l0:=⟨fun _ _ h=>h,fun _ _ h=>h,fun _ _ h=>by simp [Loc.notok] at h,fun _ h=>h⟩
     have hcaps:Reps w V1 Loc.none caps0.toList caps':=hrr _ (hr2.more (fun _ _ h=>h) hnl)
     obtain ⟨gfn,hgf,hgb,hgn⟩:=hpo.ifn _ _ _ hit
     refine wpIn_rangeFunc fun fn hfn=>?_
     have hltE:∀ b,(En.marks Ds).E x b→b < w.heap.size:=fun b hE=>(En.marks Ds).lt _ _ _ hs1.inv hE
     have hltM:∀ b,MutB l0 { st0 with seg:=sg } b→b < w.heap.size:=fun b ⟨k,d,hm⟩=>by
      obtain ⟨o',hc⟩:=hs1.mlt hm
      exact lt_of_heap hc
     obtain ⟨W1,L,D,mk,Ds',hg1,hsz,hent,hL,hs3,hnotL,hmk,hDs⟩:∃ (W1:World) (L D:Nat) (mk:List Deferred) (Ds':List Nat),Grow w W1∧L < W1.heap.size∧(Instr.enterLoop fn a.tmps ps assign body ro).run P w=.ok (L,mk) W1 ∧
       W1.heap[L]?=some (.loop (recOf fn a.tmps ps assign body D none))∧SR gl (En.marks Ds') x W1 V1 l0 a.tmps { st0 with seg:=sg }∧¬ (En.marks Ds').E x L∧mk++a.defers=Ds'.map markOf∧(pin.1=true→Ds'=D0):=by
      cases hpin:pin.1 with
      | false =>
       have hro:=hro.1 hpin
       subst hro
       have hW1:∃ W1,(w.alloc (.deferred (some []))).alloc (.loop (recOf fn a.tmps ps assign body w.heap.size none))=W1:=⟨_,rfl⟩
       obtain ⟨W1,hW1⟩:=hW1
       have hsz:W1.heap.size=w.heap.size+2:=by rw [←hW1]; simp
       have hg1:Grow w W1:=by rw [←hW1]; exact (Grow.alloc w _).trans (Grow.alloc _ _)
       have hL:W1.heap[w.heap.size+1]?=some (.loop (recOf fn a.tmps ps assign body w.heap.size none)):=by
        rw [←hW1]; have:=heap_alloc_new (w.alloc (.deferred (some []))) (.loop (recOf fn a.tmps ps assign body w.heap.size none))
        simpa using this
       have hDf:W1.heap[w.heap.size]?=some (.deferred (some [])):=by
        rw [←hW1]
        exact ((Grow.alloc (w.alloc (.deferred (some []))) _).block w.heap.size (by simp)).trans (heap_alloc_new w _)
       have hs2:SR gl (En.marks Ds) x W1 V1 l0 a.tmps { st0 with seg:=sg }:=hs1.grow hg1 (fun _ _ h=>h) (fun _ _ h=>.inl h)
       have hinv2:=hs2.inv
       refine ⟨W1,w.heap.size+1,w.heap.size,[markOf w.heap.size],w.heap.size :: Ds,hg1,by omega,by rw [←hW1]; exact run_enterLoop_outer _ _ _ _ _,hL,?_,fun hE=>?_,by simp [hd],fun h=>by cases h⟩
       ·exact ⟨hs2.le,⟨hs2.cb.cb,hs2.cb.up,hs2.cb.own,hs2.cb.fz⟩,⟨hinv2.1,List.nodup_cons.2 ⟨fun hm=>by have:=hltE _ (.inr hm); omega,hinv2.2.1⟩,fun D hD=>by
            rcases List.mem_cons.1 hD with rfl | hD
            ·exact ⟨hDf,fun hE=>by have:=hltE _ (.inl hE); omega⟩
            ·exact hinv2.2.2 D hD⟩,hs2.g,hs2.vlt,hs2.vem,hs2.sz,hs2.tmps,hs2.seg,hs2.up,hs2.rego,hs2.regt,
            fun k d b hm=>⟨fun hE=>by
             rcases hE with hE | hE
             ·exact (hs2.mine k d b hm).1 (.inl hE)
             rcases List.mem_cons.1 hE with rfl | hE
             ·have:=hltM _ ⟨k,d,hm⟩; omega
             exact (hs2.mine k d b hm).1 (.inr hE),(hs2.mine k d b hm).2⟩,hs2.dis⟩
       rcases hE with hE | hE
       ·have:=hltE _ (.inl hE); omega
       rcases List.mem_cons.1 hE with hE | hE
       ·omega
       have:=hltE _ (.inr hE); omega
      | true =>
       obtain ⟨L0,r0,hroe,hr0⟩:=hro.2 hpin
       subst hroe
       have hrec:=hr0 _ _ hs1.inv.1
       have hW1:∃ W1,w.alloc (.loop (recOf fn a.tmps ps assign body r0.defers none))=W1:=⟨_,rfl⟩
       obtain ⟨W1,hW1⟩:=hW1
       have hsz:W1.heap.size=w.heap.size+1:=by rw [←hW1]; simp
       have hg1:Grow w W1:=by rw [←hW1]; exact Grow.alloc w _
       have hL:W1.heap[w.heap.size]?=some (.loop (recOf fn a.tmps ps assign body r0.defers none)):=by
        rw [←hW1]; exact heap_alloc_new w _
       have hs2:SR gl (En.marks Ds) x W1 V1 l0 a.tmps { st0 with seg:=sg }:=hs1.grow hg1 (fun _ _ h=>h) (fun _ _ h=>.inl h)
       exact ⟨W1,w.heap.size,r0.defers,[],Ds,hg1,by omega,by rw [←hW1]; exact run_enterLoop_inner hrec _ _ _ _ _,hL,hs2,fun hE=>by have:=hltE _ hE; omega,by simpa using hd,fun h=>hD (by rw [hpin])⟩
     let y0:RS S X:=⟨x,sg,st0.up,l0,V1,fun b=>b < W1.heap.size,none⟩
     have hinv0:IterInv gl (En.marks Ds') a.tmps st0.tmps L (recOf fn a.tmps ps assign body D) W1.heap.size y0 W1 :=
      { sr:=hs3
        rec_:=hL
        nL:=hnotL
        bL:=by show _ < _; omega
        b1:=fun _ h=>h
        g1:=gl.le _ hs3.g
        vB:=fun b o hv=>hs3.vlt b o hv
        mB:=fun b hm=>by have:=hltM b hm; have:=hg1.size; show b < _; omega
        eB:=fun b hE=>(En.marks Ds').lt _ _ _ hs3.inv hE
        lt:=fun b h=>h }
     have hpb:(boxesOf sg []).all (memb (boxesOf sg pin.2))=true:=List.all_eq_true.2 fun d hd=>memb_iff.2 (boxesOf_sub hd)
     have hpE:∀ d b,(En.marks Ds').owns d=some b→memb (boxesOf sg pin.2) d=true:=fun d b e=>memb_iff.2 (boxesOf_keep (memb_iff.1 (hp d b e)))
     have hIt:=hpo.iter _ _ _ hit (RS S X) (Env.iter gl (En.marks Ds') a.tmps st0.tmps L (recOf fn a.tmps ps assign body D) W1.heap.size)
      (roundB par (boxesOf sg pin.2) ps.toList st0.tmps assign body) (roundB_ok ha hb (hpo.marks _) hstay hpE) roundB_mono y0 _ (eachB_of_eachW vss y0 rfl hpb heach)
      W1 V1 (.yield L) #[] #[] caps0.toList rfl hinv0 hs3.g hs3.vlt (fun b o hv hm=>hm.elim (hs3.vem b o hv) fun hm=>hm.2 hv) (hcaps.grown hg1 (fun _ _ h=>h) hs1.vlt)
     refine ⟨L,mk,W1,{ target:=.fn (.func gf) caps0,args:=#[.func (.yield L) #[] #[]] },W1,gf,
      (Value.func (.yield L) #[] #[] :: caps0.toList).toArray,W1,?_,?_,fun _ _=>trivial,?_,fun h=>by simp [Fo,Fence.wide] at h,callsIn_fo (hIt.mono ?_)⟩
     ·exact hent
     ·simp only [resolve,hfv]
      simp [Deferred.ofValue,Act.eval,pure]
     ·have hb':¬ gfn.body=none:=fun e=>by rw [e] at hgb; cases hgb
      have hname':¬ gfn.name = "runtime.NumGoroutine" := fun e=>by rw [e] at hgn; cases hgn
      have:(Value.func (.yield L) #[] #[] :: caps0.toList).toArray=#[.func (.yield L) #[] #[]]++caps0:=by apply Array.ext'; simp
      rw [this]
      simp only [invoke,callFunc]
      simp [Sem.run_bind,Pure.pure,Result.andThen,program,Sem.run,hgf,hname',hb']
     rintro e w' ⟨v,rfl,y',hQ,hst⟩
     have hi':IterInv gl (En.marks Ds') a.tmps st0.tmps L (recOf fn a.tmps ps assign body D) W1.heap.size y' w':=hst.inv
     have hnb:(recOf fn a.tmps ps assign body D y'.jump).state≠.busy:=by cases y'.jump <;> simp [recOf]
     refine ⟨_,_,run_endLoop hi'.rec_ hnb,?_⟩
     have hsr:=SR.putL (r':={ recOf fn a.tmps ps assign body D y'.jump with state:=.exhausted }) hi'.sr hi'.rec_ hi'.nL
     cases hj:y'.jump with
     | none =>
      rw [hj] at hQ hsr
      exact ⟨_,_,_,_,Ds',hQ,hsr,hmk,hDs⟩
     | some e =>
      rw [hj] at hQ hsr
      obtain ⟨hne,hQ⟩:=hQ
      cases e with
      | normal=>exact absurd rfl hne
      | ret=>exact wpIn_ret ⟨_,_,_,_,Ds',hQ,hsr,hmk,hDs⟩
      | exit id=>exact wpIn_exit ⟨_,_,_,_,Ds',hQ,hsr,hmk,hDs⟩
  | _=>exact h.elim
 | _=>exact h.elim
end Go.Ab
namespace Go.Ab
open Go
variable {S:Sig} [Cod S] [LawCod S]
variable {X:Type} {gl:Gl} {P:Program} {par:Par S X}
theorem aWp_sound:∀ (c:Code),Sound P gl par c
 | .skip,En,hpo,ro,n,pin,hp,hro,hfz,D0,Qa,st,x,a,w,V,l,Ds,h,hs,hd,hD=>wpIn_skip ⟨st,x,V,l,Ds,h,hs,hd,hD⟩
 | .label _,En,hpo,ro,n,pin,hp,hro,hfz,D0,Qa,st,x,a,w,V,l,Ds,h,hs,hd,hD=>wpIn_label ⟨st,x,V,l,Ds,h,hs,hd,hD⟩
 | .ret,En,hpo,ro,n,pin,hp,hro,hfz,D0,Qa,st,x,a,w,V,l,Ds,h,hs,hd,hD=>wpIn_ret ⟨st,x,V,l,Ds,h,hs,hd,hD⟩
 | .exit _,En,hpo,ro,n,pin,hp,hro,hfz,D0,Qa,st,x,a,w,V,l,Ds,h,hs,hd,hD=>wpIn_exit ⟨st,x,V,l,Ds,h,hs,hd,hD⟩
 | .goto _,_,_,_,_,_,_,_,_,_,_,_,_,_,_,_,_,_,h,_,_,_=>h.elim
 | .refuse _,_,_,_,_,_,_,_,_,_,_,_,_,_,_,_,_,_,h,_,_,_=>h.elim
 | .rangeFunc g ps assign body,En,hpo,ro,n,pin,hp,hro,hfz,D0,Qa,st,x,a,w,V,l,Ds,h,hs,hd,hD=>range_ok (aWp_sound assign) (aWp_sound body) En hpo ro n pin hp hro hfz D0 Qa st x a w V l Ds h hs hd hD
 | .region id ops draw,En,hpo,ro,n,pin,hp,hro,hfz,D0,Qa,st,x,a,w,V,l,Ds,h,hs,hd,hD=>by
  cases draw with
  | true =>
   obtain ⟨c,ls,ms,es,m,h⟩:=h
   cases c with
   | nil =>
    exact (hpo.marks Ds).rg _ _ _ _ h (En.marks Ds) ro n id a w V l _ hs fun a' w' V' l' st' x' hD' hK hs'=>⟨st',x',V',l',Ds,hK,hs',hD'.trans hd,hD⟩
   | cons c0 cs =>
   obtain ⟨hc,h⟩:=h
   obtain ⟨st0,V',l',h,hs0⟩:=wkP_elim hs hp h
   exact draw_region (hpo.marks Ds) ⟨hpo.mono,hpo.wit⟩ hpo.mix hc (Kq:=fun st' x'=>Qa .normal st' x') (D:=Ds.map markOf) (fun a' w' V' l' st' x' hD' hK hs'=>⟨st',x',V',l',Ds,hK,hs',hD',hD⟩) hd hs0 ((opsD_seq ..).1 h)
  | false =>
   refine wpIn_region_list (opsW_sound (hpo.marks Ds) (Kq:=fun st' x'=>Qa .normal st' x') (D:=Ds.map markOf) (fun a' w' V' l' st' x' hD' hK hs'=>⟨st',x',V',l',Ds,hK,hs',hD',hD⟩) _ a w V l st x hd hs (haltK_go h))
 | .seq c d,En,hpo,ro,n,pin,hp,hro,hfz,D0,Qa,st,x,a,w,V,l,Ds,h,hs,hd,hD=>by
  refine wpIn_seq (wpIn_mono (aWp_sound c En hpo ro n pin hp hro hfz D0 _ st x a w V l Ds h hs hd hD) fun e a' w' hq=>?_)
  cases e with
  | normal=>obtain ⟨st',x',V',l',Ds',h1,h2,h3,h4⟩:=hq; exact aWp_sound d En hpo ro n pin hp hro hfz D0 _ st' x' a' w' V' l' Ds' h1 h2 h3 h4
  | exit id=>exact hq
  | ret=>exact hq
  | _=>exact hq.elim
 | .cond y c d,En,hpo,ro,n,pin,hp,hro,hfz,D0,Qa,st,x,a,w,V,l,Ds,h,hs,hd,hD=>by
  obtain ⟨v,h,hv⟩:=evK_elim hs h
  cases v with
  | bool t =>
   have h:=bcase_iff.1 h
   exact wpIn_cond_split hv.bool (fun ht=>aWp_sound c En hpo ro n pin hp hro hfz D0 _ st x a w V l Ds (h.1 ht) hs hd hD) (fun ht=>aWp_sound d En hpo ro n pin hp hro hfz D0 _ st x a w V l Ds (h.2 ht) hs hd hD)
  | _=>exact h.elim
 | .block id c,En,hpo,ro,n,pin,hp,hro,hfz,D0,Qa,st,x,a,w,V,l,Ds,h,hs,hd,hD=>by
  refine wpIn_block (wpIn_mono (aWp_sound c En hpo ro n pin hp hro hfz D0 _ st x a w V l Ds h hs hd hD) fun e a' w' hq=>?_)
  cases e with
  | normal=>exact hq
  | exit id' =>
   obtain ⟨st',x',V',l',Ds',h1,h2,h3⟩:=hq
   simp only at h1
   simp only [Exit.inBlock]
   by_cases hid:id'=id
   ·subst hid
    rw [if_pos rfl]
    rw [Nat.beq_refl] at h1
    exact ⟨st',x',V',l',Ds',h1,h2,h3⟩
   rw [if_neg hid]
   have:Nat.beq id' id=false:=by cases hb:Nat.beq id' id with
    | true=>exact absurd (Nat.eq_of_beq_eq_true hb) hid
    | false=>rfl
   rw [this] at h1
   exact ⟨st',x',V',l',Ds',h1,h2,h3⟩
  | ret=>exact hq
  | _=>exact hq.elim
 | .scope c,En,hpo,ro,n,pin,hp,hro,hfz,D0,Qa,st,x,a,w,V,l,Ds,h,hs,hd,hD=>wpIn_scope (fun _ _ _ h=>h) (aWp_sound c En hpo ro n pin hp hro hfz D0 _ st x a w V l Ds h hs hd hD)
 | .loop c,En,hpo,ro,n,pin,hp,hro,hfz,D0,Qa,st,x,a,w,V,l,Ds,h,hs,hd,hD=>by
  obtain ⟨m,h⟩:=h
  obtain ⟨st0,V0,l0,h,hs0⟩:=wkR_elim hs hp hfz h
  refine LoopIn.loop ?_
  refine h (fun s y=>∀ (a:Act) (w:World) (V:Nat→Nat→Prop) (l:Loc) (Ds:List Nat),SR gl (En.marks Ds) y w V l a.tmps s→a.defers=Ds.map markOf→(pin.1=true→Ds=D0)→LoopIn (Fo ro) n P c (Post gl En pin.1 D0 Qa) a w)
   (fun s y hB a w V l Ds hs hd hD=>?_) a w V0 l0 Ds hs0 hd hD
  refine LoopIn.round (wpIn_mono (aWp_sound c En hpo ro n pin hp hro hfz D0 _ s y a w V l Ds hB hs hd hD) fun e a' w' hq=>?_)
  cases e with
  | normal =>
   obtain ⟨st',x',V',l',Ds',⟨m',h1⟩,h2,h3,h4⟩:=hq
   obtain ⟨st'',V'',l'',h5,h6⟩:=wkR_elim h2 hp (fun a b=>hfz a b) h1
   exact h5 a' w' V'' l'' Ds' h6 h3 h4
  | exit id=>exact hq
  | ret=>exact hq
  | _=>exact hq.elim
end Go.Ab
