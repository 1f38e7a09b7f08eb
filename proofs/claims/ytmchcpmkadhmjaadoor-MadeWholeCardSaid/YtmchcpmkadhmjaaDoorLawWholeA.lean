/-
  THE MADE FAMILY, PLAIN LAW, PART G: of MadeLeaf: one leaf more, or one that is seen less well.
-/
import Derived.TacticsIn
import Derived.Test.YtmchcpmkadhmjaaDoorMadeB
import Derived.Test.YtmchcpmkadhmjaaDoorMadeA
import Derived.Test.YtmchcpmkadhmjaaDoorEngD
namespace Go.Ab.MkF
open Go Go.Ab Go.Ab.Pln
def erl (i l c x:Nat):Prop:=c < i∨(c=i∧x < l)
theorem erl_succ {i l c x:Nat}:erl i (l+1) c x↔erl i l c x∨(c=i∧x=l):=by unfold erl; omega
structure PlP (n:Nat) (cs:List Cp) (H:List Int) (i l:Nat) (P:Tb) (g:List Nat):Prop where
 t:Tb46 P
 z:∀ c x,¬ (c < cs.length∧x < n∧H.getD c 0≠0∧erl i l c x)→get2 P c x=0
 own:∀ c x,c < cs.length→x < n→H.getD c 0≠0→erl i l c x→hasI cs c x=H.getD c 0→get2 P c x=(c:Int)
 don:∀ c x,c < cs.length→x < n→H.getD c 0≠0→erl i l c x→hasI cs c x≠H.getD c 0→∃ d:Nat,d < cs.length∧get2 P c x=(d:Int)∧hasI cs d x=H.getD c 0∧H.getD d 0≠H.getD c 0
 inj:∀ c c' x,c < cs.length→c' < cs.length→x < n→H.getD c 0≠0→H.getD c' 0≠0→erl i l c x→erl i l c' x→c≠c'→get2 P c x≠get2 P c' x
 gl:g.length=4
 g:∀ d x,x < n→d < cs.length→((g.getD d 0).testBit x=true↔∃ c,c < cs.length∧H.getD c 0≠0∧erl i l c x∧hasI cs c x≠H.getD c 0∧get2 P c x=(d:Int))
structure PlOk (n:Nat) (cs:List Cp) (H:List Int) (Q:Tb):Prop where
 t:Tb46 Q
 out:∀ c x,¬ (c < cs.length∧x < n)→get2 Q c x=0
 own:∀ c x,c < cs.length→x < n→H.getD c 0≠0→hasI cs c x=H.getD c 0→get2 Q c x=(c:Int)
 don:∀ c x,c < cs.length→x < n→H.getD c 0≠0→hasI cs c x≠H.getD c 0→∃ d:Nat,d < cs.length∧get2 Q c x=(d:Int)∧hasI cs d x=H.getD c 0∧H.getD d 0≠H.getD c 0
 inj:∀ c c' x,c < cs.length→c' < cs.length→x < n→H.getD c 0≠0→H.getD c' 0≠0→c≠c'→get2 Q c x≠get2 Q c' x
 keep:∀ c x,c < cs.length→x < n→H.getD c 0=0→hasI cs c x > 0→(∀ c',c' < cs.length→H.getD c' 0≠0→get2 Q c' x≠(c:Int))→get2 Q c x=(c:Int)
 none:∀ c x,c < cs.length→x < n→H.getD c 0=0→¬ (hasI cs c x > 0∧∀ c',c' < cs.length→H.getD c' 0≠0→get2 Q c' x≠(c:Int))→get2 Q c x=-1
def Agr (n:Nat) (cs:List Cp) (H:List Int) (i l:Nat) (Q P:Tb):Prop:=∀ c x,c < cs.length→x < n→H.getD c 0≠0→erl i l c x→get2 Q c x=get2 P c x
section
variable {n:Nat} {cs:List Cp} {H:List Int} {i l:Nat} {P Q:Tb} {g:List Nat}
theorem PlP.next (hl:l=n∨H.getD i 0=0):PlP n cs H i l P g→PlP n cs H (i+1) 0 P g:=fun h=>by
 have e:∀ {c x},x < n→H.getD c 0≠0→(erl (i+1) 0 c x↔erl i l c x):=fun {c x} hx hc=>by
  unfold erl
  constructor
  ·rintro (h1 | ⟨_,h1⟩)
   ·rcases Nat.lt_or_eq_of_le (Nat.le_of_lt_succ h1) with h2 | rfl
    ·exact .inl h2
    rcases hl with rfl | hl
    ·exact .inr ⟨rfl,hx⟩
    exact absurd hl hc
   omega
  rintro (h1 | ⟨h1,_⟩) <;> exact .inl (by omega)
 exact ⟨h.t,fun c x hn=>h.z c x fun ⟨a1,a2,a3,a4⟩=>hn ⟨a1,a2,a3,(e a2 a3).2 a4⟩,fun c x a1 a2 a3 a4=>h.own c x a1 a2 a3 ((e a2 a3).1 a4),fun c x a1 a2 a3 a4=>h.don c x a1 a2 a3 ((e a2 a3).1 a4),
  fun c c' x a1 a2 a3 a4 a5 a6 a7=>h.inj c c' x a1 a2 a3 a4 a5 ((e a3 a4).1 a6) ((e a3 a5).1 a7),h.gl,fun d x a1 a2=>(h.g d x a1 a2).trans
   ⟨fun ⟨c,b1,b2,b3,b4⟩=>⟨c,b1,b2,(e a1 b2).2 b3,b4⟩,fun ⟨c,b1,b2,b3,b4⟩=>⟨c,b1,b2,(e a1 b2).1 b3,b4⟩⟩⟩
theorem Agr.next (hl:l=n∨H.getD i 0=0):Agr n cs H (i+1) 0 Q P↔Agr n cs H i l Q P:=by
 have e:∀ {c x},x < n→H.getD c 0≠0→(erl (i+1) 0 c x↔erl i l c x):=fun {c x} hx hc=>by
  unfold erl
  constructor
  ·rintro (h1 | ⟨_,h1⟩)
   ·rcases Nat.lt_or_eq_of_le (Nat.le_of_lt_succ h1) with h2 | rfl
    ·exact .inl h2
    rcases hl with rfl | hl
    ·exact .inr ⟨rfl,hx⟩
    exact absurd hl hc
   omega
  rintro (h1 | ⟨h1,_⟩) <;> exact .inl (by omega)
 exact ⟨fun h c x a1 a2 a3 a4=>h c x a1 a2 a3 ((e a2 a3).2 a4),fun h c x a1 a2 a3 a4=>h c x a1 a2 a3 ((e a2 a3).1 a4)⟩
theorem PlP.get (h:PlP n cs H i l P g) (hi:i < cs.length) (hm:cs.length≤4) (hl:l < n) (hn:n≤6) (v:Int) (c x:Nat):get2 (set2 P i l v) c x=if i=c∧l=x then v else get2 P c x:=get2_set2 h.t (by omega) (by omega) c x
theorem Agr.set (h:PlP n cs H i l P g) (hi:i < cs.length) (hm:cs.length≤4) (hl:l < n) (hn:n≤6) (hH:H.getD i 0≠0) {v:Int}:Agr n cs H i (l+1) Q (set2 P i l v)↔Agr n cs H i l Q P∧get2 Q i l=v:=by
 have hg:=h.get hi hm hl hn v
 constructor
 ·intro ha
  refine ⟨fun c x a1 a2 a3 a4=>?_,?_⟩
  ·have:=ha c x a1 a2 a3 (erl_succ.2 (.inl a4))
   rw [hg,if_neg (fun e=>by unfold erl at a4; omega)] at this
   exact this
  have:=ha i l hi hl hH (erl_succ.2 (.inr ⟨rfl,rfl⟩))
  rw [hg,if_pos ⟨rfl,rfl⟩] at this
  exact this
 rintro ⟨ha,hv⟩ c x a1 a2 a3 a4
 rw [hg]
 by_cases e:i=c∧l=x
 ·rw [if_pos e,←hv,e.1,e.2]
 rw [if_neg e]
 rcases erl_succ.1 a4 with a4 | a4
 ·exact ha c x a1 a2 a3 a4
 exact absurd ⟨a4.1.symm,a4.2.symm⟩ e
theorem PlP.mine (h:PlP n cs H i l P g) (hi:i < cs.length) (hm:cs.length≤4) (hl:l < n) (hn:n≤6) (hH:H.getD i 0≠0) (ho:hasI cs i l=H.getD i 0):PlP n cs H i (l+1) (set2 P i l (i:Int)) g:=by
 have hg:=h.get hi hm hl hn (i:Int)
 have hnot:∀ {c x},erl i l c x→¬ (i=c∧l=x):=fun a e=>by unfold erl at a; omega
 refine ⟨h.t.set2 _ _ _,fun c x hz=>?_,fun c x a1 a2 a3 a4 a5=>?_,fun c x a1 a2 a3 a4 a5=>?_,fun c c' x a1 a2 a3 a4 a5 a6 a7 a8=>?_,h.gl,fun d x a1 a2=>?_⟩
 ·rw [hg,if_neg]
  ·exact h.z c x fun ⟨b1,b2,b3,b4⟩=>hz ⟨b1,b2,b3,erl_succ.2 (.inl b4)⟩
  rintro ⟨rfl,rfl⟩; exact hz ⟨hi,hl,hH,erl_succ.2 (.inr ⟨rfl,rfl⟩)⟩
 ·rw [hg]
  by_cases e:i=c∧l=x
  ·rw [if_pos e,e.1]
  rw [if_neg e]
  rcases erl_succ.1 a4 with a4 | a4
  ·exact h.own c x a1 a2 a3 a4 a5
  exact absurd ⟨a4.1.symm,a4.2.symm⟩ e
 ·rcases erl_succ.1 a4 with a4 | ⟨rfl,rfl⟩
  ·rw [hg,if_neg (hnot a4)]; exact h.don c x a1 a2 a3 a4 a5
  exact absurd ho a5
 ·have key:∀ {c'},c' < cs.length→H.getD c' 0≠0→erl i l c' l→i≠c'→(i:Int)≠get2 P c' l:=fun {c'} b1 b2 b3 b4 e=>by
   by_cases b5:hasI cs c' l=H.getD c' 0
   ·rw [h.own c' l b1 hl b2 b3 b5] at e; omega
   ·obtain ⟨d,c1,c2,c3,c4⟩:=h.don c' l b1 hl b2 b3 b5
    rw [c2] at e
    obtain rfl:i=d:=by omega
    exact c4 (by rw [←ho,c3])
  rw [hg,hg]
  rcases erl_succ.1 a6 with a6 | ⟨rfl,rfl⟩
  ·rw [if_neg (hnot a6)]
   rcases erl_succ.1 a7 with a7 | ⟨rfl,rfl⟩
   ·rw [if_neg (hnot a7)]; exact h.inj c c' x a1 a2 a3 a4 a5 a6 a7 a8
   rw [if_pos ⟨rfl,rfl⟩]; exact (key a1 a4 a6 (Ne.symm a8)).symm
  rw [if_pos ⟨rfl,rfl⟩]
  rcases erl_succ.1 a7 with a7 | ⟨rfl,_⟩
  ·rw [if_neg (hnot a7)]; exact key a2 a5 a7 a8
  exact absurd rfl a8
 rw [h.g d x a1 a2]
 constructor
 ·rintro ⟨c,b1,b2,b3,b4,b5⟩
  exact ⟨c,b1,b2,erl_succ.2 (.inl b3),b4,by rw [hg,if_neg (hnot b3)]; exact b5⟩
 rintro ⟨c,b1,b2,b3,b4,b5⟩
 rcases erl_succ.1 b3 with b3 | ⟨rfl,rfl⟩
 ·rw [hg,if_neg (hnot b3)] at b5; exact ⟨c,b1,b2,b3,b4,b5⟩
 exact absurd ho b4
theorem PlP.give (h:PlP n cs H i l P g) (hi:i < cs.length) (hm:cs.length≤4) (hl:l < n) (hn:n≤6) (hH:H.getD i 0≠0) (ho:hasI cs i l≠H.getD i 0) {d:Nat} (hd:d < cs.length) (h1:hasI cs d l=H.getD i 0) (h2:H.getD d 0≠H.getD i 0)
  (h3:(g.getD d 0).testBit l=false):PlP n cs H i (l+1) (set2 P i l (d:Int)) (g.set d (g.getD d 0 ||| 2 ^ l)):=by
 have hg:=h.get hi hm hl hn (d:Int)
 have hnot:∀ {c x},erl i l c x→¬ (i=c∧l=x):=fun a e=>by unfold erl at a; omega
 refine ⟨h.t.set2 _ _ _,fun c x hz=>?_,fun c x a1 a2 a3 a4 a5=>?_,fun c x a1 a2 a3 a4 a5=>?_,fun c c' x a1 a2 a3 a4 a5 a6 a7 a8=>?_,by rw [List.length_set]; exact h.gl,fun e x a1 a2=>?_⟩
 ·rw [hg,if_neg]
  ·exact h.z c x fun ⟨b1,b2,b3,b4⟩=>hz ⟨b1,b2,b3,erl_succ.2 (.inl b4)⟩
  rintro ⟨rfl,rfl⟩; exact hz ⟨hi,hl,hH,erl_succ.2 (.inr ⟨rfl,rfl⟩)⟩
 ·rcases erl_succ.1 a4 with a4 | ⟨rfl,rfl⟩
  ·rw [hg,if_neg (hnot a4)]; exact h.own c x a1 a2 a3 a4 a5
  exact absurd a5 ho
 ·rcases erl_succ.1 a4 with a4 | ⟨rfl,rfl⟩
  ·rw [hg,if_neg (hnot a4)]; exact h.don c x a1 a2 a3 a4 a5
  rw [hg,if_pos ⟨rfl,rfl⟩]; exact ⟨d,hd,rfl,h1,h2⟩
 ·have key:∀ {c'},c' < cs.length→H.getD c' 0≠0→erl i l c' l→(d:Int)≠get2 P c' l:=fun {c'} b1 b2 b3 e=>by
   by_cases b5:hasI cs c' l=H.getD c' 0
   ·rw [h.own c' l b1 hl b2 b3 b5] at e
    obtain rfl:d=c':=by omega
    exact h2 (by rw [←b5,h1])
   ·have:=(h.g d l hl hd).2 ⟨c',b1,b2,b3,b5,e.symm⟩
    rw [this] at h3; cases h3
  rw [hg,hg]
  rcases erl_succ.1 a6 with a6 | ⟨rfl,rfl⟩
  ·rw [if_neg (hnot a6)]
   rcases erl_succ.1 a7 with a7 | ⟨rfl,rfl⟩
   ·rw [if_neg (hnot a7)]; exact h.inj c c' x a1 a2 a3 a4 a5 a6 a7 a8
   rw [if_pos ⟨rfl,rfl⟩]; exact (key a1 a4 a6).symm
  rw [if_pos ⟨rfl,rfl⟩]
  rcases erl_succ.1 a7 with a7 | ⟨rfl,_⟩
  ·rw [if_neg (hnot a7)]; exact key a2 a5 a7
  exact absurd rfl a8
 have hgl:=h.gl
 have hset:(g.set d (g.getD d 0 ||| 2 ^ l)).getD e 0=if d=e then g.getD d 0 ||| 2 ^ l else g.getD e 0:=by
  by_cases q:d=e
  ·subst q; rw [getD_set_self (by omega),if_pos rfl]
  rw [getD_set_ne q,if_neg q]
 rw [hset]
 have old:=h.g e x a1 a2
 constructor
 ·intro hb
  have hb:(g.getD e 0).testBit x=true∨(d=e∧l=x):=by
   by_cases q:d=e
   ·subst q
    rw [if_pos rfl,Nat.testBit_or,Nat.testBit_two_pow,Bool.or_eq_true,decide_eq_true_eq] at hb
    exact hb.imp id fun h=>⟨rfl,h⟩
   rw [if_neg q] at hb; exact .inl hb
  rcases hb with hb | ⟨rfl,rfl⟩
  ·obtain ⟨c,b1,b2,b3,b4,b5⟩:=old.1 hb
   exact ⟨c,b1,b2,erl_succ.2 (.inl b3),b4,by rw [hg,if_neg (hnot b3)]; exact b5⟩
  exact ⟨i,hi,hH,erl_succ.2 (.inr ⟨rfl,rfl⟩),ho,by rw [hg,if_pos ⟨rfl,rfl⟩]⟩
 rintro ⟨c,b1,b2,b3,b4,b5⟩
 have hb:(g.getD e 0).testBit x=true∨(d=e∧l=x):=by
  rcases erl_succ.1 b3 with b3 | ⟨rfl,rfl⟩
  ·rw [hg,if_neg (hnot b3)] at b5; exact .inl (old.2 ⟨c,b1,b2,b3,b4,b5⟩)
  rw [hg,if_pos ⟨rfl,rfl⟩] at b5; exact .inr ⟨by omega,rfl⟩
 by_cases q:d=e
 ·subst q
  rw [if_pos rfl,Nat.testBit_or,Nat.testBit_two_pow,Bool.or_eq_true,decide_eq_true_eq]
  exact hb.imp id fun h=>h.2
 rw [if_neg q]
 rcases hb with hb | hb
 ·exact hb
 exact absurd hb.1 q
end
theorem leafR_get {cs:List Cp} {H:List Int} {g:List Nat} {Q:Tb} (h:Tb46 Q) {c:Nat} (hc:c < 4) (a x:Nat):∀ l,l≤6→get2 (leafR cs H g Q c l) a x=if a=c∧x < l∧¬ H.getD c 0 > 0 then (if decide (hasI cs c x > 0)&&!(g.getD c 0).testBit x then (c:Int) else -1) else get2 Q a x
 | 0,_=>by rw [if_neg (by omega)]; rfl
 | l+1,hl=>by
  have ih:=leafR_get (cs:=cs) (H:=H) (g:=g) h hc a x l (by omega)
  simp only [leafR]
  by_cases hp:H.getD c 0 > 0
  ·rw [if_pos hp,ih,if_neg (fun e=>e.2.2 hp),if_neg (fun e=>e.2.2 hp)]
  rw [if_neg hp,get2_set2 (leafR_ok h c l) hc (by omega)]
  by_cases e:c=a∧l=x
  ·obtain ⟨rfl,rfl⟩:=e
   rw [if_pos ⟨rfl,rfl⟩,if_pos (show c=c∧l < l+1∧¬ H.getD c 0 > 0 from ⟨rfl,by omega,hp⟩)]
  rw [if_neg e,ih]
  by_cases e2:a=c∧x < l∧¬ H.getD c 0 > 0
  ·rw [if_pos e2,if_pos (show a=c∧x < l+1∧¬ H.getD c 0 > 0 from ⟨e2.1,by omega,hp⟩)]
  rw [if_neg e2,if_neg fun q=>e2 ⟨q.1,by omega,hp⟩]
theorem leafU_get {n:Nat} {cs:List Cp} {H:List Int} {g:List Nat} {P:Tb} (h:Tb46 P) (hn:n≤6) (a x:Nat):∀ c,c≤4→get2 (leafU n cs H g P c) a x=if a < c∧x < n∧¬ H.getD a 0 > 0 then (if decide (hasI cs a x > 0)&&!(g.getD a 0).testBit x then (a:Int) else -1) else get2 P a x
 | 0,_=>by rw [if_neg (by omega)]; rfl
 | c+1,hc=>by
  have ih:=leafU_get (cs:=cs) (H:=H) (g:=g) h hn a x c (by omega)
  simp only [leafU]
  rw [leafR_get (leafU_ok h c) (by omega) a x n hn]
  by_cases e:a=c∧x < n∧¬ H.getD c 0 > 0
  ·obtain ⟨rfl,e2,e3⟩:=e
   rw [if_pos (show a=a∧x < n∧¬ H.getD a 0 > 0 from ⟨rfl,e2,e3⟩),if_pos (show a < a+1∧x < n∧¬ H.getD a 0 > 0 from ⟨by omega,e2,e3⟩)]
  rw [if_neg e,ih]
  by_cases e2:a < c∧x < n∧¬ H.getD a 0 > 0
  ·rw [if_pos e2,if_pos (show a < c+1∧x < n∧¬ H.getD a 0 > 0 from ⟨by omega,e2.2⟩)]
  rw [if_neg e2,if_neg]
  rintro ⟨q1,q2,q3⟩
  rcases Nat.lt_or_eq_of_le (Nat.le_of_lt_succ q1) with q | rfl
  ·exact e2 ⟨q,q2,q3⟩
  exact e ⟨rfl,q2,q3⟩
theorem plan_leaf {n:Nat} {cs:List Cp} {H:List Int} {P Q:Tb} {g:List Nat} (hm:cs.length≤4) (hn:n≤6) (hH:∀ c,0≤H.getD c 0) (h:PlP n cs H cs.length 0 P g):Q=leafU n cs H g P cs.length↔PlOk n cs H Q∧Agr n cs H cs.length 0 Q P:=by
 have hget:=fun a x=>leafU_get (cs:=cs) (H:=H) (g:=g) h.t hn a x cs.length hm
 have he:∀ {c x},c < cs.length→erl cs.length 0 c x:=fun hc=>.inl hc
 have hpos:∀ c,H.getD c 0≠0↔H.getD c 0 > 0:=fun c=>by have:=hH c; omega
 have hhost:∀ c x,H.getD c 0≠0→get2 (leafU n cs H g P cs.length) c x=get2 P c x:=fun c x hc=>by rw [hget,if_neg fun e=>e.2.2 ((hpos c).1 hc)]
 have hrest:∀ c x,c < cs.length→x < n→H.getD c 0=0→get2 (leafU n cs H g P cs.length) c x=if decide (hasI cs c x > 0)&&!(g.getD c 0).testBit x then (c:Int) else -1:=fun c x a1 a2 a3=>by rw [hget,if_pos ⟨a1,a2,by omega⟩]
 have hgive:∀ c x,c < cs.length→x < n→H.getD c 0=0→((g.getD c 0).testBit x=false↔∀ c',c' < cs.length→H.getD c' 0≠0→get2 P c' x≠(c:Int)):=fun c x a1 a2 a3=>by
  rw [Bool.eq_false_iff,Ne,h.g c x a2 a1]
  constructor
  ·intro hno c' b1 b2 b3
   by_cases b4:hasI cs c' x=H.getD c' 0
   ·rw [h.own c' x b1 a2 b2 (he b1) b4] at b3
    obtain rfl:c'=c:=by omega
    exact b2 a3
   exact hno ⟨c',b1,b2,he b1,b4,b3⟩
  rintro hall ⟨c',b1,b2,_,_,b5⟩
  exact hall c' b1 b2 b5
 have hok:PlOk n cs H (leafU n cs H g P cs.length):=by
  refine ⟨leafU_ok h.t _,fun c x hn=>?_,fun c x a1 a2 a3 a4=>?_,fun c x a1 a2 a3 a4=>?_,fun c c' x a1 a2 a3 a4 a5 a6=>?_,fun c x a1 a2 a3 a4 a5=>?_,fun c x a1 a2 a3 a4=>?_⟩
  ·rw [hget,if_neg fun e=>hn ⟨e.1,e.2.1⟩]; exact h.z c x fun e=>hn ⟨e.1,e.2.1⟩
  ·rw [hhost c x a3]; exact h.own c x a1 a2 a3 (he a1) a4
  ·rw [hhost c x a3]; exact h.don c x a1 a2 a3 (he a1) a4
  ·rw [hhost c x a4,hhost c' x a5]; exact h.inj c c' x a1 a2 a3 a4 a5 (he a1) (he a2) a6
  ·rw [hrest c x a1 a2 a3,decide_eq_true a4,(hgive c x a1 a2 a3).2 fun c' b1 b2=>by have:=a5 c' b1 b2; rwa [hhost c' x b2] at this]
   rfl
  rw [hrest c x a1 a2 a3]
  by_cases b:hasI cs c x > 0
  ·have hb:(g.getD c 0).testBit x=true:=by
    cases hb:(g.getD c 0).testBit x with
    | true=>rfl
    | false=>exact absurd ⟨b,fun c' b1 b2=>by rw [hhost c' x b2]; exact (hgive c x a1 a2 a3).1 hb c' b1 b2⟩ a4
   rw [hb,decide_eq_true b]; rfl
  rw [decide_eq_false b]; rfl
 constructor
 ·rintro rfl
  exact ⟨hok,fun c x a1 a2 a3 _=>hhost c x a3⟩
 rintro ⟨hq,ha⟩
 refine tb_ext hq.t hok.t fun c x=>?_
 by_cases e:c < cs.length∧x < n
 ·obtain ⟨a1,a2⟩:=e
  by_cases a3:H.getD c 0=0
  ·have hsame:∀ c',c' < cs.length→H.getD c' 0≠0→get2 Q c' x=get2 (leafU n cs H g P cs.length) c' x:=fun c' b1 b2=>by rw [ha c' x b1 a2 b2 (he b1),hhost c' x b2]
   by_cases b:hasI cs c x > 0∧∀ c',c' < cs.length→H.getD c' 0≠0→get2 Q c' x≠(c:Int)
   ·rw [hq.keep c x a1 a2 a3 b.1 b.2,hok.keep c x a1 a2 a3 b.1 fun c' b1 b2=>by rw [←hsame c' b1 b2]; exact b.2 c' b1 b2]
   rw [hq.none c x a1 a2 a3 b,hok.none c x a1 a2 a3 fun q=>b ⟨q.1,fun c' b1 b2=>by rw [hsame c' b1 b2]; exact q.2 c' b1 b2⟩]
  rw [ha c x a1 a2 a3 (he a1),hhost c x a3]
 rw [hq.out c x e,hok.out c x e]
theorem planR_mem {n:Nat} {cs:List Cp} {H:List Int} {i:Nat} {cont:Tb→List Nat→List Tb} (hm:cs.length≤4) (hn:n≤6) (hi:i < cs.length) {Q:Tb}
  (hcont:∀ P g,PlP n cs H (i+1) 0 P g→(Q∈cont P g↔PlOk n cs H Q∧Agr n cs H (i+1) 0 Q P)):∀ r P g,r≤n→PlP n cs H i (n - r) P g→(Q∈planR n cs H i cont r P g↔PlOk n cs H Q∧Agr n cs H i (n - r) Q P)
 | 0,P,g,_,h=>by
  simp only [planR]
  rw [hcont P g (h.next (.inl (by omega))),Agr.next (l:=n - 0) (.inl (by omega))]
 | r + 1,P,g,hr,h=>by
  simp only [planR]
  by_cases h0:H.getD i 0=0
  ·rw [if_pos h0,hcont P g (h.next (.inr h0)),Agr.next (.inr h0)]
  rw [if_neg h0]
  have hl:n - (r+1) < n:=by omega
  have hs:n - (r+1)+1=n - r:=by omega
  have hbit:=fun d (hd:d < cs.length)=>havN_bit hd (n - (r+1)) (H.getD i 0)
  have hbl:bitsL (havN cs (n - (r+1)) (H.getD i 0))=(List.range cs.length).filter (havN cs (n - (r+1)) (H.getD i 0)).testBit:=bitsL_below (by omega) (by
   unfold havN
   exact bitsO_lt fun x hx=>List.mem_range.1 (List.mem_filter.1 hx).1)
  generalize hL:n - (r+1)=l at *
  cases hb:(havN cs l (H.getD i 0)).testBit i with
  | true =>
   have ho:hasI cs i l=H.getD i 0:=eq_of_beq ((hbit i hi).symm.trans hb)
   have h':=h.mine hi hm hl hn h0 ho
   rw [if_pos rfl]
   rw [hs] at h'
   rw [planR_mem hm hn hi hcont r _ g (by omega) h',←hs,Agr.set h hi hm hl hn h0]
   exact ⟨fun ⟨a,b⟩=>⟨a,b.1⟩,fun ⟨a,b⟩=>⟨a,b,a.own i l hi hl h0 ho⟩⟩
  | false =>
   have ho:hasI cs i l≠H.getD i 0:=fun e=>by rw [hbit i hi,e] at hb; simp at hb
   rw [if_neg (by simp),List.mem_flatMap]
   constructor
   ·rintro ⟨d,hd,hq⟩
    rw [hbl,List.mem_filter,List.mem_range] at hd
    have h1:hasI cs d l=H.getD i 0:=eq_of_beq ((hbit d hd.1).symm.trans hd.2)
    split at hq
    ·cases hq
    rename_i hc
    rw [Bool.or_eq_true,not_or,beq_iff_eq] at hc
    have h':=h.give hi hm hl hn h0 ho hd.1 h1 hc.1 (by simpa using hc.2)
    rw [hs] at h'
    rw [planR_mem hm hn hi hcont r _ _ (by omega) h',←hs,Agr.set h hi hm hl hn h0] at hq
    exact ⟨hq.1,hq.2.1⟩
   rintro ⟨hq,ha⟩
   obtain ⟨d,b1,b2,b3,b4⟩:=hq.don i l hi hl h0 ho
   have h3:(g.getD d 0).testBit l=false:=by
    cases hb:(g.getD d 0).testBit l with
    | false=>rfl
    | true =>
     obtain ⟨c,c1,c2,c3,c4,c5⟩:=(h.g d l hl b1).1 hb
     have hci:c≠i:=by unfold erl at c3; omega
     exact absurd (by rw [ha c l c1 hl c2 c3,c5,b2]) (hq.inj c i l c1 hi hl c2 h0 hci)
   have h':=h.give hi hm hl hn h0 ho b1 b3 b4 h3
   rw [hs] at h'
   refine ⟨d,by rw [hbl,List.mem_filter,List.mem_range]; exact ⟨b1,by rw [hbit d b1,b3]; simp⟩,?_⟩
   rw [if_neg (by rw [Bool.or_eq_true,not_or,beq_iff_eq,h3]; exact ⟨b4,by simp⟩),planR_mem hm hn hi hcont r _ _ (by omega) h',←hs,Agr.set h hi hm hl hn h0]
   exact ⟨hq,ha,b2⟩
theorem planS_mem {n:Nat} {cs:List Cp} {H:List Int} (hm:cs.length≤4) (hn:n≤6) (hH:∀ c,0≤H.getD c 0) {Q:Tb}:∀ s r P g,s≤cs.length→r≤n→(s=0→r=n)→PlP n cs H (cs.length - s) (n - r) P g→(Q∈planS n cs H s r P g↔PlOk n cs H Q∧Agr n cs H (cs.length - s) (n - r) Q P)
 | 0,r,P,g,_,_,hr0,h=>by
  have hr:=hr0 rfl
  subst hr
  rw [Nat.sub_self] at h ⊢
  simp only [planS,List.mem_singleton]
  exact plan_leaf hm hn hH h
 | s+1,r,P,g,hs,hr,_,h=>by
  simp only [planS]
  refine planR_mem hm hn (by omega) (fun P' g' h'=>?_) r P g hr h
  have e:cs.length - (s+1)+1=cs.length - s:=by omega
  rw [e] at h' ⊢
  have:=planS_mem hm hn hH (Q:=Q) s n P' g' (by omega) (Nat.le_refl _) (fun _=>rfl) (by rw [Nat.sub_self]; exact h')
  rw [Nat.sub_self] at this
  exact this
theorem get_z46 (c x:Nat):get2 z46 c x=0:=by
 unfold get2 z46
 match c with
 | 0 | 1 | 2 | 3=>match x with
  | 0 | 1 | 2 | 3 | 4 | 5=>rfl
  | x+6=>rfl
 | c+4=>simp [List.getD_eq_getElem?_getD]
theorem planA_mem {n:Nat} {cs:List Cp} {H:List Int} (hm1:1≤cs.length) (hm:cs.length≤4) (hn:n≤6) (hH:∀ c,0≤H.getD c 0) {Q:Tb}:Q∈planA n cs H↔PlOk n cs H Q:=by
 unfold planA
 have he:∀ {c x},¬ erl 0 0 c x:=fun h=>by unfold erl at h; omega
 have h0:PlP n cs H (cs.length - cs.length) (n - n) z46 [0,0,0,0]:=by
  rw [Nat.sub_self,Nat.sub_self]
  refine ⟨z46_ok,fun c x _=>get_z46 c x,fun c x _ _ _ h=>absurd h he,fun c x _ _ _ h=>absurd h he,fun c c' x _ _ _ _ _ h=>absurd h he,rfl,fun d x _ hd=>⟨fun h=>?_,fun ⟨_,_,_,h,_⟩=>absurd h he⟩⟩
  match d,(by omega:d < 4) with
  | 0,_ | 1,_ | 2,_ | 3,_=>simp at h
 rw [planS_mem hm hn hH _ _ _ _ (Nat.le_refl _) (Nat.le_refl _) (fun h=>by omega) h0]
 refine ⟨fun h=>h.1,fun h=>⟨h,fun c x _ _ _ he'=>?_⟩⟩
 rw [Nat.sub_self,Nat.sub_self] at he'
 exact absurd he' he
open Go Go.Ab Go.Ab.Pln Go.Proofs
set_option maxHeartbeats 1000000
set_option maxRecDepth 100000
noncomputable abbrev parH (gl:Gl):Par S Unit:={ par gl with hd:=true }
theorem parH_ok (gl:Gl) (En:Env Unit):ParOk PR gl (parH gl) En:={ par_ok gl En with }
theorem join {p q:Prop} (h:Hold p→q) (hp:p):q:=h ⟨hp⟩
def inB (n a b:Int):Bool:=decide (a≤n)&&decide (n≤b)
theorem inB_out (n a b:Int):inB n a b=!outB a b n:=by
 unfold inB outB
 rw [Bool.eq_iff_iff]
 simp [Int.not_lt]
def rgE (a b lo hi:Int):Int:=if (decide (min a b < lo)||decide (max a b > hi))=true then 7 else if b < a then 2 else 0
theorem c72 (gl:Gl) (n a b:Int):PCalls PR gl 72 [vI n,vI a,vI b] fun r=>r=vB (inB n a b):=by
 refine fnW_sound (par_ok gl) Tryd.func72 ?_;conv=>whnf
 apply bc9<;>intro g1_3
 ·have g:decide (a≤n)=true:=g1_3
  conv=>whnf
  unfold inB
  rw [g]
  rfl
 have g:decide (a≤n)=false:=g1_3
 conv=>whnf
 unfold inB
 rw [g]
 rfl
theorem op72:Opens PR 72:=⟨_,Tryd.func72,rfl,rfl⟩
def lfG (ls:List Lf) (i:Nat) (x:Lf):Int :=
 if [x.2.1].any (outB (-1) ((ls.length:Int) - 1)) then 4
 else if x.2.1==(i:Int)||(decide (x.2.1≥0)&&(ls.getD x.2.1.toNat lf0).2.1 != (i:Int)) then 2 else if [x.2.2].any (outB 0 1000) then 7 else 0
theorem any_in (a b n:Int):[n].any (outB a b)=!inB n a b:=by rw [inB_out]; simp
theorem c74 (gl:Gl) (p:Int) (ls:List Lf) (cs:List Cp) (hl:ls.length≤9223372036854775807) (i:Nat) (hi:i < ls.length):PCalls PR gl 74 [.agg [vI p,lfsV ls,cpsV cs],vI i] fun r=>r=vI (lfG ls i ls[i]):=by
 have hw1:IntKind.i64.wrap ((ls.length:Int) - 1)=(ls.length:Int) - 1:=wrap_int (by omega) (by omega)
 refine fnW_sound (par_ok gl) Tryd.func74 ?_;conv=>whnf
 refine ⟨_,getI_nat hi,?_⟩;conv=>whnf
 rw [hw1]
 conv=>whnf
 refine byC (c72 gl _ _ _) op72 ?_;conv=>whnf
 apply bc9<;>intro h2
 ·have h2:[ls[i].2.1].any (outB (-1) ((ls.length:Int) - 1))=true:=by rw [any_in]; exact h2
  conv=>whnf
  unfold lfG
  rw [if_pos h2]
 have h2:[ls[i].2.1].any (outB (-1) ((ls.length:Int) - 1))=false:=by rw [any_in]; exact h2
 have hr:=any_one.1 h2
 conv=>whnf
 apply bc9<;>intro g4_3
 ·have g3:ls[i].2.1≠-1:=by have g:(ls[i].2.1 != -1)=true:=g4_3; simpa using g
  obtain ⟨y,hy⟩:∃ y:Nat,ls[i].2.1=(y:Int):=⟨ls[i].2.1.toNat,by omega⟩
  have hyl:y < ls.length:=by omega
  conv=>whnf
  apply bc9<;>intro g4_8
  ·have hb:(ls[i].2.1==(i:Int)||(decide (ls[i].2.1≥0)&&(ls.getD ls[i].2.1.toNat lf0).2.1 != (i:Int)))=true:=by rw [show (ls[i].2.1==(i:Int))=true from g4_8]; rfl
   conv=>whnf
   unfold lfG
   rw [h2,if_neg (by simp),if_pos hb]
  have g8:(ls[i].2.1==(i:Int))=false:=g4_8
  conv=>whnf
  refine ⟨ls[y],by rw [hy]; exact getI_nat hyl,?_⟩;conv=>whnf
  apply bc9<;>intro h4
  ·have hb:(ls[i].2.1==(i:Int)||(decide (ls[i].2.1≥0)&&(ls.getD ls[i].2.1.toNat lf0).2.1 != (i:Int)))=true:=by rw [g8,decide_eq_true (by omega),hy,Int.toNat_natCast,getD_at hyl]; exact h4
   conv=>whnf
   unfold lfG
   rw [h2,if_neg (by simp),if_pos hb]
  have hb:(ls[i].2.1==(i:Int)||(decide (ls[i].2.1≥0)&&(ls.getD ls[i].2.1.toNat lf0).2.1 != (i:Int)))=false:=by rw [g8,decide_eq_true (by omega),hy,Int.toNat_natCast,getD_at hyl]; exact h4
  conv=>whnf
  refine byC (c72 gl _ _ _) op72 ?_;conv=>whnf
  apply bc9<;>intro h6
  ·have h6:[ls[i].2.2].any (outB 0 1000)=true:=by rw [any_in]; exact h6
   conv=>whnf
   unfold lfG
   rw [h2,if_neg (by simp),hb,if_neg (by simp),if_pos h6]
  have h6:[ls[i].2.2].any (outB 0 1000)=false:=by rw [any_in]; exact h6
  conv=>whnf
  unfold lfG
  rw [h2,if_neg (by simp),hb,if_neg (by simp),h6,if_neg (by simp)]
 have g3:ls[i].2.1=-1:=by have g:(ls[i].2.1 != -1)=false:=g4_3; simpa using g
 have hb:(ls[i].2.1==(i:Int)||(decide (ls[i].2.1≥0)&&(ls.getD ls[i].2.1.toNat lf0).2.1 != (i:Int)))=false:=by rw [g3]; simp
 conv=>whnf
 refine byC (c72 gl _ _ _) op72 ?_;conv=>whnf
 apply bc9<;>intro h6
 ·have h6:[ls[i].2.2].any (outB 0 1000)=true:=by rw [any_in]; exact h6
  conv=>whnf
  unfold lfG
  rw [h2,if_neg (by simp),hb,if_neg (by simp),if_pos h6]
 have h6:[ls[i].2.2].any (outB 0 1000)=false:=by rw [any_in]; exact h6
 conv=>whnf
 unfold lfG
 rw [h2,if_neg (by simp),hb,if_neg (by simp),h6,if_neg (by simp)]
theorem op74:Opens PR 74:=⟨_,Tryd.func74,rfl,rfl⟩
def LensN (ls:List Lf) (cs:List Cp):Prop:=(∀ x∈ls,x.1.size≤9223372036854775807)∧∀ x∈cs,x.1.size≤9223372036854775807
abbrev nmL (ls:List Lf) (i:Nat):List ByteArray:=(ls.take i).map fun x=>x.1
abbrev nmC (cs:List Cp) (i:Nat):List ByteArray:=(cs.take i).map fun x=>x.1
theorem lfF_eq {ls:List Lf} {i:Nat} (h:i < ls.length):lfF ls i=if freE ls[i].1 (nmL ls i)=0 then lfG ls i ls[i] else freE ls[i].1 (nmL ls i):=by
 unfold lfF lfE lfG freE
 rw [getD_at h,List.any_map]
 show (if (!nameB ls[i].1)=true then 6 else if ((ls.take i).any fun y=>strEq y.1 ls[i].1)=true then 5 else _)=if (if (!nameB ls[i].1)=true then (6:Int) else if ((ls.take i).any fun y=>strEq y.1 ls[i].1)=true then 5 else 0)=0 then _ else if (!nameB ls[i].1)=true then (6:Int) else if ((ls.take i).any fun y=>strEq y.1 ls[i].1)=true then 5 else 0
 cases nameB ls[i].1 <;> cases (ls.take i).any fun y=>strEq y.1 ls[i].1 <;> simp
def cpK (e:Int) (xs:List Int) (k:Nat):Int:=if e≠0 then e else if (xs.take k).any (outB 0 2) then 7 else 0
def cpG (n:Nat) (w:ByteArray) (l:List ByteArray) (xs:List Int):Int:=if freE w l=0 then (if (xs.length:Int)≠n then 3 else 0) else freE w l
theorem cp_aux (nb dup bad:Bool) (p q:Prop) [Decidable p] [Decidable q] (hpq:p↔q) :
  (if (!nb)=true then (6:Int) else if dup=true then 5 else if p then 3 else if bad=true then 7 else 0) =
   if (if (if (!nb)=true then (6:Int) else if dup=true then 5 else 0)=0 then (if q then (3:Int) else 0) else if (!nb)=true then (6:Int) else if dup=true then 5 else 0)≠0
   then (if (if (!nb)=true then (6:Int) else if dup=true then 5 else 0)=0 then (if q then (3:Int) else 0) else if (!nb)=true then (6:Int) else if dup=true then 5 else 0) else if bad=true then 7 else 0:=by
 by_cases hq:q
 ·have hp:=hpq.2 hq
  cases nb <;> cases dup <;> simp [hp,hq]
 have hp:¬ p:=fun h=>hq (hpq.1 h)
 cases nb <;> cases dup <;> simp [hp,hq]
theorem cpF_eq {n:Nat} {cs:List Cp} {i:Nat} (h:i < cs.length):cpF n cs i=cpK (cpG n cs[i].1 (nmC cs i) cs[i].2) cs[i].2 cs[i].2.length:=by
 unfold cpF cpE cpK cpG freE
 rw [getD_at h,List.any_map,List.take_length]
 exact cp_aux _ _ _ _ _ (by omega)
theorem cpK_succ {e:Int} {xs:List Int} {k:Nat} (h:k < xs.length) (h0:cpK e xs k=0):cpK e xs (k+1)=if inB xs[k] 0 2=true then 0 else 7:=by
 unfold cpK at h0 ⊢
 by_cases he:e=0
 ·have hne:¬ e≠0:=fun h=>h he
  rw [if_neg hne] at h0 ⊢
  have hp:(xs.take k).any (outB 0 2)=false:=by
   cases hq:(xs.take k).any (outB 0 2) with
   | true=>rw [hq] at h0; simp at h0
   | false=>rfl
  rw [take_succ' h,List.any_append,hp,inB_out]
  simp
  cases outB 0 2 xs[k] <;> rfl
 rw [if_pos he] at h0; exact absurd h0 he
theorem cpK_last {e:Int} {xs:List Int} {k:Nat} (_h:k≤xs.length) (h0:cpK e xs k≠0):cpK e xs k=cpK e xs xs.length:=by
 unfold cpK at h0 ⊢
 by_cases he:e=0
 ·have hne:¬ e≠0:=fun h=>h he
  rw [if_neg hne] at h0
  rw [if_neg hne,if_neg hne]
  cases hq:(xs.take k).any (outB 0 2) with
  | false=>rw [hq] at h0; simp at h0
  | true =>
   have:(xs.take xs.length).any (outB 0 2)=true:=by
    rw [List.take_length]
    obtain ⟨x,hx,hb⟩:=List.any_eq_true.1 hq
    exact List.any_eq_true.2 ⟨x,List.mem_of_mem_take hx,hb⟩
   rw [this]
 rw [if_pos he,if_pos he]
theorem c17 (gl:Gl) (p:Int) (ls:List Lf) (cs:List Cp) (hL:LensS ls cs) (hN:LensN ls cs):PCalls PR gl 17 [.agg [vI p,lfsV ls,cpsV cs]] fun r=>r=.tup [vI (chk p ls cs).1,vI (chk p ls cs).2.1,vI (chk p ls cs).2.2]:=by
 refine fnW_sound (par_ok gl) Tryd.func17 ?_;conv=>whnf
 refine byC (c72 gl _ _ _) op72 ?_;conv=>whnf
 apply bc9<;>intro h1
 ·have g1:[p].any (outB 0 1000000)=true:=by rw [any_in]; exact h1
  conv=>whnf
  unfold chk
  rw [if_pos g1]
 have g1:[p].any (outB 0 1000000)=false:=by rw [any_in]; exact h1
 conv=>whnf
 refine byC (c72 gl _ _ _) op72 ?_;conv=>whnf
 apply bc9<;>intro h3
 ·have g3:[(ls.length:Int)].any (outB 1 6)=true:=by rw [any_in]; exact h3
  conv=>whnf
  unfold chk
  rw [g1,if_neg (by simp)]
  unfold chk1
  rw [if_pos g3]
 have g3:[(ls.length:Int)].any (outB 1 6)=false:=by rw [any_in]; exact h3
 have hn6:=(any_one.1 g3).2
 conv=>whnf
 refine ⟨⟨98,[],[5]⟩,?_⟩
 refine LoopW_ind _ (fun i:Nat=>(({ tmps:=[J,.own 1 [],J,J,J,.sl (S:=S) U.str (nmL ls i) (some 5),vI i,J,J,J,J,J,J,J,J,J,J,J,J,J,J,J,J,J,J,J,J,J,J,J,J,J,J,J,J,J,J,J,J,J,J,J,J,J,J,J,J,J,J,J,J,J,J,J,J,J,J,J,J,J,J,J,J,J,J,J,J,J,J,J,J,J,J,J,J,J,J,J,J,J,J,J,J,J,J,J,J,J,J,J,J,J,J,J,J,J,J,J,J,J,J,J,J,J,J,J,J,J,J,J,J,J,J],seg:=[(1,.cells (setC p ls cs)),(5,.row U.str false)],up:=[] }:St S))) (fun i:Nat=>(i≤ls.length∧∀ j,j < i→lfF ls j=0)) (fun i:Nat=>(ls.length - i)) () ?_ 0 ⟨Nat.zero_le _,fun j h=>absurd h (Nat.not_lt_zero j)⟩
 intro i hinv Z1 hZ1
 obtain ⟨hi,hd⟩:=hinv
 conv=>whnf
 apply bc9<;>intro h7
 ·have hlt:i < ls.length:=by have:=of_decide_eq_true h7; omega
  have hw:=wrap_nat (n:=i) (by omega)
  conv=>whnf
  have hlf:=lfF_eq hlt
  have hnl:(nmL ls i).length=i:=by simp; omega
  refine ⟨_,getI_nat hlt,?_⟩;conv=>whnf
  refine byC (c73 gl _ (hN.1 _ (List.getElem_mem hlt)) _ (by omega)) op73 ?_;conv=>whnf
  apply bc9<;>intro h10
  ·have h10:freE ls[i].1 (nmL ls i)=0:=eq_of_beq (show (freE ls[i].1 (nmL ls i)==0)=true from h10)
   rw [if_pos h10] at hlf
   conv=>whnf
   refine byC (c74 gl p ls cs (by omega) i hlt) op74 ?_;conv=>whnf
   apply bc9<;>intro h12
   ·have h12:lfF ls i≠0:=by rw [hlf]; simpa using h12
    conv=>whnf
    unfold chk
    rw [g1,if_neg (by simp)]
    unfold chk1
    rw [g3,if_neg (by simp),firstR_at hlt hd h12,if_pos h12,hlf]
   have h12:lfF ls i=0:=by rw [hlf]; simpa using h12
   conv=>whnf
   refine ⟨_,getI_nat hlt,?_⟩;conv=>whnf
   refine ⟨_,rfl,?_⟩;conv=>whnf
   refine ⟨lim (by simp; omega),?_⟩;conv=>whnf
   refine ⟨⟨98,[52,53],[]⟩,?_⟩;conv=>whnf
   rw [hw]
   have hz:=hZ1 (i+1) ⟨hlt,up_succ hd h12⟩ (by omega)
   rw [show nmL ls (i+1)=nmL ls i++[ls[i].1] from by unfold nmL; rw [take_succ' hlt,List.map_append]; rfl] at hz
   exact hz
  have h10:freE ls[i].1 (nmL ls i)≠0:=fun e=>by have h10:(freE ls[i].1 (nmL ls i)==0)=false:=h10; rw [e] at h10; cases h10
  rw [if_neg h10] at hlf
  conv=>whnf
  apply bc9<;>intro h12
  ·have h12:lfF ls i≠0:=by rw [hlf]; simpa using h12
   conv=>whnf
   unfold chk
   rw [g1,if_neg (by simp)]
   unfold chk1
   rw [g3,if_neg (by simp),firstR_at hlt hd h12,if_pos h12,hlf]
  have h12:lfF ls i=0:=by rw [hlf]; simpa using h12
  conv=>whnf
  refine ⟨_,getI_nat hlt,?_⟩;conv=>whnf
  refine ⟨_,rfl,?_⟩;conv=>whnf
  refine ⟨lim (by simp; omega),?_⟩;conv=>whnf
  refine ⟨⟨98,[52,53],[]⟩,?_⟩;conv=>whnf
  rw [hw]
  have hz:=hZ1 (i+1) ⟨hlt,up_succ hd h12⟩ (by omega)
  rw [show nmL ls (i+1)=nmL ls i++[ls[i].1] from by unfold nmL; rw [take_succ' hlt,List.map_append]; rfl] at hz
  exact hz
 have hge:i=ls.length:=by have:=of_decide_eq_false h7; omega
 conv=>whnf
 rw [hge] at hd
 conv=>whnf
 refine byC (c72 gl _ _ _) op72 ?_;conv=>whnf
 apply bc9<;>intro h15
 ·have g15:[(cs.length:Int)].any (outB 1 4)=true:=by rw [any_in]; exact h15
  conv=>whnf
  unfold chk
  rw [g1,if_neg (by simp)]
  unfold chk1
  rw [g3,if_neg (by simp),firstR_no hd,if_neg (by simp)]
  unfold chk2
  rw [if_pos g15]
 have g15:[(cs.length:Int)].any (outB 1 4)=false:=by rw [any_in]; exact h15
 have hm4:=(any_one.1 g15).2
 conv=>whnf
 refine ⟨⟨290,[5],[900005]⟩,?_⟩
 refine LoopW_ind _ (fun i:Nat=>(({ tmps:=[J,.own 1 [],J,J,J,.sl (S:=S) U.str (nmC cs i) (some 900005),J,J,vI i,J,J,J,J,J,J,J,J,J,J,J,J,J,J,J,J,J,J,J,J,J,J,J,J,J,J,J,J,J,J,J,J,J,J,J,J,J,J,J,J,J,J,J,J,J,J,J,J,J,J,J,J,J,J,J,J,J,J,J,J,J,J,J,J,J,J,J,J,J,J,J,J,J,J,J,J,J,J,J,J,J,J,J,J,J,J,J,J,J,J,J,J,J,J,J,J,J,J,J,J,J,J,J,J],seg:=[(1,.cells (setC p ls cs)),(900005,.row U.str false)],up:=[] }:St S))) (fun i:Nat=>(i≤cs.length∧∀ j,j < i→cpF ls.length cs j=0)) (fun i:Nat=>(cs.length - i)) () ?_ 0 ⟨Nat.zero_le _,fun j h=>absurd h (Nat.not_lt_zero j)⟩
 intro i hinv Z2 hZ2
 obtain ⟨hi,hdc⟩:=hinv
 conv=>whnf
 apply bc9<;>intro h19
 ·have hlc:i < cs.length:=by have:=of_decide_eq_true h19; omega
  have hwc:=wrap_nat (n:=i) (by omega)
  conv=>whnf
  have hcf:=cpF_eq (n:=ls.length) hlc
  have hnl:(nmC cs i).length=i:=by simp; omega
  have hxl:=hL.2 _ (List.getElem_mem hlc)
  refine ⟨_,getI_nat hlc,?_⟩;conv=>whnf
  refine byC (c73 gl _ (hN.2 _ (List.getElem_mem hlc)) _ (by omega)) op73 ?_;conv=>whnf
  apply bc9<;>intro g23_2
  ·have g23:freE cs[i].1 (nmC cs i)=0:=eq_of_beq (show (freE cs[i].1 (nmC cs i)==0)=true from g23_2)
   conv=>whnf
   apply bc9<;>intro h23
   ·have h23:(cs[i].2.length:Int)≠(ls.length:Int):=by have h:((cs[i].2.length:Int) != (ls.length:Int))=true:=h23; simpa using h
    have hG:(3:Int)=cpK (cpG ls.length cs[i].1 (nmC cs i) cs[i].2) cs[i].2 0:=by unfold cpK cpG; rw [if_pos g23,if_pos h23,if_pos (by decide)]
    conv=>whnf
    rw [hG]
    refine ⟨⟨3874,[2009],[2009]⟩,?_⟩
    refine LoopW_ind _ (fun k:Nat=>(({ tmps:=[J,.own 1 [],J,J,J,.sl (S:=S) U.str (nmC cs i) (some 900005),J,J,vI i,.own 9 [],vI (cpK (cpG ls.length cs[i].1 (nmC cs i) cs[i].2) cs[i].2 k),vI k,J,J,J,J,J,J,J,J,J,J,J,J,J,J,J,J,J,J,J,J,J,J,J,J,J,J,J,J,J,J,J,J,J,J,J,J,J,J,J,J,J,J,J,J,J,J,J,J,J,J,J,J,J,J,J,J,J,J,J,J,J,J,J,J,J,J,J,J,J,J,J,J,J,J,J,J,J,J,J,J,J,J,J,J,J,J,J,J,J,J,J,J,J,J,J,J,J,J,J,J,J],seg:=[(1,.cells (setC p ls cs)),(9,.cells (cpC cs[i])),(900005,.row U.str false)],up:=[] }:St S))) (fun k:Nat=>(k≤cs[i].2.length)) (fun k:Nat=>(cs[i].2.length - k)) () ?_ 0 (Nat.zero_le _)
    intro k hk Z3 hZ3
    conv=>whnf
    apply bc9<;>intro g26_5
    ·have hkl:k < cs[i].2.length:=by have:=of_decide_eq_true g26_5; omega
     have hwk:=wrap_nat (n:=k) (by omega)
     conv=>whnf
     apply bc9<;>intro h26
     ·have h26:cpK (cpG ls.length cs[i].1 (nmC cs i) cs[i].2) cs[i].2 k=0:=eq_of_beq (show (cpK (cpG ls.length cs[i].1 (nmC cs i) cs[i].2) cs[i].2 k==0)=true from h26)
      have hks:=cpK_succ hkl h26
      conv=>whnf
      refine ⟨_,getI_nat hkl,?_⟩;conv=>whnf
      refine byC (c72 gl _ _ _) op72 ?_;conv=>whnf
      apply bc9<;>intro h28
      ·have h28:inB cs[i].2[k] 0 2=false:=by have h:(!inB cs[i].2[k] 0 2)=true:=h28; simpa using h
       rw [h28,if_neg (by simp)] at hks
       conv=>whnf
       refine ⟨⟨3874,[],[]⟩,?_⟩;conv=>whnf
       rw [hwk]
       have hz:=hZ3 (k+1) hkl (by omega)
       rw [hks] at hz
       exact hz
      have h28:inB cs[i].2[k] 0 2=true:=by have h:(!inB cs[i].2[k] 0 2)=false:=h28; simpa using h
      rw [h28,if_pos rfl] at hks
      conv=>whnf
      refine ⟨⟨3874,[],[]⟩,?_⟩;conv=>whnf
      rw [hwk,h26]
      have hz:=hZ3 (k+1) hkl (by omega)
      rw [hks] at hz
      exact hz
     have h26:cpK (cpG ls.length cs[i].1 (nmC cs i) cs[i].2) cs[i].2 k≠0:=fun e=>by have h:(cpK (cpG ls.length cs[i].1 (nmC cs i) cs[i].2) cs[i].2 k==0)=false:=h26; rw [e] at h; cases h
     rw [cpK_last hk h26,←hcf]
     conv=>whnf
     apply bc9<;>intro h30
     ·have h30:cpF ls.length cs i≠0:=by simpa using h30
      conv=>whnf
      first | rw [←hG] | skip
      unfold chk
      rw [g1,if_neg (by simp)]
      unfold chk1
      rw [g3,if_neg (by simp),firstR_no hd,if_neg (by simp)]
      unfold chk2
      rw [g15,if_neg (by simp),firstR_at hlc hdc h30,if_pos h30]
      all_goals rfl
     have h30:cpF ls.length cs i=0:=by simpa using h30
     conv=>whnf
     refine ⟨_,rfl,?_⟩;conv=>whnf
     refine ⟨lim (by simp; omega),?_⟩;conv=>whnf
     refine ⟨⟨290,[9,111,112,1009,2009,3009,4009],[]⟩,?_⟩;conv=>whnf
     rw [hwc]
     have hz:=hZ2 (i+1) ⟨hlc,up_succ hdc h30⟩ (by omega)
     rw [show nmC cs (i+1)=nmC cs i++[cs[i].1] from by unfold nmC; rw [take_succ' hlc,List.map_append]; rfl] at hz
     exact hz
    have hkl:k=cs[i].2.length:=by have:=of_decide_eq_false g26_5; omega
    rw [hkl,←hcf]
    conv=>whnf
    apply bc9<;>intro h30
    ·have h30:cpF ls.length cs i≠0:=by simpa using h30
     conv=>whnf
     first | rw [←hG] | skip
     unfold chk
     rw [g1,if_neg (by simp)]
     unfold chk1
     rw [g3,if_neg (by simp),firstR_no hd,if_neg (by simp)]
     unfold chk2
     rw [g15,if_neg (by simp),firstR_at hlc hdc h30,if_pos h30]
     all_goals rfl
    have h30:cpF ls.length cs i=0:=by simpa using h30
    conv=>whnf
    refine ⟨_,rfl,?_⟩;conv=>whnf
    refine ⟨lim (by simp; omega),?_⟩;conv=>whnf
    refine ⟨⟨290,[9,111,112,1009,2009,3009,4009],[]⟩,?_⟩;conv=>whnf
    rw [hwc]
    have hz:=hZ2 (i+1) ⟨hlc,up_succ hdc h30⟩ (by omega)
    rw [show nmC cs (i+1)=nmC cs i++[cs[i].1] from by unfold nmC; rw [take_succ' hlc,List.map_append]; rfl] at hz
    exact hz
   have h23:¬ (cs[i].2.length:Int)≠(ls.length:Int):=by have h:((cs[i].2.length:Int) != (ls.length:Int))=false:=h23; simpa using h
   have hG:(freE cs[i].1 (nmC cs i):Int)=cpK (cpG ls.length cs[i].1 (nmC cs i) cs[i].2) cs[i].2 0:=by unfold cpK cpG; rw [if_pos g23,if_neg h23,if_neg (by decide),g23]; rfl
   conv=>whnf
   rw [hG]
   refine ⟨⟨3874,[2009],[2009]⟩,?_⟩
   refine LoopW_ind _ (fun k:Nat=>(({ tmps:=[J,.own 1 [],J,J,J,.sl (S:=S) U.str (nmC cs i) (some 900005),J,J,vI i,.own 9 [],vI (cpK (cpG ls.length cs[i].1 (nmC cs i) cs[i].2) cs[i].2 k),vI k,J,J,J,J,J,J,J,J,J,J,J,J,J,J,J,J,J,J,J,J,J,J,J,J,J,J,J,J,J,J,J,J,J,J,J,J,J,J,J,J,J,J,J,J,J,J,J,J,J,J,J,J,J,J,J,J,J,J,J,J,J,J,J,J,J,J,J,J,J,J,J,J,J,J,J,J,J,J,J,J,J,J,J,J,J,J,J,J,J,J,J,J,J,J,J,J,J,J,J,J,J],seg:=[(1,.cells (setC p ls cs)),(9,.cells (cpC cs[i])),(900005,.row U.str false)],up:=[] }:St S))) (fun k:Nat=>(k≤cs[i].2.length)) (fun k:Nat=>(cs[i].2.length - k)) () ?_ 0 (Nat.zero_le _)
   intro k hk Z3 hZ3
   conv=>whnf
   apply bc9<;>intro g26_5
   ·have hkl:k < cs[i].2.length:=by have:=of_decide_eq_true g26_5; omega
    have hwk:=wrap_nat (n:=k) (by omega)
    conv=>whnf
    apply bc9<;>intro h26
    ·have h26:cpK (cpG ls.length cs[i].1 (nmC cs i) cs[i].2) cs[i].2 k=0:=eq_of_beq (show (cpK (cpG ls.length cs[i].1 (nmC cs i) cs[i].2) cs[i].2 k==0)=true from h26)
     have hks:=cpK_succ hkl h26
     conv=>whnf
     refine ⟨_,getI_nat hkl,?_⟩;conv=>whnf
     refine byC (c72 gl _ _ _) op72 ?_;conv=>whnf
     apply bc9<;>intro h28
     ·have h28:inB cs[i].2[k] 0 2=false:=by have h:(!inB cs[i].2[k] 0 2)=true:=h28; simpa using h
      rw [h28,if_neg (by simp)] at hks
      conv=>whnf
      refine ⟨⟨3874,[],[]⟩,?_⟩;conv=>whnf
      rw [hwk]
      have hz:=hZ3 (k+1) hkl (by omega)
      rw [hks] at hz
      exact hz
     have h28:inB cs[i].2[k] 0 2=true:=by have h:(!inB cs[i].2[k] 0 2)=false:=h28; simpa using h
     rw [h28,if_pos rfl] at hks
     conv=>whnf
     refine ⟨⟨3874,[],[]⟩,?_⟩;conv=>whnf
     rw [hwk,h26]
     have hz:=hZ3 (k+1) hkl (by omega)
     rw [hks] at hz
     exact hz
    have h26:cpK (cpG ls.length cs[i].1 (nmC cs i) cs[i].2) cs[i].2 k≠0:=fun e=>by have h:(cpK (cpG ls.length cs[i].1 (nmC cs i) cs[i].2) cs[i].2 k==0)=false:=h26; rw [e] at h; cases h
    rw [cpK_last hk h26,←hcf]
    conv=>whnf
    apply bc9<;>intro h30
    ·have h30:cpF ls.length cs i≠0:=by simpa using h30
     conv=>whnf
     first | rw [←hG] | skip
     unfold chk
     rw [g1,if_neg (by simp)]
     unfold chk1
     rw [g3,if_neg (by simp),firstR_no hd,if_neg (by simp)]
     unfold chk2
     rw [g15,if_neg (by simp),firstR_at hlc hdc h30,if_pos h30]
     all_goals rfl
    have h30:cpF ls.length cs i=0:=by simpa using h30
    conv=>whnf
    refine ⟨_,rfl,?_⟩;conv=>whnf
    refine ⟨lim (by simp; omega),?_⟩;conv=>whnf
    refine ⟨⟨290,[9,111,112,1009,2009,3009,4009],[]⟩,?_⟩;conv=>whnf
    rw [hwc]
    have hz:=hZ2 (i+1) ⟨hlc,up_succ hdc h30⟩ (by omega)
    rw [show nmC cs (i+1)=nmC cs i++[cs[i].1] from by unfold nmC; rw [take_succ' hlc,List.map_append]; rfl] at hz
    exact hz
   have hkl:k=cs[i].2.length:=by have:=of_decide_eq_false g26_5; omega
   rw [hkl,←hcf]
   conv=>whnf
   apply bc9<;>intro h30
   ·have h30:cpF ls.length cs i≠0:=by simpa using h30
    conv=>whnf
    first | rw [←hG] | skip
    unfold chk
    rw [g1,if_neg (by simp)]
    unfold chk1
    rw [g3,if_neg (by simp),firstR_no hd,if_neg (by simp)]
    unfold chk2
    rw [g15,if_neg (by simp),firstR_at hlc hdc h30,if_pos h30]
    all_goals rfl
   have h30:cpF ls.length cs i=0:=by simpa using h30
   conv=>whnf
   refine ⟨_,rfl,?_⟩;conv=>whnf
   refine ⟨lim (by simp; omega),?_⟩;conv=>whnf
   refine ⟨⟨290,[9,111,112,1009,2009,3009,4009],[]⟩,?_⟩;conv=>whnf
   rw [hwc]
   have hz:=hZ2 (i+1) ⟨hlc,up_succ hdc h30⟩ (by omega)
   rw [show nmC cs (i+1)=nmC cs i++[cs[i].1] from by unfold nmC; rw [take_succ' hlc,List.map_append]; rfl] at hz
   exact hz
  have g23:freE cs[i].1 (nmC cs i)≠0:=fun e=>by have g:(freE cs[i].1 (nmC cs i)==0)=false:=g23_2; rw [e] at g; cases g
  have hG:freE cs[i].1 (nmC cs i)=cpK (cpG ls.length cs[i].1 (nmC cs i) cs[i].2) cs[i].2 0:=by unfold cpK cpG; rw [if_neg g23,if_pos g23]
  conv=>whnf
  rw [hG]
  refine ⟨⟨3874,[2009],[2009]⟩,?_⟩
  refine LoopW_ind _ (fun k:Nat=>(({ tmps:=[J,.own 1 [],J,J,J,.sl (S:=S) U.str (nmC cs i) (some 900005),J,J,vI i,.own 9 [],vI (cpK (cpG ls.length cs[i].1 (nmC cs i) cs[i].2) cs[i].2 k),vI k,J,J,J,J,J,J,J,J,J,J,J,J,J,J,J,J,J,J,J,J,J,J,J,J,J,J,J,J,J,J,J,J,J,J,J,J,J,J,J,J,J,J,J,J,J,J,J,J,J,J,J,J,J,J,J,J,J,J,J,J,J,J,J,J,J,J,J,J,J,J,J,J,J,J,J,J,J,J,J,J,J,J,J,J,J,J,J,J,J,J,J,J,J,J,J,J,J,J,J,J,J],seg:=[(1,.cells (setC p ls cs)),(9,.cells (cpC cs[i])),(900005,.row U.str false)],up:=[] }:St S))) (fun k:Nat=>(k≤cs[i].2.length)) (fun k:Nat=>(cs[i].2.length - k)) () ?_ 0 (Nat.zero_le _)
  intro k hk Z3 hZ3
  conv=>whnf
  apply bc9<;>intro g26_5
  ·have hkl:k < cs[i].2.length:=by have:=of_decide_eq_true g26_5; omega
   have hwk:=wrap_nat (n:=k) (by omega)
   conv=>whnf
   apply bc9<;>intro h26
   ·have h26:cpK (cpG ls.length cs[i].1 (nmC cs i) cs[i].2) cs[i].2 k=0:=eq_of_beq (show (cpK (cpG ls.length cs[i].1 (nmC cs i) cs[i].2) cs[i].2 k==0)=true from h26)
    have hks:=cpK_succ hkl h26
    conv=>whnf
    refine ⟨_,getI_nat hkl,?_⟩;conv=>whnf
    refine byC (c72 gl _ _ _) op72 ?_;conv=>whnf
    apply bc9<;>intro h28
    ·have h28:inB cs[i].2[k] 0 2=false:=by have h:(!inB cs[i].2[k] 0 2)=true:=h28; simpa using h
     rw [h28,if_neg (by simp)] at hks
     conv=>whnf
     refine ⟨⟨3874,[],[]⟩,?_⟩;conv=>whnf
     rw [hwk]
     have hz:=hZ3 (k+1) hkl (by omega)
     rw [hks] at hz
     exact hz
    have h28:inB cs[i].2[k] 0 2=true:=by have h:(!inB cs[i].2[k] 0 2)=false:=h28; simpa using h
    rw [h28,if_pos rfl] at hks
    conv=>whnf
    refine ⟨⟨3874,[],[]⟩,?_⟩;conv=>whnf
    rw [hwk,h26]
    have hz:=hZ3 (k+1) hkl (by omega)
    rw [hks] at hz
    exact hz
   have h26:cpK (cpG ls.length cs[i].1 (nmC cs i) cs[i].2) cs[i].2 k≠0:=fun e=>by have h:(cpK (cpG ls.length cs[i].1 (nmC cs i) cs[i].2) cs[i].2 k==0)=false:=h26; rw [e] at h; cases h
   rw [cpK_last hk h26,←hcf]
   conv=>whnf
   apply bc9<;>intro h30
   ·have h30:cpF ls.length cs i≠0:=by simpa using h30
    conv=>whnf
    first | rw [←hG] | skip
    unfold chk
    rw [g1,if_neg (by simp)]
    unfold chk1
    rw [g3,if_neg (by simp),firstR_no hd,if_neg (by simp)]
    unfold chk2
    rw [g15,if_neg (by simp),firstR_at hlc hdc h30,if_pos h30]
    all_goals rfl
   have h30:cpF ls.length cs i=0:=by simpa using h30
   conv=>whnf
   refine ⟨_,rfl,?_⟩;conv=>whnf
   refine ⟨lim (by simp; omega),?_⟩;conv=>whnf
   refine ⟨⟨290,[9,111,112,1009,2009,3009,4009],[]⟩,?_⟩;conv=>whnf
   rw [hwc]
   have hz:=hZ2 (i+1) ⟨hlc,up_succ hdc h30⟩ (by omega)
   rw [show nmC cs (i+1)=nmC cs i++[cs[i].1] from by unfold nmC; rw [take_succ' hlc,List.map_append]; rfl] at hz
   exact hz
  have hkl:k=cs[i].2.length:=by have:=of_decide_eq_false g26_5; omega
  rw [hkl,←hcf]
  conv=>whnf
  apply bc9<;>intro h30
  ·have h30:cpF ls.length cs i≠0:=by simpa using h30
   conv=>whnf
   first | rw [←hG] | skip
   unfold chk
   rw [g1,if_neg (by simp)]
   unfold chk1
   rw [g3,if_neg (by simp),firstR_no hd,if_neg (by simp)]
   unfold chk2
   rw [g15,if_neg (by simp),firstR_at hlc hdc h30,if_pos h30]
   all_goals rfl
  have h30:cpF ls.length cs i=0:=by simpa using h30
  conv=>whnf
  refine ⟨_,rfl,?_⟩;conv=>whnf
  refine ⟨lim (by simp; omega),?_⟩;conv=>whnf
  refine ⟨⟨290,[9,111,112,1009,2009,3009,4009],[]⟩,?_⟩;conv=>whnf
  rw [hwc]
  have hz:=hZ2 (i+1) ⟨hlc,up_succ hdc h30⟩ (by omega)
  rw [show nmC cs (i+1)=nmC cs i++[cs[i].1] from by unfold nmC; rw [take_succ' hlc,List.map_append]; rfl] at hz
  exact hz
 have hgc:i=cs.length:=by have:=of_decide_eq_false h19; omega
 conv=>whnf
 rw [hgc] at hdc
 unfold chk
 rw [g1,if_neg (by simp)]
 unfold chk1
 rw [g3,if_neg (by simp),firstR_no hd,if_neg (by simp)]
 unfold chk2
 rw [g15,if_neg (by simp),firstR_no hdc,if_neg (by simp)]
theorem op17:Opens PR 17:=⟨_,Tryd.func17,rfl,rfl⟩
theorem beqT {a b:Int} (h:(a==b)=true):a=b:=eq_of_beq h
theorem beqF {a b:Int} (h:(a==b)=false):a≠b:=fun e=>by rw [e] at h; simp at h
def kdU (l:List Int) (k:Nat):Int:=if k≤2 then 1 else kindI l
theorem cntI_small (l:List Int) (k:Int):cntI l k≤l.length:=List.length_filter_le _ _
def hvN (cs:List Cp) (l:Nat) (k:Int) (i:Nat):Nat:=((List.range i).filter fun c=>hasI cs c l==k).length
theorem hvN_succ (cs:List Cp) (l:Nat) (k:Int) (i:Nat):hvN cs l k (i+1)=hvN cs l k i+if (hasI cs i l==k)=true then 1 else 0:=by
 unfold hvN
 rw [List.range_succ,List.filter_append,List.length_append,List.filter_cons,List.filter_nil]
 cases hasI cs i l==k <;> rfl
theorem hvN_le (cs:List Cp) (l:Nat) (k:Int) (i:Nat):hvN cs l k i≤i:=by
 have:=List.length_filter_le (fun c=>hasI cs c l==k) (List.range i)
 rwa [List.length_range] at this
abbrev hvA (cs:List Cp) (l:Nat) (k:Int):Nat:=hvN cs l k cs.length
theorem hvA_ones {cs:List Cp} (h4:cs.length≤4) (l:Nat) (k:Int):onesN (havN cs l k)=hvA cs l k:=by
 have h1:=bitsL_bitsO (c:=cs.length) (by omega) (fun i=>hasI cs i l==k)
 have hlt:=havN_lt h4 l k
 have h2:(bitsL (havN cs l k)).length=onesN (havN cs l k):=by rw [bitsL_below (c:=8) (by omega) (by omega)]; rfl
 rw [←h2]
 unfold havN
 rw [h1]
 rfl
def scaU (cs:List Cp) (k:Int):Nat→Nat
 | 0=>0
 | l+1=>if l=0 then 0 else if hvA cs l k < hvA cs (scaU cs k l) k then l else scaU cs k l
theorem scaU_lt (cs:List Cp) (k:Int):∀ l,scaU cs k (l+1)≤l
 | 0=>by simp [scaU]
 | l+1=>by
  have ih:=scaU_lt cs k l
  show (if l+1=0 then 0 else if hvA cs (l+1) k < hvA cs (scaU cs k (l+1)) k then l+1 else scaU cs k (l+1))≤l+1
  rw [if_neg (by omega)]
  split <;> omega
theorem most_sca {cs:List Cp} (h4:cs.length≤4) (k:Int):∀ l,mostU cs k (l+1)=(hvA cs (scaU cs k (l+1)) k,scaU cs k (l+1))
 | 0=>by
  show (if onesN (havN cs 0 k) < cs.length+1 then (onesN (havN cs 0 k),0) else (cs.length+1,0))=(hvA cs 0 k,0)
  have:=hvN_le cs 0 k cs.length
  rw [hvA_ones h4,if_pos (by unfold hvA; omega)]
 | l+1=>by
  have ih:=most_sca h4 k l
  show (if onesN (havN cs (l+1) k) < (mostU cs k (l+1)).1 then (onesN (havN cs (l+1) k),l+1) else mostU cs k (l+1))=_
  have hs:scaU cs k (l+1+1)=if hvA cs (l+1) k < hvA cs (scaU cs k (l+1)) k then l+1 else scaU cs k (l+1):=by
   show (if l+1=0 then 0 else _)=_
   rw [if_neg (by omega)]
  rw [hvA_ones h4,ih,hs]
  show (if hvA cs (l+1) k < hvA cs (scaU cs k (l+1)) k then _ else _)=_
  split <;> rfl
theorem c94 (gl:Gl) (l:List Int) (hl:l.length≤9223372036854775807) (n:Int):PCalls PR gl 94 [vL l,vI n] fun r=>r=vI ((cntI l n:Nat):Int):=by
 refine fnW_sound (parH_ok gl) Tryd.func94 ?_;conv=>whnf
 refine ⟨?_⟩;conv=>whnf
 refine ⟨?_⟩;conv=>whnf
 refine ⟨?_⟩;conv=>whnf
 refine ⟨⟨99,[],[]⟩,?_⟩
 refine LoopW_ind _ (fun i:Nat=>(({ tmps:=[vL l,vI n,J,J,J,vI ((cntI (l.take i) n:Nat):Int),vI i,J,J,J,J,J,J,J,J,J,J,J,J,J,J,J],seg:=[],up:=[] }:St S))) (fun i:Nat=>(i≤l.length)) (fun i:Nat=>(l.length - i)) () ?_ 0 (Nat.zero_le _)
 intro i hi Z1 hZ1
 conv=>whnf
 refine ⟨?_⟩;conv=>whnf
 apply bc9<;>intro h3
 ·have hlt:i < l.length:=by have:=of_decide_eq_true h3; omega
  have hw:=wrap_nat (n:=i) (by omega)
  have hcs:=cntI_succ hlt n
  have hcl:=cntI_small (l.take i) n
  rw [List.length_take] at hcl
  conv=>whnf
  refine ⟨?_⟩;conv=>whnf
  refine ⟨_,getI_nat hlt,?_⟩;conv=>whnf
  apply bc9<;>intro h5
  ·rw [if_pos (beqT h5)] at hcs
   have hw2:IntKind.i64.wrap (((cntI (l.take i) n:Nat):Int)+1)=((cntI (l.take (i+1)) n:Nat):Int):=by rw [hcs]; exact wrap_nat (by omega)
   conv=>whnf
   refine ⟨?_⟩;conv=>whnf
   refine ⟨?_⟩;conv=>whnf
   refine ⟨⟨99,[],[]⟩,?_⟩;conv=>whnf
   rw [hw,hw2]
   exact hZ1 (i+1) hlt (by omega)
  rw [if_neg (beqF h5)] at hcs
  conv=>whnf
  refine ⟨?_⟩;conv=>whnf
  refine ⟨⟨99,[],[]⟩,?_⟩;conv=>whnf
  rw [hw,←hcs]
  exact hZ1 (i+1) hlt (by omega)
 have hge:i=l.length:=by have:=of_decide_eq_false h3; omega
 conv=>whnf
 refine ⟨?_⟩;conv=>whnf
 rw [hge,List.take_length]
theorem op94:Opens PR 94:=⟨_,Tryd.func94,rfl,rfl⟩
theorem c83 (gl:Gl) (p:Int) (ls:List Lf) (cs:List Cp) (hV:Valid p ls cs) (l:Nat) (hl:l < ls.length) (k:Int):PCalls PR gl 83 [.agg [vI p,lfsV ls,cpsV cs],vI l,vI k] fun r=>r=vI ((hvA cs l k:Nat):Int):=by
 have hm4:=hV.m4
 refine fnW_sound (parH_ok gl) Tryd.func83 ?_;conv=>whnf
 refine ⟨?_⟩;conv=>whnf
 refine ⟨?_⟩;conv=>whnf
 refine ⟨?_⟩;conv=>whnf
 refine ⟨⟨398,[],[]⟩,?_⟩
 refine LoopW_ind _ (fun i:Nat=>(({ tmps:=[J,vI l,vI k,.own 3 [],J,J,J,vI ((hvN cs l k i:Nat):Int),vI i,J,J,J,J,J,J,J,J,J,J,J,J,J,J,J,J,J,J,J,J,J],seg:=[(3,.cells (setC p ls cs))],up:=[] }:St S))) (fun i:Nat=>(i≤cs.length)) (fun i:Nat=>(cs.length - i)) () ?_ 0 (Nat.zero_le _)
 intro i hi Z1 hZ1
 conv=>whnf
 refine ⟨?_⟩;conv=>whnf
 apply bc9<;>intro h3
 ·have hlt:i < cs.length:=by have:=of_decide_eq_true h3; omega
  have hw:=wrap_nat (n:=i) (by omega)
  have hx:(cs.getD i cp0)=cs[i]:=getD_at hlt
  have hxl:=(hV.cp hlt).2.1
  have hvs:=hvN_succ cs l k i
  have hvl:=hvN_le cs l k i
  conv=>whnf
  refine ⟨?_⟩;conv=>whnf
  refine ⟨_,getI_nat hlt,?_⟩;conv=>whnf
  refine ⟨hasI cs i l,by rw [getI_nat (xs:=cs[i].2) (i:=l) (by omega)]; unfold hasI; rw [hx,getD_at (by omega)],?_⟩;conv=>whnf
  apply bc9<;>intro h5
  ·rw [show (hasI cs i l==k)=true from h5,if_pos rfl] at hvs
   have hw2:IntKind.i64.wrap (((hvN cs l k i:Nat):Int)+1)=((hvN cs l k (i+1):Nat):Int):=by rw [hvs]; exact wrap_nat (by omega)
   conv=>whnf
   refine ⟨?_⟩;conv=>whnf
   refine ⟨?_⟩;conv=>whnf
   refine ⟨⟨398,[],[]⟩,?_⟩;conv=>whnf
   rw [hw,hw2]
   exact hZ1 (i+1) hlt (by omega)
  rw [show (hasI cs i l==k)=false from h5,if_neg (by simp)] at hvs
  conv=>whnf
  refine ⟨?_⟩;conv=>whnf
  refine ⟨⟨398,[],[]⟩,?_⟩;conv=>whnf
  rw [hw,show hvN cs l k i=hvN cs l k (i+1) from by omega]
  exact hZ1 (i+1) hlt (by omega)
 have hge:i=cs.length:=by have:=of_decide_eq_false h3; omega
 conv=>whnf
 refine ⟨?_⟩;conv=>whnf
 rw [hge]
theorem op83:Opens PR 83:=⟨_,Tryd.func83,rfl,rfl⟩
theorem c82 (gl:Gl) (p:Int) (ls:List Lf) (cs:List Cp) (hV:Valid p ls cs) (k:Int):PCalls PR gl 82 [.agg [vI p,lfsV ls,cpsV cs],vI k] fun r=>r=vI ((scaU cs k ls.length:Nat):Int):=by
 have hn1:=hV.n1
 have hn6:=hV.n6
 refine fnW_sound (parH_ok gl) Tryd.func82 ?_;conv=>whnf
 refine ⟨?_⟩;conv=>whnf
 refine ⟨?_⟩;conv=>whnf
 refine ⟨?_⟩;conv=>whnf
 refine ⟨⟨102,[],[]⟩,?_⟩
 refine LoopW_ind _ (fun i:Nat=>(({ tmps:=[J,vI k,.own 2 [],J,J,vI ((scaU cs k i:Nat):Int),vI i,J,J,J,J,J,J,J,J,J,J,J,J,J,J,J,J,J,J],seg:=[(2,.cells (setC p ls cs))],up:=[] }:St S))) (fun i:Nat=>(1≤i∧i≤ls.length)) (fun i:Nat=>(ls.length - i)) () ?_ 1 ⟨Nat.le_refl _,hn1⟩
 intro i hinv Z1 hZ1
 obtain ⟨hi1,hi⟩:=hinv
 conv=>whnf
 refine ⟨?_⟩;conv=>whnf
 apply bc9<;>intro h3
 ·have hlt:i < ls.length:=by have:=of_decide_eq_true h3; omega
  have hw:=wrap_nat (n:=i) (by omega)
  have hsl:scaU cs k i < ls.length:=by have:=scaU_lt cs k (i - 1); rw [show i - 1+1=i by omega] at this; omega
  have hss:scaU cs k (i+1)=if hvA cs i k < hvA cs (scaU cs k i) k then i else scaU cs k i:=by show (if i=0 then 0 else _)=_; rw [if_neg (by omega)]
  conv=>whnf
  refine ⟨[0,1,2,4,5,6,3,7,8],[],[],[],⟨33554431,[],[]⟩,by decide +kernel,?_⟩;conv=>whnf
  refine byC (c83 gl p ls cs hV i hlt k) op83 ?_;conv=>whnf
  refine byC (c83 gl p ls cs hV (scaU cs k i) hsl k) op83 ?_;conv=>whnf
  apply bc9<;>intro h5
  ·rw [if_pos (Int.ofNat_lt.1 (of_decide_eq_true h5))] at hss
   conv=>whnf
   refine ⟨?_⟩;conv=>whnf
   refine ⟨?_⟩;conv=>whnf
   refine ⟨⟨102,[],[]⟩,?_⟩;conv=>whnf
   rw [hw]
   have hz:=hZ1 (i+1) ⟨by omega,hlt⟩ (by omega)
   rw [hss] at hz
   exact hz
  rw [if_neg (fun e=>(of_decide_eq_false h5) (Int.ofNat_lt.2 e))] at hss
  conv=>whnf
  refine ⟨?_⟩;conv=>whnf
  refine ⟨⟨102,[],[]⟩,?_⟩;conv=>whnf
  rw [hw]
  have hz:=hZ1 (i+1) ⟨by omega,hlt⟩ (by omega)
  rw [hss] at hz
  exact hz
 have hge:i=ls.length:=by have:=of_decide_eq_false h3; omega
 conv=>whnf
 refine ⟨?_⟩;conv=>whnf
 rw [hge]
theorem op82:Opens PR 82:=⟨_,Tryd.func82,rfl,rfl⟩
theorem cntI_cons (x:Int) (r:List Int) (k:Int):cntI (x :: r) k=(if x=k then 1 else 0)+cntI r k:=by
 unfold cntI
 rw [List.filter_cons]
 by_cases h:x=k
 ·rw [if_pos h,if_pos (by simpa using h),List.length_cons]; omega
 rw [if_neg h,if_neg (by simpa using h)]; omega
theorem hostL_mem:∀ (m:Nat) (lf pre:List Int),lf.length=3→(∀ k,k < 3→0≤lf.getD k 0)→lf.getD 0 0+lf.getD 1 0+lf.getD 2 0=m→∀ q,(q∈hostL m lf pre ↔
  ∃ r,q=pre++r∧r.length=m∧(∀ x∈r,x=0∨x=1∨x=2)∧∀ k:Nat,k < 3→(cntI r (k:Int):Int)=lf.getD k 0)
 | 0,lf,pre,hl,h0,hs,q=>by
  simp only [hostL,List.mem_singleton]
  constructor
  ·rintro rfl
   refine ⟨[],by simp,rfl,(fun x hx=>by cases hx),fun k hk=>?_⟩
   have a0:=h0 0 (by omega)
   have a1:=h0 1 (by omega)
   have a2:=h0 2 (by omega)
   show ((0:Nat):Int)=_
   match k,hk with
   | 0,_=>omega
   | 1,_=>omega
   | 2,_=>omega
  rintro ⟨r,rfl,hr,_⟩
  rw [List.length_eq_zero_iff.1 hr,List.append_nil]
 | m+1,lf,pre,hl,h0,hs,q=>by
  simp only [hostL,List.mem_flatMap,List.mem_range]
  have hset:∀ k j,k < 3→(lf.set k (lf.getD k 0 - 1)).getD j 0=if k=j then lf.getD k 0 - 1 else lf.getD j 0:=fun k j hk=>by
   by_cases e:k=j
   ·subst e; rw [getD_set_self (by omega),if_pos rfl]
   rw [getD_set_ne e,if_neg e]
  have ih:=fun k (hk:k < 3) (hne:lf.getD k 0≠0)=>hostL_mem m (lf.set k (lf.getD k 0 - 1)) (pre++[(k:Int)]) (by rw [List.length_set]; exact hl) (fun j hj=>by
    rw [hset k j hk]; have:=h0 j hj; have:=h0 k hk; split <;> omega) (by
    rw [hset k 0 hk,hset k 1 hk,hset k 2 hk]
    match k,hk with
    | 0,_=>rw [if_pos rfl,if_neg (by decide),if_neg (by decide)]; omega
    | 1,_=>rw [if_neg (by decide),if_pos rfl,if_neg (by decide)]; omega
    | 2,_=>rw [if_neg (by decide),if_neg (by decide),if_pos rfl]; omega) q
  constructor
  ·rintro ⟨k,hk,hq⟩
   by_cases hne:lf.getD k 0=0
   ·rw [if_pos hne] at hq; cases hq
   rw [if_neg hne,ih k hk hne] at hq
   obtain ⟨r,rfl,hr,hx,hc⟩:=hq
   refine ⟨(k:Int) :: r,by simp,by simp [hr],fun x hx'=>?_,fun j hj=>?_⟩
   ·rcases List.mem_cons.1 hx' with rfl | hx'
    ·omega
    exact hx x hx'
   have:=hc j hj
   rw [hset k j hk] at this
   rw [cntI_cons]
   by_cases e:k=j
   ·subst e; rw [if_pos rfl] at this ⊢; omega
   rw [if_neg e] at this; rw [if_neg (by omega)]; omega
  rintro ⟨r,rfl,hr,hx,hc⟩
  match r,hr with
  | x :: r,hr =>
   have hx0:=hx x List.mem_cons_self
   obtain ⟨k,hk,rfl⟩:∃ k:Nat,k < 3∧x=(k:Int):=⟨x.toNat,by omega,by omega⟩
   have hck:=hc k hk
   rw [cntI_cons,if_pos rfl] at hck
   have hne:lf.getD k 0≠0:=by omega
   refine ⟨k,hk,?_⟩
   rw [if_neg hne,ih k hk hne]
   refine ⟨r,by simp,by simpa using hr,fun y hy=>hx y (List.mem_cons_of_mem _ hy),fun j hj=>?_⟩
   have:=hc j hj
   rw [cntI_cons] at this
   rw [hset k j hk]
   by_cases e:k=j
   ·subst e; rw [if_pos rfl] at this ⊢; omega
   rw [if_neg (by omega)] at this; rw [if_neg e]; omega
theorem cntI_all:∀ (r:List Int),(∀ x∈r,x=0∨x=1∨x=2)→cntI r 0+cntI r 1+cntI r 2=r.length
 | [],_=>rfl
 | x :: r,h=>by
  have ih:=cntI_all r fun y hy=>h y (List.mem_cons_of_mem _ hy)
  rw [cntI_cons,cntI_cons,cntI_cons,List.length_cons]
  rcases h x List.mem_cons_self with rfl | rfl | rfl <;> simp <;> omega
theorem most_le {cs:List Cp} (h4:cs.length≤4) (k:Int):∀ L l,l < L→(mostU cs k L).1≤hvA cs l k
 | 0,_,h=>absurd h (Nat.not_lt_zero _)
 | L+1,l,h=>by
  have hs:mostU cs k (L+1)=if onesN (havN cs L k) < (mostU cs k L).1 then (onesN (havN cs L k),L) else mostU cs k L:=rfl
  rw [hs,hvA_ones h4]
  rcases Nat.lt_or_eq_of_le (Nat.le_of_lt_succ h) with h1 | rfl
  ·have ih:=most_le h4 k L l h1
   split
   ·show hvA cs L k≤_; omega
   exact ih
  split
  ·exact Nat.le_refl _
  omega
theorem most_at {cs:List Cp} (h4:cs.length≤4) (k:Int) {L:Nat} (hL:1≤L):∃ l,l < L∧(mostU cs k L).1=hvA cs l k:=by
 have:=most_sca h4 k (L - 1)
 rw [show L - 1+1=L by omega] at this
 have hl:=scaU_lt cs k (L - 1)
 rw [show L - 1+1=L by omega] at hl
 exact ⟨scaU cs k L,by omega,by rw [this]⟩
theorem hvN_two (cs:List Cp) (l:Nat) {k k':Int} (hk:k≠k'):∀ i,hvN cs l k i+hvN cs l k' i≤i
 | 0=>Nat.le_refl _
 | i+1=>by
  have ih:=hvN_two cs l hk i
  rw [hvN_succ,hvN_succ]
  by_cases h:hasI cs i l=k
  ·rw [if_pos (by simpa using h),if_neg (by rw [h]; simpa using hk)]; omega
  rw [if_neg (by simpa using h)]; split <;> omega
theorem most_two {ls:List Lf} {cs:List Cp} (h4:cs.length≤4) (hn:1≤ls.length):(mostN ls cs 1).1+(mostN ls cs 2).1≤cs.length:=by
 have h1:=most_le h4 1 ls.length 0 (by omega)
 have h2:=most_le h4 2 ls.length 0 (by omega)
 have h3:hvA cs 0 1+hvA cs 0 2≤cs.length:=hvN_two cs 0 (show (1:Int)≠2 by decide) cs.length
 unfold mostN
 omega
structure HostOk (ls:List Lf) (cs:List Cp) (h:List Int):Prop where
 len:h.length=cs.length
 kind:∀ x∈h,x=0∨x=1∨x=2
 one:cntI h 1=(mostN ls cs 1).1
 two:cntI h 2=(mostN ls cs 2).1
theorem hostA_mem {ls:List Lf} {cs:List Cp} (h4:cs.length≤4) (hn:1≤ls.length) {h:List Int}:h∈hostA ls cs↔HostOk ls cs h:=by
 have h2:=most_two h4 hn
 have hlf:leftU ls cs 3=[(cs.length:Int) - (mostN ls cs 1).1 - (mostN ls cs 2).1,((mostN ls cs 1).1:Int),((mostN ls cs 2).1:Int)]:=rfl
 unfold hostA
 rw [hostL_mem cs.length (leftU ls cs 3) [] (leftU_len _ _ _) (fun k hk=>by
   rw [hlf]
   match k,hk with
   | 0,_=>show 0≤(cs.length:Int) - _ - _; omega
   | 1,_=>show (0:Int)≤((mostN ls cs 1).1:Int); omega
   | 2,_=>show (0:Int)≤((mostN ls cs 2).1:Int); omega) (by
   rw [hlf]
   show (cs.length:Int) - _ - _+((mostN ls cs 1).1:Int)+((mostN ls cs 2).1:Int)=_
   omega) h]
 constructor
 ·rintro ⟨r,hrr,hr,hx,hc⟩
  rw [List.nil_append] at hrr
  subst hrr
  rw [hlf] at hc
  refine ⟨hr,hx,?_,?_⟩
  ·have:=hc 1 (by omega)
   have this:(cntI h 1:Int)=((mostN ls cs 1).1:Int):=this
   omega
  have:=hc 2 (by omega)
  have this:(cntI h 2:Int)=((mostN ls cs 2).1:Int):=this
  omega
 rintro ⟨h1,hx,hc1,hc2⟩
 have ha:=cntI_all h hx
 refine ⟨h,rfl,h1,hx,fun k hk=>?_⟩
 rw [hlf]
 match k,hk with
 | 0,_=>show (cntI h 0:Int)=(cs.length:Int) - _ - _; omega
 | 1,_=>show (cntI h 1:Int)=_; rw [hc1]; rfl
 | 2,_=>show (cntI h 2:Int)=_; rw [hc2]; rfl
theorem pad_get {h:List Int} (c:Nat):(pad4 h).getD c 0=h.getD c 0:=by
 rcases Nat.lt_or_ge c h.length with hc | hc
 ·rw [getD_at (by rw [List.length_append]; omega),getD_at hc,List.getElem_append_left hc]
 rw [List.getD_eq_getElem?_getD,List.getD_eq_getElem?_getD,List.getElem?_eq_none hc,List.getElem?_append_right hc]
 rcases Nat.lt_or_ge (c - h.length) (4 - h.length) with h2 | h2
 ·rw [List.getElem?_replicate,if_pos h2]; rfl
 rw [List.getElem?_replicate,if_neg (by omega)]
theorem HostOk.nn {ls:List Lf} {cs:List Cp} {h:List Int} (hh:HostOk ls cs h) (c:Nat):0≤(pad4 h).getD c 0∧(pad4 h).getD c 0≤2:=by
 rw [pad_get]
 rcases Nat.lt_or_ge c h.length with hc | hc
 ·rw [getD_at hc]; have:=hh.kind _ (List.getElem_mem hc); omega
 rw [List.getD_eq_getElem?_getD,List.getElem?_eq_none hc]; decide
def tbOf (f:Nat→Nat→Int):Tb:=(List.range 4).map fun c=>(List.range 6).map fun l=>f c l
theorem tbOf_ok (f:Nat→Nat→Int):Tb46 (tbOf f):=⟨rfl,fun c hc=>by
 unfold tbOf
 rw [getD_at (xs:=(List.range 4).map fun c=>(List.range 6).map fun l=>f c l) (i:=c) (by simp; exact hc)]
 simp⟩
theorem tbOf_get {f:Nat→Nat→Int} {c l:Nat} (hc:c < 4) (hl:l < 6):get2 (tbOf f) c l=f c l:=by
 unfold get2 tbOf
 rw [getD_at (xs:=(List.range 4).map fun c=>(List.range 6).map fun l=>f c l) (i:=c) (by simp; exact hc),List.getElem_map,getD_at (by simp; exact hl)]
 simp
theorem tbOf_out {f:Nat→Nat→Int} {c l:Nat} (h:¬ (c < 4∧l < 6)):get2 (tbOf f) c l=0:=by
 unfold get2 tbOf
 rcases Nat.lt_or_ge c 4 with hc | hc
 ·rw [getD_at (xs:=(List.range 4).map fun c=>(List.range 6).map fun l=>f c l) (i:=c) (by simp; exact hc),List.getElem_map,List.getD_eq_getElem?_getD,List.getElem?_eq_none]
  ·rfl
  simp; omega
 rw [List.getD_eq_getElem?_getD (l:=List.map _ _),List.getElem?_eq_none (by simp; omega)]; rfl
def needL (cs:List Cp) (H:List Int) (l:Nat) (k:Int):List Nat:=(List.range cs.length).filter fun c=>H.getD c 0==k&&hasI cs c l != k
def freeL (cs:List Cp) (H:List Int) (l:Nat) (k:Int):List Nat:=(List.range cs.length).filter fun d=>hasI cs d l==k&&H.getD d 0 != k
theorem range_split (p q:Nat→Bool):∀ i,((List.range i).filter fun c=>p c&&!q c).length+((List.range i).filter fun c=>p c&&q c).length=((List.range i).filter p).length
 | 0=>rfl
 | i+1=>by
  have ih:=range_split p q i
  simp only [List.range_succ,List.filter_append,List.length_append,List.filter_cons,List.filter_nil]
  cases p i <;> cases q i <;> simp <;> omega
theorem cnt_host (H:List Int) (k:Int):∀ i,i≤H.length→((List.range i).filter fun c=>H.getD c 0==k).length=cntI (H.take i) k
 | 0,_=>rfl
 | i+1,h=>by
  rw [List.range_succ,List.filter_append,List.length_append,cnt_host H k i (by omega),cntI_succ (by omega),List.filter_cons,List.filter_nil,getD_at (by omega:i < H.length)]
  by_cases e:H[i]=k
  ·rw [if_pos e,if_pos (by simpa using e)]; rfl
  rw [if_neg e,if_neg (by simpa using e)]; rfl
theorem need_free {ls:List Lf} {cs:List Cp} (h4:cs.length≤4) {h:List Int} (hh:HostOk ls cs h) {l:Nat} (hl:l < ls.length) {k:Int} (hk:k=1∨k=2):(needL cs (pad4 h) l k).length≤(freeL cs (pad4 h) l k).length:=by
 have e1:=range_split (fun c=>(pad4 h).getD c 0==k) (fun c=>hasI cs c l==k) cs.length
 have e2:=range_split (fun c=>hasI cs c l==k) (fun c=>(pad4 h).getD c 0==k) cs.length
 have e3:((List.range cs.length).filter fun c=>(pad4 h).getD c 0==k&&hasI cs c l==k).length=((List.range cs.length).filter fun c=>hasI cs c l==k&&(pad4 h).getD c 0==k).length:=by
  congr 1
  apply List.filter_congr
  intro c _
  rw [Bool.and_comm]
 have e4:((List.range cs.length).filter fun c=>(pad4 h).getD c 0==k).length=cntI h k:=by
  have:((List.range cs.length).filter fun c=>(pad4 h).getD c 0==k)=(List.range cs.length).filter fun c=>h.getD c 0==k:=by
   apply List.filter_congr
   intro c _
   rw [pad_get]
  rw [this,cnt_host h k _ (by rw [hh.len]; exact Nat.le_refl _),←hh.len,List.take_length]
 have e5:(mostN ls cs k).1≤hvA cs l k:=most_le h4 k ls.length l hl
 have e6:cntI h k=(mostN ls cs k).1:=by rcases hk with rfl | rfl; exact hh.one; exact hh.two
 unfold needL freeL
 unfold hvA hvN at e5
 have e7:((List.range cs.length).filter fun c=>(pad4 h).getD c 0==k&&hasI cs c l != k)=(List.range cs.length).filter fun c=>(pad4 h).getD c 0==k&&!(hasI cs c l==k):=rfl
 have e8:((List.range cs.length).filter fun c=>hasI cs c l==k&&(pad4 h).getD c 0 != k)=(List.range cs.length).filter fun c=>hasI cs c l==k&&!((pad4 h).getD c 0==k):=rfl
 rw [e7,e8]
 omega
def fromI (cs:List Cp) (H:List Int) (c l:Nat):Nat:=if hasI cs c l=H.getD c 0 then c else (freeL cs H l (H.getD c 0)).getD ((needL cs H l (H.getD c 0)).idxOf c) 0
theorem from_don {ls:List Lf} {cs:List Cp} (h4:cs.length≤4) {h:List Int} (hh:HostOk ls cs h) {c l:Nat} (hc:c < cs.length) (hl:l < ls.length) (h0:(pad4 h).getD c 0≠0) (hne:hasI cs c l≠(pad4 h).getD c 0) :
  (needL cs (pad4 h) l ((pad4 h).getD c 0)).idxOf c < (freeL cs (pad4 h) l ((pad4 h).getD c 0)).length∧c∈needL cs (pad4 h) l ((pad4 h).getD c 0)∧fromI cs (pad4 h) c l∈freeL cs (pad4 h) l ((pad4 h).getD c 0):=by
 have hn:=hh.nn c
 have hle:=need_free h4 hh hl (k:=(pad4 h).getD c 0) (by omega)
 have hm:c∈needL cs (pad4 h) l ((pad4 h).getD c 0):=by
  unfold needL
  rw [List.mem_filter,List.mem_range]
  exact ⟨hc,by simpa using hne⟩
 have hi:=List.idxOf_lt_length_of_mem hm
 refine ⟨by omega,hm,?_⟩
 unfold fromI
 rw [if_neg hne,getD_at (xs:=freeL cs (pad4 h) l ((pad4 h).getD c 0)) (by omega)]
 exact List.getElem_mem _
theorem free_mem {cs:List Cp} {H:List Int} {l d:Nat} {k:Int}:d∈freeL cs H l k↔d < cs.length∧hasI cs d l=k∧H.getD d 0≠k:=by
 unfold freeL
 rw [List.mem_filter,List.mem_range,Bool.and_eq_true,beq_iff_eq,bne_iff_ne]
theorem idx_inj {l:List Nat} {a b:Nat} (ha:a∈l) (hb:b∈l) (h:l.idxOf a=l.idxOf b):a=b:=by
 have h1:=List.getElem_idxOf (List.idxOf_lt_length_of_mem ha)
 have h2:=List.getElem_idxOf (List.idxOf_lt_length_of_mem hb)
 simp only [h] at h1
 exact h1.symm.trans h2
theorem from_inj {ls:List Lf} {cs:List Cp} (h4:cs.length≤4) {h:List Int} (hh:HostOk ls cs h) {c c' l:Nat} (hc:c < cs.length) (hc':c' < cs.length) (hl:l < ls.length) (h0:(pad4 h).getD c 0≠0) (h0':(pad4 h).getD c' 0≠0) (hcc:c≠c') :
  fromI cs (pad4 h) c l≠fromI cs (pad4 h) c' l:=by
 have one:∀ {a b:Nat},b < cs.length→(pad4 h).getD b 0≠0→hasI cs a l=(pad4 h).getD a 0→hasI cs b l≠(pad4 h).getD b 0→fromI cs (pad4 h) a l≠fromI cs (pad4 h) b l:=fun {a b} hb hb0 ha hbn e=>by
  have h1:=(from_don h4 hh hb hl hb0 hbn).2.2
  rw [←e] at h1
  unfold fromI at h1
  rw [if_pos ha,free_mem] at h1
  exact h1.2.2 (by rw [←ha,h1.2.1])
 by_cases ho:hasI cs c l=(pad4 h).getD c 0
 ·by_cases ho':hasI cs c' l=(pad4 h).getD c' 0
  ·unfold fromI; rw [if_pos ho,if_pos ho']; exact hcc
  exact one hc' h0' ho ho'
 by_cases ho':hasI cs c' l=(pad4 h).getD c' 0
 ·exact (one hc h0 ho' ho).symm
 obtain ⟨g1,g2,g3⟩:=from_don h4 hh hc hl h0 ho
 obtain ⟨g1',g2',g3'⟩:=from_don h4 hh hc' hl h0' ho'
 intro e
 by_cases hk:(pad4 h).getD c 0=(pad4 h).getD c' 0
 ·unfold fromI at e
  rw [if_neg ho,if_neg ho',←hk] at e
  rw [←hk] at g1' g2'
  rw [getD_at (xs:=freeL cs (pad4 h) l ((pad4 h).getD c 0)) g1,getD_at (xs:=freeL cs (pad4 h) l ((pad4 h).getD c 0)) g1'] at e
  have hnd:(freeL cs (pad4 h) l ((pad4 h).getD c 0)).Nodup:=List.nodup_range.filter _
  have:=(List.getElem_inj hnd).1 e
  exact hcc (idx_inj g2 g2' this)
 rw [e] at g3
 exact hk ((free_mem.1 g3).2.1.symm.trans (free_mem.1 g3').2.1)
theorem plan_ex {ls:List Lf} {cs:List Cp} (h4:cs.length≤4) (hn6:ls.length≤6) {h:List Int} (hh:HostOk ls cs h):∃ Q,PlOk ls.length cs (pad4 h) Q:=by
 let tk:Nat→Nat→Bool:=fun c l=>(List.range cs.length).any fun c'=>decide ((pad4 h).getD c' 0≠0)&&fromI cs (pad4 h) c' l==c
 let f:Nat→Nat→Int:=fun c l=>if c < cs.length∧l < ls.length then (if (pad4 h).getD c 0≠0 then (fromI cs (pad4 h) c l:Int) else if hasI cs c l > 0∧tk c l=false then (c:Int) else -1) else 0
 have hg:∀ c l,get2 (tbOf f) c l=f c l:=fun c l=>by
  by_cases e:c < 4∧l < 6
  ·exact tbOf_get e.1 e.2
  rw [tbOf_out e]
  show 0=if c < cs.length∧l < ls.length then _ else (0:Int)
  rw [if_neg (by omega)]
 have hin:∀ c l,c < cs.length→l < ls.length→(pad4 h).getD c 0≠0→f c l=(fromI cs (pad4 h) c l:Int):=fun c l a1 a2 a3=>by
  show (if c < cs.length∧l < ls.length then _ else _)=_
  rw [if_pos ⟨a1,a2⟩,if_pos a3]
 have hre:∀ c l,c < cs.length→l < ls.length→(pad4 h).getD c 0=0→f c l=if hasI cs c l > 0∧tk c l=false then (c:Int) else -1:=fun c l a1 a2 a3=>by
  show (if c < cs.length∧l < ls.length then _ else _)=_
  rw [if_pos ⟨a1,a2⟩,if_neg (by simpa using a3)]
 have htk:∀ c l,l < ls.length→(tk c l=false↔∀ c',c' < cs.length→(pad4 h).getD c' 0≠0→f c' l≠(c:Int)):=fun c l hl=>by
  show ((List.range cs.length).any _)=false↔_
  rw [List.any_eq_false]
  constructor
  ·intro hall c' a1 a2 e
   have:=hall c' (List.mem_range.2 a1)
   rw [hin c' l a1 hl a2] at e
   rw [decide_eq_true a2,Bool.true_and,beq_iff_eq] at this
   exact this (by omega)
  intro hall c' hc'
  have hc':=List.mem_range.1 hc'
  intro hb
  rw [Bool.and_eq_true,decide_eq_true_eq,beq_iff_eq] at hb
  exact hall c' hc' hb.1 (by rw [hin c' l hc' hl hb.1,hb.2])
 refine ⟨tbOf f,tbOf_ok f,fun c x hz=>?_,fun c x a1 a2 a3 a4=>?_,fun c x a1 a2 a3 a4=>?_,fun c c' x a1 a2 a3 a4 a5 a6=>?_,fun c x a1 a2 a3 a4 a5=>?_,fun c x a1 a2 a3 a4=>?_⟩
 ·rw [hg]; show (if c < cs.length∧x < ls.length then _ else (0:Int))=0; rw [if_neg hz]
 ·rw [hg,hin c x a1 a2 a3]; unfold fromI; rw [if_pos a4]
 ·obtain ⟨_,_,g3⟩:=from_don h4 hh a1 a2 a3 a4
  obtain ⟨b1,b2,b3⟩:=free_mem.1 g3
  exact ⟨_,b1,by rw [hg,hin c x a1 a2 a3],b2,b3⟩
 ·rw [hg,hg,hin c x a1 a3 a4,hin c' x a2 a3 a5]
  have:=from_inj h4 hh a1 a2 a3 a4 a5 a6
  omega
 ·rw [hg,hre c x a1 a2 a3,if_pos]
  exact ⟨a4,(htk c x a2).2 fun c' b1 b2=>by have:=a5 c' b1 b2; rwa [hg] at this⟩
 rw [hg,hre c x a1 a2 a3,if_neg]
 rintro ⟨b1,b2⟩
 exact a4 ⟨b1,fun c' c1 c2=>by rw [hg]; exact (htk c x a2).1 b2 c' c1 c2⟩
theorem befL_cons (x y:Int) (a b:List Int):befL (x :: a) (y :: b)=(decide (x < y)||(decide (x=y)&&befL a b)):=by
 rw [←cmpL_lt,←cmpL_lt,cmpL_cons]
 rcases Int.lt_trichotomy x y with h | rfl | h
 ·rw [if_neg (by omega),if_pos h,decide_eq_true h]; rfl
 ·rw [if_pos rfl]; simp
 rw [if_neg (by omega),if_neg (by omega)]; simp; omega
theorem befL_app:∀ {a b c d:List Int},a.length=b.length→befL (a++c) (b++d)=if a=b then befL c d else befL a b
 | [],[],c,d,_=>by simp
 | x :: a,y :: b,c,d,h=>by
  rw [List.cons_append,List.cons_append,befL_cons,befL_cons,befL_app (by simpa using h)]
  by_cases hxy:x=y
  ·subst hxy
   by_cases hab:a=b
   ·subst hab; rw [if_pos rfl,if_pos rfl]; simp
   rw [if_neg hab,if_neg (fun e=>hab (List.cons.inj e).2)]
  rw [if_neg (fun e=>hxy (List.cons.inj e).1)]
  simp [hxy]
theorem rwC_zero {n:Nat} {P Q:Tb} {c:Nat} (hl:((P.getD c []).take n).length=((Q.getD c []).take n).length):rwC n P Q c=0↔(P.getD c []).take n=(Q.getD c []).take n:=by
 unfold rwC
 constructor
 ·intro h
  refine befL_total _ _ hl ?_ ?_
  ·cases hb:befL ((P.getD c []).take n) ((Q.getD c []).take n) with
   | false=>rfl
   | true=>have:=(cmpL_lt' _ _).2 hb; omega
  cases hb:befL ((Q.getD c []).take n) ((P.getD c []).take n) with
  | false=>rfl
  | true=>have:=(cmpL_gt' _ _).2 hb; omega
 intro h
 rw [h]
 have h1:¬ cmpL cmpI ((Q.getD c []).take n) ((Q.getD c []).take n) < 0:=fun e=>by have:=(cmpL_lt' _ _).1 e; rw [befL_irr] at this; cases this
 have h2:¬ cmpL cmpI ((Q.getD c []).take n) ((Q.getD c []).take n) > 0:=fun e=>by have:=(cmpL_gt' _ _).1 e; rw [befL_irr] at this; cases this
 omega
def flL (n:Nat) (P:Tb):Nat→List Int
 | 0=>[]
 | m+1=>flL n P m++(P.getD m []).take n
theorem row_len {P:Tb} (h:Tb46 P) (n:Nat) {c:Nat} (hc:c < 4):((P.getD c []).take n).length=min n 6:=by rw [List.length_take,h.row c hc]
theorem flL_len {P Q:Tb} (hP:Tb46 P) (hQ:Tb46 Q) (n:Nat):∀ m,m≤4→(flL n P m).length=(flL n Q m).length
 | 0,_=>rfl
 | m+1,h=>by
  simp only [flL,List.length_append]
  rw [flL_len hP hQ n m (by omega),row_len hP n (by omega),row_len hQ n (by omega)]
theorem flL_eq {P Q:Tb} (hP:Tb46 P) (hQ:Tb46 Q) (n:Nat):∀ m,m≤4→(flL n P m=flL n Q m↔∀ j,j < m→rwC n P Q j=0)
 | 0,_=>⟨fun _ j h=>absurd h (Nat.not_lt_zero j),fun _=>rfl⟩
 | m+1,h=>by
  have ih:=flL_eq hP hQ n m (by omega)
  have hl:=flL_len hP hQ n m (by omega)
  have hr:=rwC_zero (n:=n) (P:=P) (Q:=Q) (c:=m) (by rw [row_len hP n (by omega),row_len hQ n (by omega)])
  simp only [flL]
  rw [show flL n P m++(P.getD m []).take n=flL n Q m++(Q.getD m []).take n↔flL n P m=flL n Q m∧(P.getD m []).take n=(Q.getD m []).take n from ⟨fun h=>List.append_inj h hl,fun ⟨h1,h2⟩=>by rw [h1,h2]⟩,ih,←hr]
  constructor
  ·rintro ⟨h1,h2⟩ j hj
   rcases Nat.lt_or_eq_of_le (Nat.le_of_lt_succ hj) with h3 | rfl
   ·exact h1 j h3
   exact h2
  exact fun h1=>⟨fun j hj=>h1 j (by omega),h1 m (by omega)⟩
theorem rowsB_bef {P Q:Tb} (hP:Tb46 P) (hQ:Tb46 Q) (n:Nat):∀ m,m≤4→rowsB n P Q m=befL (flL n P m) (flL n Q m)
 | 0,_=>rfl
 | m + 1,h=>by
  have ih:=rowsB_bef hP hQ n m (by omega)
  have he:=flL_eq hP hQ n m (by omega)
  simp only [flL]
  rw [befL_app (flL_len hP hQ n m (by omega))]
  by_cases hall:∀ j,j < m→rwC n P Q j=0
  ·rw [if_pos (he.2 hall)]
   by_cases h0:rwC n P Q m=0
   ·rw [rows_no (fun j hj=>by
     rcases Nat.lt_or_eq_of_le (Nat.le_of_lt_succ hj) with h3 | rfl
     ·exact hall j h3
     ·exact h0)]
    have:=(rwC_zero (by rw [row_len hP n (by omega),row_len hQ n (by omega)])).1 h0
    rw [this,befL_irr]
   rw [rows_hit (Nat.lt_succ_self m) hall h0]
   unfold rwC
   exact cmpL_lt _ _
  rw [if_neg (fun e=>hall (he.1 e)),←ih]
  have:∃ c,c < m∧(∀ j,j < c→rwC n P Q j=0)∧rwC n P Q c≠0:=by
   apply Classical.byContradiction
   intro hno
   apply hall
   intro j
   induction j using Nat.strongRecOn with
   | _ j ihj =>
    intro hj
    apply Classical.byContradiction
    intro h0
    exact hno ⟨j,hj,fun i hi=>ihj i hi (by omega),h0⟩
  obtain ⟨c,hc,h1,h2⟩:=this
  rw [rows_hit (show c < m+1 by omega) h1 h2,rows_hit hc h1 h2]
def keyV (n m:Nat) (v:Way):List Int:=v.2.1 :: v.2.2 :: flL n v.1 m
theorem betB_key {n m:Nat} (hm:m≤4) {v w:Way} (hv:Tb46 v.1) (hw:Tb46 w.1):betB n m v w=befL (keyV n m v) (keyV n m w):=by
 unfold betB keyV
 rw [befL_cons,befL_cons,←rowsB_bef hv hw n m hm]
 by_cases h1:v.2.1=w.2.1
 ·rw [if_neg (by simpa using h1),decide_eq_true h1,decide_eq_false (by omega:¬ v.2.1 < w.2.1)]
  by_cases h2:v.2.2=w.2.2
  ·rw [if_neg (by simpa using h2),decide_eq_true h2,decide_eq_false (by omega:¬ v.2.2 < w.2.2)]; rfl
  rw [if_pos (by simpa using h2),decide_eq_false h2]; simp
 rw [if_pos (by simpa using h1),decide_eq_false h1]; simp
theorem keyW_len {n m:Nat} (hm:m≤4) {v w:Way} (hv:Tb46 v.1) (hw:Tb46 w.1):(keyV n m v).length=(keyV n m w).length:=by
 unfold keyV; rw [List.length_cons,List.length_cons,List.length_cons,List.length_cons,flL_len hv hw n m hm]
def stepB (n m:Nat) (w v:Way):Way:=if betB n m v w=true then v else w
theorem foldB {n m:Nat} (hm:m≤4):∀ (l:List Way) (w:Way),(∀ v∈l,Tb46 v.1)→Tb46 w.1→(l.foldl (stepB n m) w=w∨l.foldl (stepB n m) w∈l)∧Tb46 (l.foldl (stepB n m) w).1 ∧
  befL (keyV n m w) (keyV n m (l.foldl (stepB n m) w))=false∧∀ v∈l,befL (keyV n m v) (keyV n m (l.foldl (stepB n m) w))=false
 | [],w,_,hw=>⟨.inl rfl,hw,befL_irr _,fun v hv=>by cases hv⟩
 | a :: l,w,hl,hw=>by
  have ha:=hl a List.mem_cons_self
  have hs:Tb46 (stepB n m w a).1:=by unfold stepB; split <;> assumption
  obtain ⟨h1,h2,h3,h4⟩:=foldB hm l (stepB n m w a) (fun v hv=>hl v (List.mem_cons_of_mem _ hv)) hs
  rw [List.foldl_cons]
  generalize hb:l.foldl (stepB n m) (stepB n m w a)=b at h1 h2 h3 h4
  have neg:∀ x:Way,Tb46 x.1→befL (keyV n m x) (keyV n m (stepB n m w a))=false→befL (keyV n m x) (keyV n m b)=false:=fun x hx hn=>by
   cases hq:befL (keyV n m x) (keyV n m b) with
   | false=>rfl
   | true =>
    cases hr:befL (keyV n m b) (keyV n m (stepB n m w a)) with
    | true=>rw [befL_trans _ _ _ hq hr] at hn; cases hn
    | false =>
     have:=befL_total _ _ (keyW_len hm hs h2) h3 hr
     rw [←this,hn] at hq; cases hq
  refine ⟨?_,h2,neg w hw ?_,fun v hv=>?_⟩
  ·rcases h1 with h1 | h1
   ·unfold stepB at h1
    split at h1
    ·exact .inr (by rw [h1]; exact List.mem_cons_self)
    exact .inl h1
   exact .inr (List.mem_cons_of_mem _ h1)
  ·unfold stepB
   split
   ·rename_i hc
    rw [betB_key hm ha hw] at hc
    cases hq:befL (keyV n m w) (keyV n m a) with
    | false=>rfl
    | true=>have:=befL_trans _ _ _ hq hc; rw [befL_irr] at this; cases this
   exact befL_irr _
  rcases List.mem_cons.1 hv with rfl | hv
  ·refine neg v ha ?_
   unfold stepB
   split
   ·exact befL_irr _
   rename_i hc
   rw [betB_key hm ha hw] at hc
   simpa using hc
  exact h4 v hv
def mvR (Q:Tb) (c:Nat):Nat→Nat
 | 0=>0
 | l+1=>mvR Q c l+if get2 Q c l≠(c:Int)∧get2 Q c l≠-1 then 1 else 0
def mvU (n:Nat) (Q:Tb):Nat→Nat
 | 0=>0
 | c+1=>mvU n Q c+mvR Q c n
theorem PlOk.move {n:Nat} {cs:List Cp} {H:List Int} {Q:Tb} (h:PlOk n cs H Q) (hH:∀ c,0≤H.getD c 0) {c l:Nat} (hc:c < cs.length) (hl:l < n):(get2 Q c l≠(c:Int)∧get2 Q c l≠-1)↔(decide (H.getD c 0 > 0)&&H.getD c 0 != hasI cs c l)=true:=by
 rw [Bool.and_eq_true,decide_eq_true_eq,bne_iff_ne]
 have:=hH c
 by_cases h0:H.getD c 0=0
 ·constructor
  ·rintro ⟨h1,h2⟩
   exfalso
   by_cases hk:hasI cs c l > 0∧∀ c',c' < cs.length→H.getD c' 0≠0→get2 Q c' l≠(c:Int)
   ·exact h1 (h.keep c l hc hl h0 hk.1 hk.2)
   exact h2 (h.none c l hc hl h0 hk)
  rintro ⟨h1,_⟩; omega
 by_cases ho:hasI cs c l=H.getD c 0
 ·have:=h.own c l hc hl h0 ho
  exact ⟨fun ⟨h1,_⟩=>absurd this h1,fun ⟨_,h2⟩=>absurd ho.symm h2⟩
 obtain ⟨d,h1,h2,h3,h4⟩:=h.don c l hc hl h0 ho
 refine ⟨fun _=>⟨by omega,fun e=>ho e.symm⟩,fun _=>⟨fun e=>?_,by omega⟩⟩
 obtain rfl:d=c:=by omega
 exact ho h3
theorem PlOk.row {p:Int} {ls:List Lf} {cs:List Cp} (hV:Valid p ls cs) {H:List Int} {Q:Tb} (h:PlOk ls.length cs H Q) (hH:∀ c,0≤H.getD c 0) {c:Nat} (hc:c < cs.length):∀ l,l≤ls.length→mvR Q c l=lkN (H.getD c 0) ((cs.getD c cp0).2.take l)
 | 0,_=>rfl
 | l+1,hl=>by
  have hlen:=hV.len hc
  have ih:=h.row hV hH hc l (by omega)
  have hm:=h.move hH hc (l:=l) (by omega)
  simp only [mvR]
  rw [lkN_succ (by omega),ih]
  have hg:(cs.getD c cp0).2[l]'(by omega)=hasI cs c l:=by unfold hasI; rw [getD_at (by omega:l < (cs.getD c cp0).2.length)]
  rw [hg]
  by_cases e:(decide (H.getD c 0 > 0)&&H.getD c 0 != hasI cs c l)=true
  ·rw [if_pos e,if_pos (hm.2 e)]
  rw [if_neg e,if_neg fun q=>e (hm.1 q)]
theorem PlOk.moved {p:Int} {ls:List Lf} {cs:List Cp} (hV:Valid p ls cs) {H:List Int} {Q:Tb} (h:PlOk ls.length cs H Q) (hH:∀ c,0≤H.getD c 0):∀ c,c≤cs.length→lackU cs H c=mvU ls.length Q c
 | 0,_=>rfl
 | c+1,hc=>by
  simp only [lackU,mvU]
  rw [h.moved hV hH c (by omega),h.row hV hH (by omega) _ (Nat.le_refl _),←hV.len (show c < cs.length by omega),List.take_length]
def waysH (ls:List Lf) (cs:List Cp) (h:List Int):List Way:=(planA ls.length cs (pad4 h)).map (wayQ ls cs (lackN cs (pad4 h)))
def allW (ls:List Lf) (cs:List Cp):List Way:=(hostA ls cs).flatMap (waysH ls cs)
abbrev w0:Way:=(z46,25,0)
theorem foldl_flat' {α β γ:Type} (f:α→β→α) (g:γ→List β):∀ (l:List γ) (s:α),(l.flatMap g).foldl f s=l.foldl (fun s x=>(g x).foldl f s) s
 | [],_=>rfl
 | a :: l,s=>by rw [List.flatMap_cons,List.foldl_append,List.foldl_cons,foldl_flat' f g l]
section
variable {p:Int} {ls:List Lf} {cs:List Cp}
theorem ways_mem (hV:Valid p ls cs) {h:List Int} (hh:HostOk ls cs h) {v:Way}:v∈waysH ls cs h↔∃ Q,PlOk ls.length cs (pad4 h) Q∧v=wayQ ls cs (lackN cs (pad4 h)) Q:=by
 unfold waysH
 rw [List.mem_map]
 constructor
 ·rintro ⟨Q,hq,rfl⟩; exact ⟨Q,(planA_mem hV.m1 hV.m4 hV.n6 (fun c=>(hh.nn c).1)).1 hq,rfl⟩
 rintro ⟨Q,hq,rfl⟩; exact ⟨Q,(planA_mem hV.m1 hV.m4 hV.n6 (fun c=>(hh.nn c).1)).2 hq,rfl⟩
def WayIn (ls:List Lf) (cs:List Cp) (w:Way):Prop:=w=w0∨∃ h Q,HostOk ls cs h∧PlOk ls.length cs (pad4 h) Q∧w=wayQ ls cs (lackN cs (pad4 h)) Q
theorem WayIn.t {w:Way} (h:WayIn ls cs w):Tb46 w.1:=by
 rcases h with rfl | ⟨_,Q,_,hq,rfl⟩
 ·exact z46_ok
 exact hq.t
theorem lack_24 (hV:Valid p ls cs) (H:List Int):lackN cs H≤24:=by
 have:=lackU_le hV H cs.length (Nat.le_refl _)
 have:=hV.m4
 unfold lackN
 omega
theorem upd_step (hV:Valid p ls cs) {w:Way} (hw:WayIn ls cs w) {h:List Int} (hh:HostOk ls cs h) {v:Way} (hv:v∈waysH ls cs h):updW ls.length cs.length w v=stepB ls.length cs.length w v:=by
 obtain ⟨Q,hq,rfl⟩:=(ways_mem hV hh).1 hv
 have hl:=lack_24 hV (pad4 h)
 unfold updW stepB
 rcases hw with rfl | ⟨h',Q',hh',hq',rfl⟩
 ·have hb:betB ls.length cs.length (wayQ ls cs (lackN cs (pad4 h)) Q) w0=true:=by
   unfold betB
   have hlt:((lackN cs (pad4 h):Nat):Int) < 25:=by omega
   show (if (((lackN cs (pad4 h):Nat):Int) != 25)=true then decide (((lackN cs (pad4 h):Nat):Int) < 25) else _)=true
   rw [if_pos (by simp; omega),decide_eq_true hlt]
  rw [if_pos hb,if_pos]
  rw [Bool.or_eq_true]
  right
  exact decide_eq_true (show (25:Int) > ((lackN cs (pad4 h):Nat):Int) by omega)
 by_cases e:Q=Q'
 ·subst e
  have hm:=hq.moved hV (fun c=>(hh.nn c).1) cs.length (Nat.le_refl _)
  have hm':=hq'.moved hV (fun c=>(hh'.nn c).1) cs.length (Nat.le_refl _)
  have heq:wayQ ls cs (lackN cs (pad4 h)) Q=wayQ ls cs (lackN cs (pad4 h')) Q:=by
   unfold lackN; rw [hm,hm']
  rw [heq]
  split <;> split <;> rfl
 have hne:((wayQ ls cs (lackN cs (pad4 h)) Q).1 != (wayQ ls cs (lackN cs (pad4 h')) Q').1)=true:=by
  show (Q != Q')=true
  simpa using e
 rw [hne,Bool.true_and]
 by_cases hb:betB ls.length cs.length (wayQ ls cs (lackN cs (pad4 h)) Q) (wayQ ls cs (lackN cs (pad4 h')) Q')=true
 ·rw [hb,Bool.true_or,if_pos rfl]
 rw [if_neg hb,if_neg]
 rw [Bool.or_eq_true,not_or]
 refine ⟨hb,fun hd=>hb ?_⟩
 have hd:=of_decide_eq_true hd
 unfold betB
 rw [if_pos (by simp; omega),decide_eq_true hd]
theorem step_in (hV:Valid p ls cs) {w:Way} (hw:WayIn ls cs w) {h:List Int} (hh:HostOk ls cs h) {v:Way} (hv:v∈waysH ls cs h):WayIn ls cs (stepB ls.length cs.length w v):=by
 unfold stepB
 split
 ·obtain ⟨Q,hq,rfl⟩:=(ways_mem hV hh).1 hv
  exact .inr ⟨h,Q,hh,hq,rfl⟩
 exact hw
theorem fold_step (hV:Valid p ls cs) {h:List Int} (hh:HostOk ls cs h):∀ (l:List Way) (w:Way),WayIn ls cs w→(∀ v∈l,v∈waysH ls cs h)→l.foldl (updW ls.length cs.length) w=l.foldl (stepB ls.length cs.length) w∧WayIn ls cs (l.foldl (stepB ls.length cs.length) w)
 | [],w,hw,_=>⟨rfl,hw⟩
 | v :: l,w,hw,hl=>by
  have hv:=hl v List.mem_cons_self
  rw [List.foldl_cons,List.foldl_cons,upd_step hV hw hh hv]
  exact fold_step hV hh l _ (step_in hV hw hh hv) fun u hu=>hl u (List.mem_cons_of_mem _ hu)
theorem round_step (hV:Valid p ls cs) {w:Way} (hw:WayIn ls cs w) {h:List Int} (hh:HostOk ls cs h):roundW ls cs w h=(waysH ls cs h).foldl (stepB ls.length cs.length) w∧WayIn ls cs (roundW ls cs w h):=by
 have hf:=fold_step hV hh (waysH ls cs h) w hw fun v hv=>hv
 have he:(waysH ls cs h).foldl (updW ls.length cs.length) w=(planA ls.length cs (pad4 h)).foldl (fun w q=>updW ls.length cs.length w (wayQ ls cs (lackN cs (pad4 h)) q)) w:=by
  unfold waysH; rw [List.foldl_map]
 unfold roundW
 by_cases hc:((lackN cs (pad4 h):Nat):Int)≤w.2.1
 ·rw [if_pos hc,←he,hf.1]; exact ⟨rfl,hf.2⟩
 rw [if_neg hc]
 have hsame:∀ l:List Way,(∀ v∈l,v∈waysH ls cs h)→l.foldl (stepB ls.length cs.length) w=w:=by
  intro l
  induction l with
  | nil=>exact fun _=>rfl
  | cons v l ih =>
   intro hl
   rw [List.foldl_cons]
   have:stepB ls.length cs.length w v=w:=by
    obtain ⟨Q,hq,rfl⟩:=(ways_mem hV hh).1 (hl v List.mem_cons_self)
    unfold stepB betB
    have h2:(wayQ ls cs (lackN cs (pad4 h)) Q).2.1=((lackN cs (pad4 h):Nat):Int):=rfl
    rw [h2,if_pos (show (((lackN cs (pad4 h):Nat):Int) != w.2.1)=true by simp; omega),decide_eq_false (by omega:¬ ((lackN cs (pad4 h):Nat):Int) < w.2.1)]
    rfl
   rw [this]
   exact ih fun u hu=>hl u (List.mem_cons_of_mem _ hu)
 rw [hsame _ fun v hv=>hv]
 exact ⟨rfl,hw⟩
theorem best_all (hV:Valid p ls cs):bestW ls cs=(allW ls cs).foldl (stepB ls.length cs.length) w0:=by
 unfold bestW allW
 rw [foldl_flat']
 have key:∀ (l:List (List Int)) (w:Way),WayIn ls cs w→(∀ h∈l,HostOk ls cs h)→l.foldl (roundW ls cs) w=l.foldl (fun s x=>(waysH ls cs x).foldl (stepB ls.length cs.length) s) w:=by
  intro l
  induction l with
  | nil=>exact fun _ _ _=>rfl
  | cons h l ih =>
   intro w hw hl
   obtain ⟨h1,h2⟩:=round_step hV hw (hl h List.mem_cons_self)
   rw [List.foldl_cons,List.foldl_cons,←h1]
   exact ih _ h2 fun x hx=>hl x (List.mem_cons_of_mem _ hx)
 exact key _ _ (.inl rfl) fun h hh=>(hostA_mem hV.m4 hV.n1).1 hh
theorem host_ex (hV:Valid p ls cs):∃ h,HostOk ls cs h:=by
 have h2:=most_two (ls:=ls) hV.m4 hV.n1
 refine ⟨List.replicate (mostN ls cs 1).1 1++(List.replicate (mostN ls cs 2).1 2++List.replicate (cs.length - (mostN ls cs 1).1 - (mostN ls cs 2).1) 0),?_,fun x hx=>?_,?_,?_⟩
 ·simp; omega
 ·simp only [List.mem_append,List.mem_replicate] at hx
  omega
 ·unfold cntI; simp [List.filter_append]
 unfold cntI; simp [List.filter_append]
theorem best_spec (hV:Valid p ls cs):∃ h Q,HostOk ls cs h∧PlOk ls.length cs (pad4 h) Q∧bestW ls cs=wayQ ls cs (lackN cs (pad4 h)) Q ∧
  ∀ h' Q',HostOk ls cs h'→PlOk ls.length cs (pad4 h') Q'→befL (keyV ls.length cs.length (wayQ ls cs (lackN cs (pad4 h')) Q')) (keyV ls.length cs.length (bestW ls cs))=false:=by
 have hall:∀ v,v∈allW ls cs↔∃ h Q,HostOk ls cs h∧PlOk ls.length cs (pad4 h) Q∧v=wayQ ls cs (lackN cs (pad4 h)) Q:=fun v=>by
  unfold allW
  rw [List.mem_flatMap]
  constructor
  ·rintro ⟨h,h1,h2⟩
   have hh:=(hostA_mem hV.m4 hV.n1).1 h1
   obtain ⟨Q,hq,he⟩:=(ways_mem hV hh).1 h2
   exact ⟨h,Q,hh,hq,he⟩
  rintro ⟨h,Q,hh,hq,he⟩
  exact ⟨h,(hostA_mem hV.m4 hV.n1).2 hh,(ways_mem hV hh).2 ⟨Q,hq,he⟩⟩
 obtain ⟨h1,_,h3,h4⟩:=foldB (n:=ls.length) hV.m4 (allW ls cs) w0 (fun v hv=>by
  obtain ⟨_,Q,_,hq,rfl⟩:=(hall v).1 hv; exact hq.t) z46_ok
 rw [←best_all hV] at h1 h3 h4
 obtain ⟨h0,hh0⟩:=host_ex hV
 obtain ⟨Q0,hq0⟩:=plan_ex hV.m4 hV.n6 hh0
 have hle:=h4 _ ((hall _).2 ⟨h0,Q0,hh0,hq0,rfl⟩)
 rcases h1 with h1 | h1
 ·exfalso
  rw [h1] at hle
  unfold keyV at hle
  rw [befL_cons] at hle
  have hl:=lack_24 hV (pad4 h0)
  have:((lackN cs (pad4 h0):Nat):Int) < 25:=by omega
  rw [show decide ((wayQ ls cs (lackN cs (pad4 h0)) Q0).2.1 < w0.2.1)=true from decide_eq_true this] at hle
  cases hle
 obtain ⟨h,Q,hh,hq,he⟩:=(hall _).1 h1
 exact ⟨h,Q,hh,hq,he,fun h' Q' hh' hq'=>h4 _ ((hall _).2 ⟨h',Q',hh',hq',rfl⟩)⟩
end
def give (cs:List Cp) (a b:Nat) (k:Int):List Cp:=cs.set a ((cs.getD a cp0).1,(cs.getD a cp0).2.set b k)
theorem give_len (cs:List Cp) (a b:Nat) (k:Int):(give cs a b k).length=cs.length:=by simp [give]
theorem give_at {cs:List Cp} {a b:Nat} {k:Int} (ha:a < cs.length):(give cs a b k).getD a cp0=(cs[a].1,cs[a].2.set b k):=by
 unfold give; rw [getD_set_self ha,getD_at ha]
theorem give_ne {cs:List Cp} {a b c:Nat} {k:Int} (h:a≠c):(give cs a b k).getD c cp0=cs.getD c cp0:=by
 unfold give; rw [getD_set_ne h]
theorem give_names (cs:List Cp) (a b:Nat) (k:Int):(give cs a b k).map (fun x=>x.1)=cs.map fun x=>x.1:=by
 apply List.ext_getElem (by simp [give])
 intro i h1 h2
 simp only [give,List.getElem_map,List.getElem_set]
 by_cases e:a=i
 ·subst e
  have ha:a < cs.length:=by simpa using h2
  rw [if_pos rfl,getD_at ha]
 rw [if_neg e]
theorem cpF_zero {n:Nat} {cs:List Cp} {i:Nat} (hi:i < cs.length) (h1:nameB cs[i].1=true) (h2:((cs.take i).any fun y=>strEq y.1 cs[i].1)=false) (h3:cs[i].2.length=n) (h4:∀ x∈cs[i].2,0≤x∧x≤2):cpF n cs i=0:=by
 unfold cpF cpE
 rw [getD_at hi,h1,h2,if_neg (by simp),if_neg (by simp),if_neg (by simpa using h3),if_neg]
 intro h
 obtain ⟨x,hx,hb⟩:=List.any_eq_true.1 h
 have:=h4 x hx
 unfold outB at hb
 rw [Bool.or_eq_true,decide_eq_true_eq,decide_eq_true_eq] at hb
 omega
theorem any_names (l:List Cp) (w:ByteArray):(l.any fun y=>strEq y.1 w)=(l.map fun x=>x.1).any fun y=>strEq y w:=by rw [List.any_map]; rfl
theorem Valid.give {p:Int} {ls:List Lf} {cs:List Cp} (h:Valid p ls cs) {a b:Nat} {k:Int} (ha:a < cs.length) (hk:0≤k∧k≤2):Valid p ls (give cs a b k):=by
 have hl:=give_len cs a b k
 refine ⟨h.price,h.n1,h.n6,h.leaf,by rw [hl]; exact h.m1,by rw [hl]; exact h.m4,fun i hi=>?_⟩
 have hi':i < cs.length:=by rw [←hl]; exact hi
 obtain ⟨h1,h2,h3,h4⟩:=h.cp hi'
 have hn:(Go.Ab.MkF.give cs a b k)[i].1=cs[i].1:=by
  have e:=List.getElem_of_eq (give_names cs a b k) (i:=i) (by simpa using hi)
  simpa using e
 have hp:(((Go.Ab.MkF.give cs a b k).take i).any fun y=>strEq y.1 (Go.Ab.MkF.give cs a b k)[i].1)=false:=by
  rw [any_names,List.map_take,give_names,hn,←List.map_take,←any_names]; exact h4
 have hg:(Go.Ab.MkF.give cs a b k)[i]=(Go.Ab.MkF.give cs a b k).getD i cp0:=(getD_at hi).symm
 refine cpF_zero hi (by rw [hn]; exact h1) hp ?_ fun x hx=>?_
 ·by_cases e:a=i
  ·subst e; rw [hg,give_at ha]; simpa using h2
  rw [hg,give_ne e,getD_at hi']; exact h2
 by_cases e:a=i
 ·subst e
  rw [hg,give_at ha] at hx
  rcases List.mem_or_eq_of_mem_set hx with hx | rfl
  ·exact h3 x hx
  exact hk
 rw [hg,give_ne e,getD_at hi'] at hx; exact h3 x hx
theorem Valid.names {p:Int} {ls:List Lf} {cs:List Cp} (hV:Valid p ls cs):cs.Pairwise fun x y=>strEq x.1 y.1=false:=by
 rw [List.pairwise_iff_getElem]
 intro i j hi hj hij
 have:=(hV.cp hj).2.2.2
 rw [List.any_eq_false] at this
 have:=this cs[i] (by
  rw [List.mem_iff_getElem]
  exact ⟨i,by rw [List.length_take]; omega,by rw [List.getElem_take]⟩)
 simpa using this
theorem valid_copies {p:Int} {ls:List Lf} {cs cs':List Cp} (hV:Valid p ls cs) (h1:1≤cs'.length) (h4:cs'.length≤4) (hn:∀ x∈cs',nameB x.1=true) (hd:cs'.Pairwise fun x y=>strEq x.1 y.1=false)
  (hl:∀ x∈cs',x.2.length=ls.length) (hr:∀ x∈cs',∀ k∈x.2,0≤k∧k≤2):Valid p ls cs':=by
 refine ⟨hV.price,hV.n1,hV.n6,hV.leaf,h1,h4,fun i hi=>?_⟩
 have hm:=List.getElem_mem hi
 refine cpF_zero hi (hn _ hm) ?_ (hl _ hm) (hr _ hm)
 rw [List.any_eq_false]
 intro x hx
 obtain ⟨j,hj,rfl⟩:=List.getElem_of_mem hx
 rw [List.length_take] at hj
 rw [List.getElem_take]
 have:=List.pairwise_iff_getElem.1 hd j i (by omega) hi (by omega)
 rw [this]; simp
theorem key_rows {n m:Nat} (hm:m≤4) {v w:Way} (hv:Tb46 v.1) (hw:Tb46 w.1) (h:keyV n m v=keyV n m w):v.2.1=w.2.1∧v.2.2=w.2.2∧rowsW v n m=rowsW w n m:=by
 unfold keyV at h
 have h1:=(List.cons.inj h).1
 have h2:=(List.cons.inj (List.cons.inj h).2).1
 have h3:=(List.cons.inj (List.cons.inj h).2).2
 refine ⟨h1,h2,?_⟩
 unfold rowsW
 apply List.map_congr_left
 intro c hc
 have hc:=List.mem_range.1 hc
 exact (rwC_zero (by rw [row_len hv n (by omega),row_len hw n (by omega)])).1 ((flL_eq hv hw n m hm).1 h3 c hc)
def exK (k:Int):Int:=if k > 0 then 3 - k else k
def exgC (cs:List Cp):List Cp:=cs.map fun x=>(x.1,x.2.map exK)
theorem has_in {p:Int} {ls:List Lf} {cs:List Cp} (hV:Valid p ls cs) (c l:Nat):0≤hasI cs c l∧hasI cs c l≤2:=by
 unfold hasI
 rcases Nat.lt_or_ge c cs.length with hc | hc
 ·rcases Nat.lt_or_ge l (cs.getD c cp0).2.length with hl | hl
  ·have h1:=(hV.cp hc).2.2.1
   rw [←getD_at (d:=cp0) hc] at h1
   rw [getD_at hl]
   exact h1 _ (List.getElem_mem hl)
  rw [List.getD_eq_getElem?_getD (l:=(cs.getD c cp0).2),List.getElem?_eq_none hl]; decide
 rw [List.getD_eq_getElem?_getD (l:=cs),List.getElem?_eq_none hc]
 show 0≤([]:List Int).getD l 0∧_
 simp
def sm (f:Nat→Nat):Nat→Nat
 | 0=>0
 | i+1=>sm f i+f i
theorem sm_eq {f g:Nat→Nat}:∀ {m:Nat},(∀ c,c < m→f c=g c)→sm f m=sm g m
 | 0,_=>rfl
 | m+1,h=>by show sm f m+f m=sm g m+g m; rw [sm_eq fun c hc=>h c (by omega),h m (by omega)]
theorem mvU_sm (n:Nat) (Q:Tb):∀ m,mvU n Q m=sm (fun c=>mvR Q c n) m
 | 0=>rfl
 | m+1=>by show mvU n Q m+mvR Q m n=_; rw [mvU_sm n Q m]; rfl
theorem mvR_sm (Q:Tb) (c:Nat):∀ n,mvR Q c n=sm (fun l=>if get2 Q c l≠(c:Int)∧get2 Q c l≠-1 then 1 else 0) n
 | 0=>rfl
 | n+1=>by show mvR Q c n+_=_; rw [mvR_sm Q c n]; rfl
theorem cutU_sm (ls:List Lf) (cs:List Cp) (A:Tb):∀ m,cutU ls cs A m=sm (fun c=>cutR ls cs A c ls.length) m
 | 0=>rfl
 | m+1=>by show cutU ls cs A m+_=_; rw [cutU_sm ls cs A m]; rfl
theorem cutR_sm (ls:List Lf) (cs:List Cp) (A:Tb) (c:Nat):∀ n,cutR ls cs A c n=sm (fun l=>if cutB ls cs A c l=true then 1 else 0) n
 | 0=>rfl
 | n+1=>by show cutR ls cs A c n+_=_; rw [cutR_sm ls cs A c n]; rfl
theorem hvN_sm (cs:List Cp) (l:Nat) (k:Int):∀ m,hvN cs l k m=sm (fun c=>if (hasI cs c l==k)=true then 1 else 0) m
 | 0=>rfl
 | m+1=>by rw [hvN_succ,hvN_sm cs l k m]; rfl
theorem PlOk.range {n:Nat} {cs:List Cp} {H:List Int} {Q:Tb} (h:PlOk n cs H Q) {c x:Nat} (hc:c < cs.length) (hx:x < n):-1≤get2 Q c x∧get2 Q c x < cs.length:=by
 by_cases h0:H.getD c 0=0
 ·by_cases hk:hasI cs c x > 0∧∀ c',c' < cs.length→H.getD c' 0≠0→get2 Q c' x≠(c:Int)
  ·rw [h.keep c x hc hx h0 hk.1 hk.2]; omega
  rw [h.none c x hc hx h0 hk]; omega
 by_cases ho:hasI cs c x=H.getD c 0
 ·rw [h.own c x hc hx h0 ho]; omega
 obtain ⟨d,h1,h2,_,_⟩:=h.don c x hc hx h0 ho
 rw [h2]; omega
theorem PlOk.free {n:Nat} {cs:List Cp} {H:List Int} {Q:Tb} (h:PlOk n cs H Q) {c x:Nat} (hc:c < cs.length) (hx:x < n) (h0:H.getD c 0=0):get2 Q c x=-1∨(get2 Q c x=c∧∀ c',c' < cs.length→H.getD c' 0≠0→get2 Q c' x≠(c:Int)):=by
 by_cases hk:hasI cs c x > 0∧∀ c',c' < cs.length→H.getD c' 0≠0→get2 Q c' x≠(c:Int)
 ·exact .inr ⟨h.keep c x hc hx h0 hk.1 hk.2,hk.2⟩
 exact .inl (h.none c x hc hx h0 hk)
theorem PlOk.once {n:Nat} {cs:List Cp} {H:List Int} {Q:Tb} (h:PlOk n cs H Q) {c c' x:Nat} (hc:c < cs.length) (hc':c' < cs.length) (hx:x < n) (hn:get2 Q c x≠-1) (he:get2 Q c x=get2 Q c' x):c=c':=by
 by_cases e:c=c'
 ·exact e
 exfalso
 by_cases h0:H.getD c 0=0
 ·rcases h.free hc hx h0 with h1 | ⟨h1,h2⟩
  ·exact hn h1
  by_cases h0':H.getD c' 0=0
  ·rcases h.free hc' hx h0' with h3 | ⟨h3,_⟩ <;> omega
  exact h2 c' hc' h0' (by omega)
 by_cases h0':H.getD c' 0=0
 ·rcases h.free hc' hx h0' with h3 | ⟨h3,h4⟩
  ·omega
  exact h4 c hc h0 (by omega)
 exact h.inj c c' x hc hc' hx h0 h0' e he
theorem outR_get {A:Tb} (hA:Tb46 A) {c:Nat} (hc:c < 4) {c' x:Nat}:∀ l,l≤6→get2 (outR A c l) c' x=if c=c'∧x < l then -1 else get2 A c' x
 | 0,_=>by rw [if_neg (by omega)]; rfl
 | l+1,hl=>by
  show get2 (set2 (outR A c l) c l (-1)) c' x=_
  rw [get2_set2 (outR_ok hA c l) hc (by omega),outR_get hA hc l (by omega)]
  split <;> split <;> (try split) <;> first | rfl | omega
theorem outU_get {n:Nat} (hn:n≤6) {c' x:Nat} (hx:x < n):∀ m,m≤4→c' < m→get2 (outU n m) c' x=-1
 | 0,_,h=>by omega
 | m+1,hm,h=>by
  show get2 (outR (outU n m) m n) c' x=-1
  rw [outR_get (outU_ok n m) (by omega) n hn]
  by_cases e:m=c'
  ·rw [if_pos ⟨e,hx⟩]
  rw [if_neg fun q=>e q.1]; exact outU_get hn hx m (by omega) (by omega)
def AtP (Q A:Tb) (m n:Nat) (Z:Nat→Nat→Prop):Prop:=Tb46 A∧∀ k x,k < m→x < n→(∀ c,c < m→Z c x→get2 Q c x=(k:Int)→get2 A k x=(c:Int))∧((∀ c,c < m→Z c x→get2 Q c x≠(k:Int))→get2 A k x=-1)
theorem AtP.mono {Q A:Tb} {m n:Nat} {Z W:Nat→Nat→Prop} (h:AtP Q A m n Z) (e:∀ c x,c < m→x < n→(Z c x↔W c x)):AtP Q A m n W :=
 ⟨h.1,fun k x hk hx=>⟨fun c hc hw=>(h.2 k x hk hx).1 c hc ((e c x hc hx).2 hw),fun hw=>(h.2 k x hk hx).2 fun c hc hz=>hw c hc ((e c x hc hx).1 hz)⟩⟩
section
variable {p:Int} {ls:List Lf} {cs:List Cp} {H:List Int} {Q:Tb}
theorem atR_get (hV:Valid p ls cs) (h:PlOk ls.length cs H Q) {A:Tb} {c:Nat} (hc:c < cs.length) (h0:AtP Q A cs.length ls.length fun c' _=>c' < c) :
  ∀ l,l≤ls.length→AtP Q (atR Q A c l) cs.length ls.length fun c' x=>c' < c∨(c'=c∧x < l)
 | 0,_=>h0.mono fun _ _ _ _=>by omega
 | l+1,hl=>by
  have ih:=atR_get hV h hc h0 l (by omega)
  have hr:=h.range hc (x:=l) (by omega)
  have h4:=hV.m4
  have h6:=hV.n6
  simp only [atR]
  by_cases e:get2 Q c l≠-1
  ·rw [if_pos e]
   refine ⟨ih.1.set2 _ _ _,fun k x hk hx=>?_⟩
   rw [get2_set2 ih.1 (by omega) (by omega)]
   obtain ⟨i1,i2⟩:=ih.2 k x hk hx
   by_cases e2:(get2 Q c l).toNat=k∧l=x
   ·rw [if_pos e2]
    obtain ⟨e3,rfl⟩:=e2
    refine ⟨fun d hd _ hq=>?_,fun hq=>absurd (by omega:get2 Q c l=(k:Int)) (hq c hc (.inr ⟨rfl,by omega⟩))⟩
    have:=h.once hc hd (by omega) e (by omega)
    rw [this]
   rw [if_neg e2]
   refine ⟨fun d hd hz hq=>?_,fun hq=>i2 fun d hd hz=>hq d hd (by omega)⟩
   rcases hz with hz | ⟨rfl,hz⟩
   ·exact i1 d hd (.inl hz) hq
   by_cases e4:x=l
   ·subst e4; exact absurd ⟨by omega,rfl⟩ e2
   exact i1 _ hd (.inr ⟨rfl,by omega⟩) hq
  rw [if_neg e]
  refine ⟨ih.1,fun k x hk hx=>?_⟩
  obtain ⟨i1,i2⟩:=ih.2 k x hk hx
  refine ⟨fun d hd hz hq=>?_,fun hq=>i2 fun d hd hz=>hq d hd (by omega)⟩
  rcases hz with hz | ⟨rfl,hz⟩
  ·exact i1 d hd (.inl hz) hq
  by_cases e4:x=l
  ·subst e4; exfalso; omega
  exact i1 _ hd (.inr ⟨rfl,by omega⟩) hq
theorem atU_get (hV:Valid p ls cs) (h:PlOk ls.length cs H Q):∀ c,c≤cs.length→AtP Q (atU Q ls.length cs.length c) cs.length ls.length fun c' _=>c' < c
 | 0,_=>⟨outU_ok _ _,fun k x hk hx=>⟨fun c _ hc=>absurd hc (Nat.not_lt_zero c),fun _=>outU_get hV.n6 hx _ hV.m4 hk⟩⟩
 | c+1,hc=>(atR_get hV h (by omega) (atU_get hV h c (by omega)) ls.length (Nat.le_refl _)).mono fun _ _ _ _=>by omega
theorem atA_get (hV:Valid p ls cs) (h:PlOk ls.length cs H Q) {k x:Nat} (hk:k < cs.length) (hx:x < ls.length):(∀ c,c < cs.length→get2 Q c x=(k:Int)→get2 (atA ls cs Q) k x=(c:Int))∧((∀ c,c < cs.length→get2 Q c x≠(k:Int))→get2 (atA ls cs Q) k x=-1):=by
 have:=(atU_get hV h cs.length (Nat.le_refl _)).2 k x hk hx
 exact ⟨fun c hc=>this.1 c hc hc,fun hq=>this.2 fun c hc _=>hq c hc⟩
end
def rvI (m:Nat) (d:Int):Int:=if d=-1 then -1 else (m:Int) - 1 - d
def rvT (m n:Nat) (Q:Tb):Tb:=tbOf fun c x=>if c < m∧x < n then rvI m (get2 Q (m - 1 - c) x) else 0
section
variable {p:Int} {ls:List Lf} {cs:List Cp} {h:List Int} {Q:Tb}
end
def EntR (cs:List Cp) (A:Tb) (c l:Nat):Prop:=get2 A c l=-1∨(0≤get2 A c l∧get2 A c l < cs.length∧hasI cs (get2 A c l).toNat l≠0∧∀ d,d < c→get2 A d l≠get2 A c l)
def RowR (ls:List Lf) (cs:List Cp) (A:Tb) (c:Nat):Prop:=(A.getD c []).length=ls.length∧∀ l,l < ls.length→EntR cs A c l
def RightR (ls:List Lf) (cs:List Cp) (A:Tb):Prop:=A.length=cs.length∧∀ c,c < cs.length→RowR ls cs A c
open Classical in
noncomputable def rightB (ls:List Lf) (cs:List Cp) (A:Tb):Bool:=decide (RightR ls cs A)
theorem get2_at {A:Tb} {c l:Nat} (hc:c < A.length) (hl:l < (A[c]).length):get2 A c l=A[c][l]:=by unfold get2; rw [getD_at hc,getD_at hl]
theorem up_all {P:Nat→Prop} {n:Nat} (h:∀ i,i < n→P i) (hn:P n):∀ i,i < n+1→P i:=fun i hi=>by
 rcases Nat.lt_succ_iff_lt_or_eq.1 hi with h1 | h1
 ·exact h i h1
 rw [h1]; exact hn
theorem getI_at2 {α:Type} {xs:List α} {j:Int} {n:Nat} (e:j=(n:Int)) (h:n < xs.length):getI xs j=some xs[n]:=by rw [e]; exact getI_nat h
def aftK (cs:List Cp) (A:Tb) (c l:Nat):Int:=if get2 A c l=-1 then 0 else hasI cs (get2 A c l).toNat l
def aftC (ls:List Lf) (cs:List Cp) (A:Tb) (c:Nat):Cp:=((cs.getD c cp0).1,(List.range ls.length).map (aftK cs A c))
def aftL (ls:List Lf) (cs:List Cp) (A:Tb):List Cp:=(List.range cs.length).map (aftC ls cs A)
theorem rm9 {α:Type} (f:Nat→α) (i:Nat):(List.range (i+1)).map f=(List.range i).map f++[f i]:=by rw [List.range_succ,List.map_append]; rfl
theorem c48 (gl:Gl) (p:Int) (ls:List Lf) (cs:List Cp) (hV:Valid p ls cs) (A:List (List Int)) (hR:RightR ls cs A):PCalls PR gl 48 [.agg [vI p,lfsV ls,cpsV cs],intsV A] fun r=>r=.agg [vI p,lfsV ls,cpsV (aftL ls cs A)]:=by
 have hm4:=hV.m4
 have hn6:=hV.n6
 refine fnW_sound (parH_ok gl) Tryd.func48 ?_;conv=>whnf
 refine ⟨?_⟩;conv=>whnf
 refine ⟨?_⟩;conv=>whnf
 refine ⟨?_⟩;conv=>whnf
 refine ⟨⟨118,[],[5,2004,3004]⟩,?_⟩
 refine LoopW_ind _ (fun i:Nat=>(({ tmps:=[J,intsV A,.own 2 [],J,.own 4 [],.sl (S:=S) U.copy ((List.range i).map (aftC ls cs A)) (some 5),vI i,J,J,J,J,J,J,J,J,J,J,J,J,J,J,J,J,J,J,J,J,J,J,J,J,J,J,J,J,J,J,J,J,J,J,J,J,J,J,J,J,J,J,J,J,J,J,J,J,J,J,J,J,J,J,J,J,J,J,J,J],seg:=[(2,.cells [vI p,lfsV ls,cpsV cs]),(4,.cells [vI 0,.sl (S:=S) U.leaf [] (some 2004),.sl (S:=S) U.copy [] (some 3004)]),(5,.row U.copy false),(2004,.row U.leaf false),(3004,.row U.copy false)],up:=[] }:St S))) (fun i:Nat=>(i≤cs.length)) (fun i:Nat=>(cs.length - i)) () ?_ 0 (Nat.zero_le _)
 intro i hi Z1 hZ1
 conv=>whnf
 refine ⟨?_⟩;conv=>whnf
 apply bc9<;>intro h3
 ·have hlt:i < cs.length:=by have:=of_decide_eq_true h3; omega
  have hw:=wrap_nat (n:=i) (by omega)
  have hiA:i < A.length:=by rw [hR.1]; exact hlt
  have hrow:=hR.2 i hlt
  have hrl:A[i].length=ls.length:=by have:=hrow.1; rw [getD_at hiA] at this; exact this
  have hal:((List.range i).map (aftC ls cs A)).length=i:=by simp
  conv=>whnf
  refine ⟨?_⟩;conv=>whnf
  refine ⟨_,getI_nat hlt,?_⟩;conv=>whnf
  refine ⟨?_⟩;conv=>whnf
  refine ⟨⟨502,[2007],[2007,902007]⟩,?_⟩
  refine LoopW_ind _ (fun l:Nat=>(({ tmps:=[J,intsV A,.own 2 [],J,.own 4 [],.sl (S:=S) U.copy ((List.range i).map (aftC ls cs A)) (some 5),vI i,.own 7 [],vI l,J,J,J,J,J,J,J,J,J,J,J,J,J,J,J,J,J,J,J,J,J,J,J,J,J,J,J,J,J,J,J,J,J,J,J,J,J,J,J,J,J,J,J,J,J,J,J,J,J,J,J,J,J,J,J,J,J,J],seg:=[(2,.cells [vI p,lfsV ls,cpsV cs]),(4,.cells [vI 0,.sl (S:=S) U.leaf [] (some 2004),.sl (S:=S) U.copy [] (some 3004)]),(5,.row U.copy false),(7,.cells [.str cs[i].1,.sl (S:=S) U.int ((List.range l).map (aftK cs A i)) (some 902007)]),(2004,.row U.leaf false),(3004,.row U.copy false),(902007,.row U.int false)],up:=[] }:St S))) (fun l:Nat=>(l≤ls.length)) (fun l:Nat=>(ls.length - l)) () ?_ 0 (Nat.zero_le _)
  intro l hl Z2 hZ2
  conv=>whnf
  refine ⟨?_⟩;conv=>whnf
  apply bc9<;>intro h7
  ·have hll:l < ls.length:=by have:=of_decide_eq_true h7; omega
   have hwl:=wrap_nat (n:=l) (by omega)
   have hlr:l < A[i].length:=by omega
   have hg:=get2_at hiA hlr
   have hl3:((List.range l).map (aftK cs A i)).length=l:=by simp
   conv=>whnf
   refine ⟨?_⟩;conv=>whnf
   refine ⟨?_⟩;conv=>whnf
   refine ⟨_,getI_nat hiA,?_⟩;conv=>whnf
   refine ⟨_,getI_nat hlr,?_⟩;conv=>whnf
   apply bc9<;>intro h10
   ·have h10:get2 A i l≠-1:=by rw [hg]; have h:(A[i][l] != -1)=true:=h10; simpa using h
    obtain ⟨d,hd,hdl⟩:∃ d:Nat,get2 A i l=(d:Int)∧d < cs.length:=by
     rcases hrow.2 l hll with e | ⟨e1,e2,_,_⟩
     ·exact absurd e h10
     exact ⟨(get2 A i l).toNat,by omega,by omega⟩
    have hcd:=(hV.cp hdl).2.1
    have hld:l < cs[d].2.length:=by omega
    have hxd:A[i][l]=(d:Int):=by rw [←hg,hd]
    have hk:cs[d].2[l]=aftK cs A i l:=by unfold aftK; rw [if_neg h10,hd,Int.toNat_natCast]; unfold hasI; rw [getD_at hdl,getD_at hld]
    conv=>whnf
    refine ⟨[0,1,2,3,4,5,6,7,8,9,10,11,12,13,14,15],[],[],[],⟨147573952589676412927,[],[]⟩,by decide +kernel,?_⟩;conv=>whnf
    refine ⟨_,getI_nat hiA,?_⟩;conv=>whnf
    refine ⟨_,getI_nat hlr,?_⟩;conv=>whnf
    refine ⟨_,getI_at2 hxd hdl,?_⟩;conv=>whnf
    refine ⟨_,getI_nat hld,?_⟩;conv=>whnf
    refine ⟨?_⟩;conv=>whnf
    refine ⟨_,rfl,?_⟩;conv=>whnf
    refine ⟨lim (by show ((List.range l).map (aftK cs A i)).length+1≤_; omega),?_⟩;conv=>whnf
    refine ⟨?_⟩;conv=>whnf
    refine ⟨⟨502,[57,58],[]⟩,?_⟩;conv=>whnf
    rw [hwl]
    have hz:=hZ2 (l+1) hll (by omega)
    rw [rm9,←hk] at hz
    exact hz
   have h10:get2 A i l=-1:=by rw [hg]; have h:(A[i][l] != -1)=false:=h10; simpa using h
   have hk:(0:Int)=aftK cs A i l:=by unfold aftK; rw [if_pos h10]
   conv=>whnf
   refine ⟨?_⟩;conv=>whnf
   refine ⟨_,rfl,?_⟩;conv=>whnf
   refine ⟨lim (by show ((List.range l).map (aftK cs A i)).length+1≤_; omega),?_⟩;conv=>whnf
   refine ⟨?_⟩;conv=>whnf
   refine ⟨⟨502,[57,58],[]⟩,?_⟩;conv=>whnf
   rw [hwl]
   have hz:=hZ2 (l+1) hll (by omega)
   rw [rm9,←hk] at hz
   exact hz
  have hgl:l=ls.length:=by have:=of_decide_eq_false h7; omega
  rw [hgl]
  conv=>whnf
  refine ⟨?_⟩;conv=>whnf
  refine ⟨_,rfl,?_⟩;conv=>whnf
  refine ⟨lim (by show ((List.range i).map (aftC ls cs A)).length+1≤_; omega),?_⟩;conv=>whnf
  refine ⟨?_⟩;conv=>whnf
  refine ⟨⟨118,[7,57,58,62,63,1007,2007,3007,4007,902007],[]⟩,?_⟩;conv=>whnf
  rw [hw]
  have hz:=hZ1 (i+1) hlt (by omega)
  rw [rm9,show aftC ls cs A i=(cs[i].1,(List.range ls.length).map (aftK cs A i)) from by unfold aftC; rw [getD_at hlt]] at hz
  exact hz
 have hge:i=cs.length:=by have:=of_decide_eq_false h3; omega
 conv=>whnf
 refine ⟨?_⟩;conv=>whnf
 refine ⟨?_⟩;conv=>whnf
 rw [hge]
 rfl
theorem op48:Opens PR 48:=⟨_,Tryd.func48,rfl,rfl⟩
section
variable {p:Int} {ls:List Lf} {cs:List Cp} {h:List Int} {Q A:Tb}
structure SamT (ls:List Lf) (cs:List Cp) (A Q:Tb):Prop where
 len:A.length=cs.length
 row:∀ c,c < cs.length→(A.getD c []).length=ls.length
 same:∀ c x,c < cs.length→x < ls.length→get2 A c x=get2 Q c x
theorem rows_same (hV:Valid p ls cs) (ht:Tb46 Q) (a b:Int):SamT ls cs (rowsW (Q,a,b) ls.length cs.length) Q:=by
 have h4:=hV.m4
 have h6:=hV.n6
 have hr:∀ c,c < cs.length→(rowsW (Q,a,b) ls.length cs.length).getD c []=(Q.getD c []).take ls.length:=fun c hc=>by
  unfold rowsW
  rw [getD_at (by rw [List.length_map,List.length_range]; exact hc),List.getElem_map,List.getElem_range]
 refine ⟨by unfold rowsW; rw [List.length_map,List.length_range],fun c hc=>by rw [hr c hc,row_len ht _ (by omega)]; omega,fun c x hc hx=>?_⟩
 unfold get2
 rw [hr c hc]
 have hl:=ht.row c (by omega)
 rw [List.getD_eq_getElem?_getD,List.getD_eq_getElem?_getD (l:=Q.getD c []),List.getElem?_take,if_pos hx]
theorem PlOk.hasT (_hV:Valid p ls cs) (hh:HostOk ls cs h) (hq:PlOk ls.length cs (pad4 h) Q) {c x:Nat} (hc:c < cs.length) (hx:x < ls.length):get2 Q c x=-1∧(pad4 h).getD c 0=0∨∃ d:Nat,get2 Q c x=d∧d < cs.length∧hasI cs d x > 0∧((pad4 h).getD c 0≠0→hasI cs d x=(pad4 h).getD c 0):=by
 have hn:=hh.nn c
 by_cases h0:(pad4 h).getD c 0=0
 ·by_cases hk:hasI cs c x > 0∧∀ c',c' < cs.length→(pad4 h).getD c' 0≠0→get2 Q c' x≠(c:Int)
  ·exact .inr ⟨c,hq.keep c x hc hx h0 hk.1 hk.2,hc,hk.1,fun e=>absurd h0 e⟩
  exact .inl ⟨hq.none c x hc hx h0 hk,h0⟩
 by_cases ho:hasI cs c x=(pad4 h).getD c 0
 ·exact .inr ⟨c,hq.own c x hc hx h0 ho,hc,by omega,fun _=>ho⟩
 obtain ⟨d,h1,h2,h3,_⟩:=hq.don c x hc hx h0 ho
 exact .inr ⟨d,h2,h1,by omega,fun _=>h3⟩
theorem best_right (hV:Valid p ls cs) (hh:HostOk ls cs h) (hq:PlOk ls.length cs (pad4 h) Q) (hs:SamT ls cs A Q):RightR ls cs A:=by
 refine ⟨hs.len,fun c hc=>⟨hs.row c hc,fun l hl=>?_⟩⟩
 unfold EntR
 rw [hs.same c l hc hl]
 rcases hq.hasT hV hh hc hl with ⟨e,_⟩ | ⟨d,e,hd,hp,_⟩
 ·exact .inl e
 refine .inr ⟨by omega,by omega,by rw [e,Int.toNat_natCast]; omega,fun d' hd' he=>?_⟩
 rw [hs.same d' l (by omega) hl] at he
 have:=hq.once hc (c':=d') (by omega) hl (by omega) he.symm
 omega
theorem aft_len:(aftL ls cs A).length=cs.length:=by unfold aftL; rw [List.length_map,List.length_range]
theorem aft_at {c:Nat} (hc:c < cs.length):(aftL ls cs A)[c]'(by rw [aft_len]; exact hc)=aftC ls cs A c:=by unfold aftL; rw [List.getElem_map,List.getElem_range]
theorem aft_has {c l:Nat} (hc:c < cs.length) (hl:l < ls.length):hasI (aftL ls cs A) c l=aftK cs A c l:=by
 unfold hasI
 rw [getD_at (xs:=aftL ls cs A) (i:=c) (by rw [aft_len]; exact hc),aft_at hc]
 show ((List.range ls.length).map (aftK cs A c)).getD l 0=_
 rw [getD_at (by rw [List.length_map,List.length_range]; exact hl),List.getElem_map,List.getElem_range]
theorem aftK_in (hV:Valid p ls cs) (c l:Nat):0≤aftK cs A c l∧aftK cs A c l≤2:=by
 unfold aftK
 split
 ·decide
 exact has_in hV _ _
theorem aft_valid (hV:Valid p ls cs):Valid p ls (aftL ls cs A):=by
 have hx:∀ x∈aftL ls cs A,∃ c,c < cs.length∧x=aftC ls cs A c:=fun x hx=>by
  obtain ⟨c,hc,rfl⟩:=List.mem_map.1 hx; exact ⟨c,List.mem_range.1 hc,rfl⟩
 refine valid_copies hV (by rw [aft_len]; exact hV.m1) (by rw [aft_len]; exact hV.m4) (fun x h=>?_) ?_ (fun x h=>?_) (fun x h k hk=>?_)
 ·obtain ⟨c,hc,rfl⟩:=hx x h
  show nameB (cs.getD c cp0).1=true
  rw [getD_at hc]; exact (hV.cp hc).1
 ·rw [List.pairwise_iff_getElem]
  intro i j hi hj hij
  rw [aft_len] at hi hj
  rw [aft_at hi,aft_at hj]
  show strEq (cs.getD i cp0).1 (cs.getD j cp0).1=false
  rw [getD_at hi,getD_at hj]
  exact List.pairwise_iff_getElem.1 hV.names i j hi hj hij
 ·obtain ⟨c,hc,rfl⟩:=hx x h
  show ((List.range ls.length).map _).length=_
  rw [List.length_map,List.length_range]
 obtain ⟨c,hc,rfl⟩:=hx x h
 obtain ⟨l,_,rfl⟩:=List.mem_map.1 hk
 exact aftK_in hV c l
theorem cntI_sm (h:List Int) (k:Int):∀ i,i≤h.length→cntI (h.take i) k=sm (fun c=>if h.getD c 0=k then 1 else 0) i
 | 0,_=>rfl
 | i+1,hi=>by
  rw [cntI_succ (by omega),cntI_sm h k i (by omega)]
  show _=sm _ i+(if h.getD i 0=k then 1 else 0)
  rw [getD_at (by omega)]
  split <;> rfl
theorem sm_le {f g:Nat→Nat}:∀ {m:Nat},(∀ c,c < m→f c≤g c)→sm f m≤sm g m
 | 0,_=>Nat.le_refl _
 | m+1,h=>Nat.add_le_add (sm_le fun c hc=>h c (by omega)) (h m (by omega))
end
def movR (A:Tb) (c:Nat):Nat→Nat
 | 0=>0
 | l+1=>movR A c l+if get2 A c l≠(c:Int)∧get2 A c l≠-1 then 1 else 0
def movU (A:Tb):Nat→Nat
 | 0=>0
 | c+1=>movU A c+movR A c (A.getD c []).length
theorem movR_le (A:Tb) (c:Nat):∀ l,movR A c l≤l
 | 0=>Nat.le_refl _
 | l+1=>by have:=movR_le A c l; simp only [movR]; split <;> omega
theorem movU_le {A:Tb} (hx:∀ c,(A.getD c []).length≤1000):∀ c,movU A c≤1000 * c
 | 0=>Nat.le_refl _
 | c+1=>by have h1:=movU_le hx c; have h2:=movR_le A c (A.getD c []).length; have h3:=hx c; simp only [movU]; omega
theorem c49 (gl:Gl) (A:List (List Int)) (hA:A.length≤1000) (hx:∀ c,(A.getD c []).length≤1000):PCalls PR gl 49 [intsV A] fun r=>r=vI (movU A A.length:Nat):=by
 refine fnW_sound (parH_ok gl) Tryd.func49 ?_;conv=>whnf
 refine ⟨?_⟩;conv=>whnf
 refine ⟨?_⟩;conv=>whnf
 refine ⟨?_⟩;conv=>whnf
 refine ⟨⟨25,[],[]⟩,?_⟩
 refine LoopW_ind _ (fun c:Nat=>(({ tmps:=[intsV A,J,J,vI (movU A c:Nat),vI c,J,J,J,J,J,J,J,J,J,J,J,J,J,J,J,J,J,J,J,J,J,J,J,J,J,J,J,J,J,J,J,J,J,J,J,J,J,J],seg:=[],up:=[] }:St S))) (fun c:Nat=>(c≤A.length)) (fun c:Nat=>(A.length - c)) () ?_ 0 (Nat.zero_le _)
 intro c hc Z1 hZ1
 conv=>whnf
 refine ⟨?_⟩;conv=>whnf
 apply bc9<;>intro h3
 ·have hlc:c < A.length:=by have:=of_decide_eq_true h3; omega
  have hwc:=wrap_nat (n:=c) (by omega)
  conv=>whnf
  refine ⟨?_⟩;conv=>whnf
  refine ⟨⟨57,[],[]⟩,?_⟩
  refine LoopW_ind _ (fun l:Nat=>(({ tmps:=[intsV A,J,J,vI (movU A c+movR A c l:Nat),vI c,vI l,J,J,J,J,J,J,J,J,J,J,J,J,J,J,J,J,J,J,J,J,J,J,J,J,J,J,J,J,J,J,J,J,J,J,J,J,J],seg:=[],up:=[] }:St S))) (fun l:Nat=>(l≤A[c].length)) (fun l:Nat=>(A[c].length - l)) () ?_ 0 (Nat.zero_le _)
  intro l hl Z2 hZ2
  conv=>whnf
  refine ⟨?_⟩;conv=>whnf
  refine ⟨_,getI_nat hlc,?_⟩;conv=>whnf
  apply bc9<;>intro h6
  ·have hll:l < A[c].length:=by have:=of_decide_eq_true h6; omega
   have b0:=hx c
   rw [getD_at hlc] at b0
   have hwl:=wrap_nat (n:=l) (by omega)
   conv=>whnf
   refine ⟨?_⟩;conv=>whnf
   refine ⟨_,getI_nat hlc,?_⟩;conv=>whnf
   refine ⟨_,getI_nat hll,?_⟩;conv=>whnf
   apply bc9<;>intro g8_9
   ·have hg:=get2_at hlc hll
    have g9:get2 A c l≠(c:Int):=by rw [hg]; have h:(A[c][l] != (c:Int))=true:=g8_9; simpa using h
    conv=>whnf
    refine ⟨_,getI_nat hlc,?_⟩;conv=>whnf
    refine ⟨_,getI_nat hll,?_⟩;conv=>whnf
    apply bc9<;>intro h8
    ·have h8:get2 A c l≠-1:=by rw [hg]; have h:(A[c][l] != -1)=true:=h8; simpa using h
     have hm:movR A c (l+1)=movR A c l+1:=by simp only [movR]; rw [if_pos ⟨g9,h8⟩]
     have b1:=movU_le hx c
     have b2:=movR_le A c l
     have b3:=hx c
     rw [getD_at hlc] at b3
     have hwn:IntKind.i64.wrap (((movU A c+movR A c l:Nat):Int)+1)=((movU A c+movR A c l+1:Nat):Int):=wrap_nat (by omega)
     conv=>whnf
     refine ⟨?_⟩;conv=>whnf
     refine ⟨?_⟩;conv=>whnf
     refine ⟨⟨57,[],[]⟩,?_⟩;conv=>whnf
     rw [hwl,hwn]
     have hz:=hZ2 (l+1) hll (by omega)
     rw [hm,←Nat.add_assoc] at hz
     exact hz
    have h8:get2 A c l=-1:=by rw [hg]; have h:(A[c][l] != -1)=false:=h8; simpa using h
    have hm:movR A c (l+1)=movR A c l:=by simp only [movR]; rw [if_neg fun q=>q.2 h8]; rfl
    conv=>whnf
    refine ⟨?_⟩;conv=>whnf
    refine ⟨⟨57,[],[]⟩,?_⟩;conv=>whnf
    rw [hwl]
    have hz:=hZ2 (l+1) hll (by omega)
    rw [hm] at hz
    exact hz
   have hg:=get2_at hlc hll
   have g9:get2 A c l=(c:Int):=by rw [hg]; have h:(A[c][l] != (c:Int))=false:=g8_9; simpa using h
   conv=>whnf
   refine ⟨?_⟩;conv=>whnf
   refine ⟨⟨57,[],[]⟩,?_⟩;conv=>whnf
   rw [hwl]
   have hz:=hZ2 (l+1) hll (by omega)
   rw [show movR A c (l+1)=movR A c l from by simp only [movR]; rw [if_neg fun q=>q.1 g9]; rfl] at hz
   exact hz
  have hgl:l=A[c].length:=by have:=of_decide_eq_false h6; omega
  conv=>whnf
  refine ⟨?_⟩;conv=>whnf
  refine ⟨⟨25,[],[]⟩,?_⟩;conv=>whnf
  rw [hwc,hgl]
  have hz:=hZ1 (c+1) hlc (by omega)
  rw [show movU A (c+1)=movU A c+movR A c A[c].length from by simp only [movU]; rw [getD_at hlc]] at hz
  exact hz
 have hgc:c=A.length:=by have:=of_decide_eq_false h3; omega
 conv=>whnf
 refine ⟨?_⟩;conv=>whnf
 rw [hgc]
theorem op49:Opens PR 49:=⟨_,Tryd.func49,rfl,rfl⟩
def whK (n:Nat) (cs:List Cp) (c k:Nat):Nat:=if cntI (cs.getD c cp0).2 (k:Int)=n then 1 else 0
def whlK (n:Nat) (cs:List Cp) (c:Nat):Nat→Nat
 | 0=>0
 | k+1=>whlK n cs c k+whK n cs c (k+1)
def whlU (n:Nat) (cs:List Cp):Nat→Nat
 | 0=>0
 | c+1=>whlU n cs c+whlK n cs c 2
theorem whlK_le (n:Nat) (cs:List Cp) (c:Nat):∀ k,whlK n cs c k≤k
 | 0=>Nat.le_refl _
 | k+1=>by have:=whlK_le n cs c k; simp only [whlK,whK]; split <;> omega
theorem whlU_le (n:Nat) (cs:List Cp):∀ c,whlU n cs c≤2 * c
 | 0=>Nat.le_refl _
 | c+1=>by have h1:=whlU_le n cs c; have h2:=whlK_le n cs c 2; simp only [whlU]; omega
theorem c47 (gl:Gl) (p:Int) (ls:List Lf) (cs:List Cp) (hL:LensS ls cs) (h4:cs.length≤1000):PCalls PR gl 47 [.agg [vI p,lfsV ls,cpsV cs]] fun r=>r=vI (whlU ls.length cs cs.length:Nat):=by
 refine fnW_sound (parH_ok gl) Tryd.func47 ?_;conv=>whnf
 refine ⟨?_⟩;conv=>whnf
 refine ⟨?_⟩;conv=>whnf
 refine ⟨?_⟩;conv=>whnf
 refine ⟨⟨26,[],[]⟩,?_⟩
 refine LoopW_ind _ (fun c:Nat=>(({ tmps:=[J,.own 1 [],J,vI (whlU ls.length cs c:Nat),vI c,J,J,J,J,J,J,J,J,J,J,J,J,J,J,J,J,J,J,J,J,J,J,J,J,J,J,J],seg:=[(1,.cells [vI p,lfsV ls,cpsV cs])],up:=[] }:St S))) (fun c:Nat=>(c≤cs.length)) (fun c:Nat=>(cs.length - c)) () ?_ 0 (Nat.zero_le _)
 intro c hc Z1 hZ1
 conv=>whnf
 refine ⟨?_⟩;conv=>whnf
 apply bc9<;>intro h3
 ·have hlc:c < cs.length:=by have:=of_decide_eq_true h3; omega
  have hwc:=wrap_nat (n:=c) (by omega)
  conv=>whnf
  refine ⟨?_⟩;conv=>whnf
  refine ⟨⟨58,[],[]⟩,?_⟩
  refine LoopW_ind _ (fun k:Nat=>(({ tmps:=[J,.own 1 [],J,vI (whlU ls.length cs c+whlK ls.length cs c k:Nat),vI c,vI (k+1:Nat),J,J,J,J,J,J,J,J,J,J,J,J,J,J,J,J,J,J,J,J,J,J,J,J,J,J],seg:=[(1,.cells [vI p,lfsV ls,cpsV cs])],up:=[] }:St S))) (fun k:Nat=>(k≤2)) (fun k:Nat=>(2 - k)) () ?_ 0 (Nat.zero_le _)
  intro k hk Z2 hZ2
  conv=>whnf
  refine ⟨?_⟩;conv=>whnf
  apply bc9<;>intro h6
  ·have hkl:k < 2:=by have:=of_decide_eq_true h6; omega
   have hwk:IntKind.i64.wrap (((k+1:Nat):Int)+1)=((k+1+1:Nat):Int):=wrap_nat (by omega)
   have hxl:=hL.2 _ (List.getElem_mem hlc)
   have b1:=whlU_le ls.length cs c
   have b2:=whlK_le ls.length cs c k
   have hwn:IntKind.i64.wrap (((whlU ls.length cs c+whlK ls.length cs c k:Nat):Int)+1)=((whlU ls.length cs c+whlK ls.length cs c k+1:Nat):Int):=wrap_nat (by omega)
   conv=>whnf
   refine ⟨[0,1,2,3,4,5,6,8,9,10,7,11],[],[],[],⟨4294967295,[],[]⟩,by decide +kernel,?_⟩;conv=>whnf
   refine ⟨_,getI_nat hlc,?_⟩;conv=>whnf
   refine byC (c94 gl cs[c].2 hxl ((k+1:Nat):Int)) op94 ?_;conv=>whnf
   apply bc9<;>intro h8
   ·have h8:cntI cs[c].2 ((k+1:Nat):Int)=ls.length:=by have h:(((cntI cs[c].2 ((k+1:Nat):Int):Nat):Int)==(ls.length:Int))=true:=h8; have:=eq_of_beq h; omega
    have hm:whlK ls.length cs c (k+1)=whlK ls.length cs c k+1:=by simp only [whlK,whK]; rw [getD_at hlc,if_pos h8]
    conv=>whnf
    refine ⟨?_⟩;conv=>whnf
    refine ⟨?_⟩;conv=>whnf
    refine ⟨⟨58,[],[]⟩,?_⟩;conv=>whnf
    rw [hwk,hwn]
    have hz:=hZ2 (k+1) hkl (by omega)
    rw [hm,←Nat.add_assoc] at hz
    exact hz
   have h8:cntI cs[c].2 ((k+1:Nat):Int)≠ls.length:=fun e=>by have h:(((cntI cs[c].2 ((k+1:Nat):Int):Nat):Int)==(ls.length:Int))=false:=h8; rw [e] at h; simp at h
   have hm:whlK ls.length cs c (k+1)=whlK ls.length cs c k:=by simp only [whlK,whK]; rw [getD_at hlc,if_neg h8]; rfl
   conv=>whnf
   refine ⟨?_⟩;conv=>whnf
   refine ⟨⟨58,[],[]⟩,?_⟩;conv=>whnf
   rw [hwk]
   have hz:=hZ2 (k+1) hkl (by omega)
   rw [hm] at hz
   exact hz
  have hgk:k=2:=by have:=of_decide_eq_false h6; omega
  conv=>whnf
  refine ⟨?_⟩;conv=>whnf
  refine ⟨⟨26,[],[]⟩,?_⟩;conv=>whnf
  rw [hwc,hgk]
  exact hZ1 (c+1) hlc (by omega)
 have hgc:c=cs.length:=by have:=of_decide_eq_false h3; omega
 conv=>whnf
 refine ⟨?_⟩;conv=>whnf
 rw [hgc]
theorem op47:Opens PR 47:=⟨_,Tryd.func47,rfl,rfl⟩
def wheI (A:Tb) (c:Int) (l:Nat):Nat→Int
 | 0=>-1
 | i+1=>if wheI A c l i=-1 then (if get2 A i l=c then (i:Int) else -1) else wheI A c l i
theorem whe_no {A:Tb} {c:Int} {l:Nat}:∀ {i:Nat},(∀ j,j < i→get2 A j l≠c)→wheI A c l i=-1
 | 0,_=>rfl
 | i+1,h=>by simp only [wheI]; rw [if_pos (whe_no fun j hj=>h j (by omega)),if_neg (h i (by omega))]
theorem whe_up {A:Tb} {c:Int} {l i:Nat} (h:wheI A c l i≠-1):∀ n,wheI A c l (i+n)=wheI A c l i
 | 0=>rfl
 | n+1=>by show wheI A c l (i+n+1)=_; simp only [wheI]; rw [whe_up h n,if_neg h]
theorem whe_at {A:Tb} {c:Int} {l i n:Nat} (hi:i < n) (h:∀ j,j < i→get2 A j l≠c) (e:get2 A i l=c):wheI A c l n=i:=by
 have h1:wheI A c l (i+1)=i:=by simp only [wheI]; rw [if_pos (whe_no h),if_pos e]
 have:=whe_up (A:=A) (c:=c) (l:=l) (i:=i+1) (by rw [h1]; omega) (n - (i+1))
 rw [show i+1+(n - (i+1))=n by omega] at this
 rw [this,h1]
theorem c120 (gl:Gl) (A:List (List Int)) (hA:A.length≤1000) (c:Int) (l:Nat) (hl:∀ i,i < A.length→l < (A.getD i []).length):PCalls PR gl 120 [intsV A,vI c,vI l] fun r=>r=vI (wheI A c l A.length):=by
 refine fnW_sound (parH_ok gl) Tryd.func120 ?_;conv=>whnf
 refine ⟨?_⟩;conv=>whnf
 refine ⟨?_⟩;conv=>whnf
 refine ⟨⟨135,[],[]⟩,?_⟩
 refine LoopW_ind _ (fun i:Nat=>(({ tmps:=[intsV A,vI c,vI l,J,J,J,J,vI i,J,J,J,J,J,J,J,J,J,J,J,J,J,J,J,J],seg:=[],up:=[] }:St S))) (fun i:Nat=>(i≤A.length∧∀ j,j < i→get2 A j l≠c)) (fun i:Nat=>(A.length - i)) () ?_ 0 ⟨Nat.zero_le _,fun j h=>absurd h (Nat.not_lt_zero j)⟩
 intro i hinv Z1 hZ1
 obtain ⟨hi,hd⟩:=hinv
 conv=>whnf
 refine ⟨?_⟩;conv=>whnf
 apply bc9<;>intro h2
 ·have hlt:i < A.length:=by have:=of_decide_eq_true h2; omega
  have hw:=wrap_nat (n:=i) (by omega)
  conv=>whnf
  refine ⟨?_⟩;conv=>whnf
  have hrl:l < A[i].length:=by have:=hl i hlt; rw [getD_at hlt] at this; exact this
  have hg:=get2_at hlt hrl
  refine ⟨_,getI_nat hlt,?_⟩;conv=>whnf
  refine ⟨_,getI_nat hrl,?_⟩;conv=>whnf
  apply bc9<;>intro h4
  ·have h4:get2 A i l=c:=by rw [hg]; exact eq_of_beq (show (A[i][l]==c)=true from h4)
   conv=>whnf
   refine ⟨?_⟩;conv=>whnf
   rw [whe_at hlt hd h4]
  have h4:get2 A i l≠c:=fun e=>by have h:(A[i][l]==c)=false:=h4; rw [←hg,e] at h; simp at h
  conv=>whnf
  refine ⟨?_⟩;conv=>whnf
  refine ⟨⟨135,[],[]⟩,?_⟩;conv=>whnf
  rw [hw]
  exact hZ1 (i+1) ⟨hlt,up_all hd h4⟩ (by omega)
 have hge:i=A.length:=by have:=of_decide_eq_false h2; omega
 conv=>whnf
 refine ⟨?_⟩;conv=>whnf
 rw [whe_no (by rw [←hge]; exact hd)]
theorem op120:Opens PR 120:=⟨_,Tryd.func120,rfl,rfl⟩
section
variable {p:Int} {ls:List Lf} {cs:List Cp} {h:List Int} {Q A:Tb}
theorem RightR.ent (hR:RightR ls cs A) {c l:Nat} (hc:c < cs.length) (hl:l < ls.length):get2 A c l=-1∨∃ d:Nat,get2 A c l=d∧d < cs.length∧hasI cs d l≠0:=by
 rcases (hR.2 c hc).2 l hl with e | ⟨e1,e2,e3,_⟩
 ·exact .inl e
 exact .inr ⟨(get2 A c l).toNat,by omega,by omega,e3⟩
theorem RightR.once (hR:RightR ls cs A) {c c' l:Nat} (hc:c < cs.length) (hc':c' < cs.length) (hl:l < ls.length) (hn:get2 A c l≠-1) (he:get2 A c l=get2 A c' l):c=c':=by
 rcases Nat.lt_trichotomy c c' with g | g | g
 ·rcases (hR.2 c' hc').2 l hl with e | ⟨_,_,_,e4⟩
  ·omega
  exact absurd he (e4 c g)
 ·exact g
 rcases (hR.2 c hc).2 l hl with e | ⟨_,_,_,e4⟩
 ·exact absurd e hn
 exact absurd he.symm (e4 c' g)
theorem any_le (hR:RightR ls cs A) {k:Int} (hk:k≠0) {l:Nat} (hl:l < ls.length):hvA (aftL ls cs A) l k≤hvA cs l k:=by
 show hvN (aftL ls cs A) l k (aftL ls cs A).length≤hvN cs l k cs.length
 rw [aft_len]
 unfold hvN
 have hm:∀ c,c∈(List.range cs.length).filter (fun c=>hasI (aftL ls cs A) c l==k)→c < cs.length∧∃ d:Nat,get2 A c l=d∧d < cs.length∧hasI cs d l=k:=fun c hc=>by
  rw [List.mem_filter,List.mem_range,beq_iff_eq] at hc
  obtain ⟨hc,he⟩:=hc
  rw [aft_has hc hl] at he
  unfold aftK at he
  rcases hR.ent hc hl with e2 | ⟨d,e2,hd,_⟩
  ·rw [if_pos e2] at he; exact absurd he.symm hk
  rw [if_neg (by omega),e2,Int.toNat_natCast] at he
  exact ⟨hc,d,e2,hd,he⟩
 have hlen:(((List.range cs.length).filter (fun c=>hasI (aftL ls cs A) c l==k)).map fun c=>(get2 A c l).toNat).length=((List.range cs.length).filter (fun c=>hasI (aftL ls cs A) c l==k)).length:=List.length_map _
 rw [←hlen]
 refine nodup_sub_len ?_ fun d hd=>?_
 ·unfold List.Nodup
  rw [List.pairwise_map]
  refine List.Pairwise.imp_of_mem ?_ ((List.nodup_range (n:=cs.length)).filter _)
  intro a b ha hb hab e
  obtain ⟨ha,d,e1,hd,_⟩:=hm a ha
  obtain ⟨hb,d',e2,hd',_⟩:=hm b hb
  exact hab (hR.once ha hb hl (by omega) (by omega))
 obtain ⟨c,hc,rfl⟩:=List.mem_map.1 hd
 obtain ⟨_,d,e,hd,hk⟩:=hm c hc
 rw [List.mem_filter,List.mem_range,e,Int.toNat_natCast]
 exact ⟨hd,by rw [beq_iff_eq]; exact hk⟩
theorem whK_one (n:Nat) (cs:List Cp) (c k:Nat):whK n cs c k=0∨whK n cs c k=1:=by unfold whK; split <;> simp
theorem cnt_all {xs:List Int} {k:Int}:cntI xs k=xs.length↔∀ x∈xs,x=k:=by
 unfold cntI
 rw [List.length_filter_eq_length_iff]
 exact ⟨fun g x hx=>eq_of_beq (g x hx),fun g x hx=>by rw [g x hx]; exact beq_self_eq_true _⟩
theorem whK_iff {c k:Nat} (hc:c < cs.length):whK ls.length (aftL ls cs A) c k=1↔∀ l,l < ls.length→aftK cs A c l=(k:Int):=by
 have e:((aftL ls cs A).getD c cp0).2=(List.range ls.length).map (aftK cs A c):=by
  rw [getD_at (xs:=aftL ls cs A) (i:=c) (by rw [aft_len]; exact hc),aft_at hc]; rfl
 unfold whK
 rw [e]
 have hf:cntI ((List.range ls.length).map (aftK cs A c)) (k:Int)=ls.length↔∀ l,l < ls.length→aftK cs A c l=(k:Int):=by
  have g:=cnt_all (xs:=(List.range ls.length).map (aftK cs A c)) (k:=(k:Int))
  rw [List.length_map,List.length_range] at g
  rw [g]
  constructor
  ·intro g l h
   exact g _ (List.mem_map.2 ⟨l,List.mem_range.2 h,rfl⟩)
  rintro g x hx
  obtain ⟨l,h1,rfl⟩:=List.mem_map.1 hx
  exact g l (List.mem_range.1 h1)
 rw [←hf]
 split
 ·rename_i g; exact ⟨fun _=>g,fun _=>rfl⟩
 rename_i g; exact ⟨fun q=>absurd q (by decide),fun q=>absurd q g⟩
def wN (ls:List Lf) (cs:List Cp) (A:Tb) (k:Nat):Nat:=sm (fun c=>whK ls.length (aftL ls cs A) c k) cs.length
theorem whl_two (n:Nat) (cs:List Cp):∀ m,whlU n cs m=sm (fun c=>whK n cs c 1) m+sm (fun c=>whK n cs c 2) m
 | 0=>rfl
 | m+1=>by
  show whlU n cs m+(0+whK n cs m 1+whK n cs m 2)=(sm (fun c=>whK n cs c 1) m+whK n cs m 1)+(sm (fun c=>whK n cs c 2) m+whK n cs m 2)
  rw [whl_two n cs m]; omega
theorem whl_aft:whlU ls.length (aftL ls cs A) (aftL ls cs A).length=wN ls cs A 1+wN ls cs A 2:=by rw [aft_len]; exact whl_two _ _ _
theorem wN_le (hV:Valid p ls cs) (hR:RightR ls cs A) {k:Nat} (hk:k≠0):wN ls cs A k≤(mostN ls cs (k:Int)).1:=by
 obtain ⟨l,hl,e⟩:=most_at hV.m4 (k:Int) hV.n1
 have h1:=any_le hR (k:=(k:Int)) (by omega) hl
 have h2:wN ls cs A k≤hvA (aftL ls cs A) l (k:Int):=by
  show _≤hvN (aftL ls cs A) l (k:Int) (aftL ls cs A).length
  rw [aft_len,hvN_sm]
  refine sm_le fun c hc=>?_
  rcases whK_one ls.length (aftL ls cs A) c k with g | g
  ·rw [g]; exact Nat.zero_le _
  rw [g,if_pos (by rw [aft_has hc hl,(whK_iff hc).1 g l hl]; exact beq_self_eq_true _)]
  exact Nat.le_refl _
 unfold mostN
 omega
theorem any_whole (hV:Valid p ls cs) (hR:RightR ls cs A):whlU ls.length (aftL ls cs A) (aftL ls cs A).length≤(mostN ls cs 1).1+(mostN ls cs 2).1:=by
 rw [whl_aft]
 exact Nat.add_le_add (wN_le hV hR (k:=1) (by decide)) (wN_le hV hR (k:=2) (by decide))
theorem best_ge (hV:Valid p ls cs) (hh:HostOk ls cs h) (hq:PlOk ls.length cs (pad4 h) Q) (hs:SamT ls cs A Q) {k:Nat} (hk:k≠0):cntI h (k:Int)≤wN ls cs A k:=by
 have h1:=cntI_sm h (k:Int) cs.length (by rw [hh.len]; exact Nat.le_refl _)
 rw [←hh.len,List.take_length,hh.len] at h1
 rw [h1]
 refine sm_le fun c hc=>?_
 split
 ·rename_i e
  rw [(whK_iff hc).2 fun l hl=>?_]
  ·exact Nat.le_refl _
  unfold aftK
  rw [hs.same c l hc hl]
  rw [←pad_get] at e
  rcases hq.hasT hV hh hc hl with ⟨_,e2⟩ | ⟨d,e2,hd,hp,h3⟩
  ·omega
  rw [if_neg (by omega),e2,Int.toNat_natCast,h3 (by omega),e]
 exact Nat.zero_le _
theorem best_whole (hV:Valid p ls cs) (hh:HostOk ls cs h) (hq:PlOk ls.length cs (pad4 h) Q) (hs:SamT ls cs A Q):whlU ls.length (aftL ls cs A) (aftL ls cs A).length=(mostN ls cs 1).1+(mostN ls cs 2).1:=by
 have h1:=any_whole hV (best_right hV hh hq hs)
 have h2:cntI h 1≤wN ls cs A 1:=best_ge hV hh hq hs (k:=1) (by decide)
 have h3:cntI h 2≤wN ls cs A 2:=best_ge hV hh hq hs (k:=2) (by decide)
 have h4:=hh.one
 have h5:=hh.two
 rw [whl_aft] at h1 ⊢
 omega
theorem movR_mv (A:Tb) (c:Nat):∀ l,movR A c l=mvR A c l
 | 0=>rfl
 | l+1=>by show movR A c l+_=mvR A c l+_; rw [movR_mv A c l]
theorem movU_sm (A:Tb):∀ m,movU A m=sm (fun c=>movR A c (A.getD c []).length) m
 | 0=>rfl
 | m+1=>by show movU A m+_=sm _ m+_; rw [movU_sm A m]
theorem mov_sm {n m:Nat} (hm:A.length=m) (hr:∀ c,c < m→(A.getD c []).length=n):movU A A.length=sm (fun c=>sm (fun l=>if get2 A c l≠(c:Int)∧get2 A c l≠-1 then 1 else 0) n) m:=by
 rw [movU_sm,hm]
 exact sm_eq fun c hc=>by rw [movR_mv,hr c hc,mvR_sm]
theorem best_moved (hV:Valid p ls cs) (hh:HostOk ls cs h) (hq:PlOk ls.length cs (pad4 h) Q) (hs:SamT ls cs A Q):movU A A.length=lackN cs (pad4 h):=by
 unfold lackN
 rw [hq.moved hV (fun c=>(hh.nn c).1) _ (Nat.le_refl _),mov_sm hs.len hs.row,mvU_sm]
 refine sm_eq fun c hc=>?_
 rw [mvR_sm]
 exact sm_eq fun l hl=>by rw [hs.same c l hc hl]
def hostR (ls:List Lf) (cs:List Cp) (A:Tb):List Int:=(List.range cs.length).map fun c=>if whK ls.length (aftL ls cs A) c 1=1 then 1 else if whK ls.length (aftL ls cs A) c 2=1 then 2 else 0
theorem hostR_at {c:Nat} (hc:c < cs.length):(hostR ls cs A).getD c 0=if whK ls.length (aftL ls cs A) c 1=1 then 1 else if whK ls.length (aftL ls cs A) c 2=1 then 2 else 0:=by
 unfold hostR
 rw [getD_at (by rw [List.length_map,List.length_range]; exact hc),List.getElem_map,List.getElem_range]
theorem host_wh (hV:Valid p ls cs) {c:Nat} (hc:c < cs.length) {k:Nat} (hk:k=1∨k=2):(hostR ls cs A).getD c 0=(k:Int)↔whK ls.length (aftL ls cs A) c k=1:=by
 rw [hostR_at hc]
 have hn:¬ (whK ls.length (aftL ls cs A) c 1=1∧whK ls.length (aftL ls cs A) c 2=1):=fun ⟨a,b⟩=>by
  have h1:=(whK_iff hc).1 a 0 hV.n1
  have h2:=(whK_iff hc).1 b 0 hV.n1
  omega
 rcases hk with rfl | rfl
 ·split
  ·rename_i g; exact ⟨fun _=>g,fun _=>rfl⟩
  rename_i g; exact ⟨fun q=>by split at q <;> omega,fun q=>absurd q g⟩
 split
 ·rename_i g; exact ⟨fun q=>by omega,fun q=>absurd ⟨g,q⟩ hn⟩
 split
 ·rename_i g; exact ⟨fun _=>g,fun _=>rfl⟩
 rename_i g; exact ⟨fun q=>by omega,fun q=>absurd q g⟩
theorem hostR_cnt (hV:Valid p ls cs) {k:Nat} (hk:k=1∨k=2):cntI (hostR ls cs A) (k:Int)=wN ls cs A k:=by
 have hl:(hostR ls cs A).length=cs.length:=by unfold hostR; rw [List.length_map,List.length_range]
 have h1:=cntI_sm (hostR ls cs A) (k:Int) cs.length (by omega)
 rw [←hl,List.take_length,hl] at h1
 rw [h1]
 refine sm_eq fun c hc=>?_
 rcases whK_one ls.length (aftL ls cs A) c k with g | g
 ·rw [g,if_neg fun q=>by have:=(host_wh hV hc hk).1 q; omega]
 rw [g,if_pos ((host_wh hV hc hk).2 g)]
theorem hostR_ok (hV:Valid p ls cs) (hR:RightR ls cs A) (e:whlU ls.length (aftL ls cs A) (aftL ls cs A).length=(mostN ls cs 1).1+(mostN ls cs 2).1):HostOk ls cs (hostR ls cs A):=by
 rw [whl_aft] at e
 have h1:wN ls cs A 1≤(mostN ls cs 1).1:=wN_le hV hR (k:=1) (by decide)
 have h2:wN ls cs A 2≤(mostN ls cs 2).1:=wN_le hV hR (k:=2) (by decide)
 have c1:cntI (hostR ls cs A) 1=wN ls cs A 1:=hostR_cnt hV (k:=1) (.inl rfl)
 have c2:cntI (hostR ls cs A) 2=wN ls cs A 2:=hostR_cnt hV (k:=2) (.inr rfl)
 refine ⟨by unfold hostR; rw [List.length_map,List.length_range],fun x hx=>?_,by omega,by omega⟩
 obtain ⟨c,_,rfl⟩:=List.mem_map.1 hx
 split
 ·exact .inr (.inl rfl)
 split
 ·exact .inr (.inr rfl)
 exact .inl rfl
theorem any_moved (hV:Valid p ls cs) (hR:RightR ls cs A) (hh:HostOk ls cs (hostR ls cs A)):lackN cs (pad4 (hostR ls cs A))≤movU A A.length:=by
 obtain ⟨Q,hq⟩:=plan_ex hV.m4 hV.n6 hh
 unfold lackN
 rw [hq.moved hV (fun c=>(hh.nn c).1) _ (Nat.le_refl _),mov_sm hR.1 (fun c hc=>(hR.2 c hc).1),mvU_sm]
 refine sm_le fun c hc=>?_
 rw [mvR_sm]
 refine sm_le fun l hl=>?_
 split
 ·rename_i g
  have g:=(hq.move (fun c=>(hh.nn c).1) hc hl).1 g
  rw [Bool.and_eq_true,decide_eq_true_eq,bne_iff_ne,pad_get] at g
  have hn:=hh.nn c
  rw [pad_get] at hn
  have hk:(hostR ls cs A).getD c 0=((1:Nat):Int)∨(hostR ls cs A).getD c 0=((2:Nat):Int):=by omega
  have ha:aftK cs A c l=(hostR ls cs A).getD c 0:=by
   rcases hk with e1 | e1
   ·rw [e1]; exact (whK_iff hc).1 ((host_wh hV hc (.inl rfl)).1 e1) l hl
   rw [e1]; exact (whK_iff hc).1 ((host_wh hV hc (.inr rfl)).1 e1) l hl
  rw [if_pos]
  ·exact Nat.le_refl _
  unfold aftK at ha
  refine ⟨fun q=>?_,fun q=>?_⟩
  ·rw [if_neg (by omega),q,Int.toNat_natCast] at ha; exact g.2 ha.symm
  rw [if_pos q] at ha; omega
 exact Nat.zero_le _
def ctB (ls:List Lf) (cs:List Cp) (A:Tb) (c l:Nat):Bool :=
 decide ((ls.getD l lf0).2.1 > (l:Int))&&(decide (hasI cs c l > 0)&&(decide (hasI cs c (ls.getD l lf0).2.1.toNat > 0)&&(wheI A c l A.length != wheI A c (ls.getD l lf0).2.1.toNat A.length)))
def ctR (ls:List Lf) (cs:List Cp) (A:Tb) (c:Nat):Nat→Nat
 | 0=>0
 | l+1=>ctR ls cs A c l+if ctB ls cs A c l=true then 1 else 0
def ctU (ls:List Lf) (cs:List Cp) (A:Tb):Nat→Nat
 | 0=>0
 | c+1=>ctU ls cs A c+ctR ls cs A c ls.length
theorem ctR_le (c:Nat):∀ l,ctR ls cs A c l≤l
 | 0=>Nat.le_refl _
 | l+1=>by have:=ctR_le c l; simp only [ctR]; split <;> omega
theorem ctU_le (h6:ls.length≤6):∀ c,ctU ls cs A c≤6 * c
 | 0=>Nat.le_refl _
 | c+1=>by have h1:=ctU_le h6 c; have h2:=ctR_le (ls:=ls) (cs:=cs) (A:=A) c ls.length; simp only [ctU]; omega
theorem ctU_sm:∀ m,ctU ls cs A m=sm (fun c=>ctR ls cs A c ls.length) m
 | 0=>rfl
 | m+1=>by show ctU ls cs A m+_=sm _ m+_; rw [ctU_sm m]
theorem ctR_sm (c:Nat):∀ n,ctR ls cs A c n=sm (fun l=>if ctB ls cs A c l=true then 1 else 0) n
 | 0=>rfl
 | n+1=>by show ctR ls cs A c n+_=sm _ n+_; rw [ctR_sm c n]
theorem whe_atA (hV:Valid p ls cs) (hq:PlOk ls.length cs (pad4 h) Q) (hs:SamT ls cs A Q) {k x:Nat} (hk:k < cs.length) (hx:x < ls.length):wheI A k x A.length=get2 (atA ls cs Q) k x:=by
 obtain ⟨i1,i2⟩:=atA_get hV hq hk hx
 by_cases e:∃ i,i < cs.length∧get2 Q i x=(k:Int)
 ·obtain ⟨i,hi,he⟩:=e
  rw [i1 i hi he]
  refine whe_at (by rw [hs.len]; exact hi) (fun j hj q=>?_) (by rw [hs.same i x hi hx]; exact he)
  rw [hs.same j x (by omega) hx] at q
  have:=hq.once hi (c':=j) (by omega) hx (by omega) (he.trans q.symm)
  omega
 rw [i2 fun d hd he=>e ⟨d,hd,he⟩]
 refine whe_no fun j hj q=>e ⟨j,by rw [hs.len] at hj; exact hj,?_⟩
 rw [hs.len] at hj
 rw [←hs.same j x hj hx]; exact q
theorem best_cut (hV:Valid p ls cs) (hq:PlOk ls.length cs (pad4 h) Q) (hs:SamT ls cs A Q):ctU ls cs A cs.length=cutN ls cs Q:=by
 unfold cutN
 rw [cutU_sm,ctU_sm]
 refine sm_eq fun c hc=>?_
 rw [cutR_sm,ctR_sm]
 refine sm_eq fun x hx=>?_
 have e:ctB ls cs A c x=cutB ls cs (atA ls cs Q) c x:=by
  unfold ctB cutB
  by_cases hy:(ls.getD x lf0).2.1 > (x:Int)
  ·have hl:=(hV.lf hx).2.1
   rw [getD_at hx] at hy ⊢
   have hy2:ls[x].2.1.toNat < ls.length:=by omega
   rw [whe_atA hV hq hs hc hx,whe_atA hV hq hs hc hy2]
   have a1:=has_in hV c x
   have a2:=has_in hV c ls[x].2.1.toNat
   have hm:decide (hasI cs c x * hasI cs c ls[x].2.1.toNat > 0)=(decide (hasI cs c x > 0)&&decide (hasI cs c ls[x].2.1.toNat > 0)):=by
    rw [Bool.eq_iff_iff,Bool.and_eq_true,decide_eq_true_eq,decide_eq_true_eq,decide_eq_true_eq]
    constructor
    ·intro g
     rcases Int.lt_or_eq_of_le a1.1 with b | b
     ·rcases Int.lt_or_eq_of_le a2.1 with d | d
      ·exact ⟨b,d⟩
      rw [←d,Int.mul_zero] at g; omega
     rw [←b,Int.zero_mul] at g; omega
    rintro ⟨b,d⟩; exact Int.mul_pos b d
   rw [hm,Bool.and_assoc,Bool.and_assoc]
  rw [decide_eq_false hy]; rfl
 rw [e]
end
structure MoreP (ls:List Lf) (cs:List Cp) (A:Tb) (a b c:Int):Prop where
 right:RightR ls cs A
 wh:(whlU ls.length (aftL ls cs A) (aftL ls cs A).length:Int)=a
 mv:(movU A A.length:Int)=b
 ct:(ctU ls cs A cs.length:Int)=c
 sum:(((mostN ls cs 1).1+(mostN ls cs 2).1:Nat):Int)=a
 le:∀ B,RightR ls cs B→(whlU ls.length (aftL ls cs B) (aftL ls cs B).length:Int)≤a
 eq:∀ B,RightR ls cs B→(whlU ls.length (aftL ls cs B) (aftL ls cs B).length:Int)=a→b≤(movU B B.length:Int)
theorem more_plain {p:Int} {ls:List Lf} {cs:List Cp} (hV:Valid p ls cs):∃ A a b c,whoV p ls cs=(A,a,b,c,0)∧MoreP ls cs A a b c:=by
 obtain ⟨h,Q,hh,hq,he,hle⟩:=best_spec hV
 refine ⟨rowsW (bestW ls cs) ls.length cs.length,manyU ls cs 3,(bestW ls cs).2.1,(bestW ls cs).2.2,by unfold whoV; rw [if_pos (chk_valid.2 hV)],?_⟩
 have hs:SamT ls cs (rowsW (wayQ ls cs (lackN cs (pad4 h)) Q) ls.length cs.length) Q:=rows_same hV hq.t (lackN cs (pad4 h):Int) (cutN ls cs Q:Int)
 rw [he] at hle ⊢
 have hw:=best_whole hV hh hq hs
 refine ⟨best_right hV hh hq hs,by rw [hw]; rfl,by rw [best_moved hV hh hq hs]; rfl,by rw [best_cut hV hq hs]; rfl,rfl,fun B hB=>?_,fun B hB e=>?_⟩
 ·exact Int.ofNat_le.2 (any_whole hV hB)
 have e2:whlU ls.length (aftL ls cs B) (aftL ls cs B).length=(mostN ls cs 1).1+(mostN ls cs 2).1:=Int.ofNat_inj.1 e
 have hh':=hostR_ok hV hB e2
 obtain ⟨Q',hq'⟩:=plan_ex hV.m4 hV.n6 hh'
 have g:=any_moved hV hB hh'
 have g2:=hle _ Q' hh' hq'
 unfold keyV at g2
 rw [befL_cons] at g2
 simp only [Bool.or_eq_false_iff,decide_eq_false_iff_not] at g2
 have g3:¬ ((lackN cs (pad4 (hostR ls cs B)):Int) < (lackN cs (pad4 h):Int)):=g2.1
 show (lackN cs (pad4 h):Int)≤_
 omega
structure RectT (m n:Nat) (P:Tb):Prop where
 len:P.length=m
 row:∀ c,c < m→(P.getD c []).length=n
theorem c50 (gl:Gl) (p:Int) (ls:List Lf) (cs:List Cp) (hV:Valid p ls cs) (A:List (List Int)) (hR:RectT cs.length ls.length A):PCalls PR gl 50 [.agg [vI p,lfsV ls,cpsV cs],intsV A] fun r=>r=vI (ctU ls cs A cs.length:Nat):=by
 have hAl:=hR.len
 have hm4:=hV.m4
 have hn6:=hV.n6
 refine fnW_sound (parH_ok gl) Tryd.func50 ?_;conv=>whnf
 refine ⟨?_⟩;conv=>whnf
 refine ⟨?_⟩;conv=>whnf
 refine ⟨?_⟩;conv=>whnf
 refine ⟨⟨102,[],[]⟩,?_⟩
 refine LoopW_ind _ (fun c:Nat=>(({ tmps:=[J,intsV A,.own 2 [],J,J,vI (ctU ls cs A c:Nat),vI c,J,J,J,J,J,J,J,J,J,J,J,J,J,J,J,J,J,J,J,J,J,J,J,J,J,J,J,J,J,J,J,J,J,J,J,J,J,J,J,J,J,J,J,J,J,J,J,J,J,J,J,J,J,J,J,J,J,J,J,J,J,J],seg:=[(2,.cells [vI p,lfsV ls,cpsV cs])],up:=[] }:St S))) (fun c:Nat=>(c≤A.length)) (fun c:Nat=>(A.length - c)) () ?_ 0 (Nat.zero_le _)
 intro c hc Z1 hZ1
 conv=>whnf
 refine ⟨?_⟩;conv=>whnf
 apply bc9<;>intro h3
 ·have hlA:c < A.length:=by have:=of_decide_eq_true h3; omega
  have hwc:=wrap_nat (n:=c) (by omega)
  have hlc:c < cs.length:=by omega
  have hcp:=(hV.cp hlc).2.1
  have b1:=ctU_le (ls:=ls) (cs:=cs) (A:=A) hV.n6 c
  conv=>whnf
  refine ⟨?_⟩;conv=>whnf
  refine ⟨⟨230,[],[]⟩,?_⟩
  refine LoopW_ind _ (fun l:Nat=>(({ tmps:=[J,intsV A,.own 2 [],J,J,vI (ctU ls cs A c+ctR ls cs A c l:Nat),vI c,vI l,J,J,J,J,J,J,J,J,J,J,J,J,J,J,J,J,J,J,J,J,J,J,J,J,J,J,J,J,J,J,J,J,J,J,J,J,J,J,J,J,J,J,J,J,J,J,J,J,J,J,J,J,J,J,J,J,J,J,J,J,J],seg:=[(2,.cells [vI p,lfsV ls,cpsV cs])],up:=[] }:St S))) (fun l:Nat=>(l≤ls.length)) (fun l:Nat=>(ls.length - l)) () ?_ 0 (Nat.zero_le _)
  intro l hl Z2 hZ2
  conv=>whnf
  refine ⟨?_⟩;conv=>whnf
  apply bc9<;>intro h6
  ·have hll:l < ls.length:=by have:=of_decide_eq_true h6; omega
   have hwl:=wrap_nat (n:=l) (by omega)
   have b2:=ctR_le (ls:=ls) (cs:=cs) (A:=A) c l
   have hix:l < cs[c].2.length:=by omega
   have hg:=getD_at (d:=lf0) hll
   have hk:hasI cs c l=cs[c].2[l]:=by unfold hasI; rw [getD_at hlc,getD_at hix]
   have hmt:=(hV.lf hll).2.1
   have hwn:IntKind.i64.wrap (((ctU ls cs A c+ctR ls cs A c l:Nat):Int)+1)=((ctU ls cs A c+ctR ls cs A c l+1:Nat):Int):=wrap_nat (by omega)
   conv=>whnf
   refine ⟨?_⟩;conv=>whnf
   refine ⟨_,getI_nat hll,?_⟩;conv=>whnf
   refine ⟨?_⟩;conv=>whnf
   apply bc9<;>intro g9_3
   ·have g3:(ls.getD l lf0).2.1 > (l:Int):=by rw [hg]; exact of_decide_eq_true g9_3
    obtain ⟨m0,hmx⟩:∃ m0:Nat,ls[l].2.1=(m0:Int):=⟨ls[l].2.1.toNat,by rw [hg] at g3; omega⟩
    have hm0:m0 < ls.length:=by omega
    have hmi:m0 < cs[c].2.length:=by omega
    have hmg:(ls.getD l lf0).2.1.toNat=m0:=by rw [hg,hmx]; rfl
    have hk2:hasI cs c m0=cs[c].2[m0]:=by unfold hasI; rw [getD_at hlc,getD_at hmi]
    conv=>whnf
    refine ⟨_,getI_nat hlc,?_⟩;conv=>whnf
    refine ⟨_,getI_nat hix,?_⟩;conv=>whnf
    apply bc9<;>intro g9_15
    ·have g15:hasI cs c l > 0:=by rw [hk]; exact of_decide_eq_true g9_15
     conv=>whnf
     refine ⟨_,getI_nat hlc,?_⟩;conv=>whnf
     refine ⟨_,getI_at2 hmx hmi,?_⟩;conv=>whnf
     apply bc9<;>intro g9_27
     ·have g27:hasI cs c m0 > 0:=by rw [hk2]; exact of_decide_eq_true g9_27
      have hrl:∀ x,x < ls.length→∀ i,i < A.length→x < (A.getD i []).length:=fun x hx i hi=>by rw [hR.row i (by have:=hR.len; omega)]; exact hx
      have h120:=c120 gl A (by have:=hR.len; have:=hV.m4; omega) (c:Int) m0 (hrl m0 hm0)
      rw [←hmx] at h120
      have hctb:ctB ls cs A c l=(wheI A c l A.length != wheI A c m0 A.length):=by unfold ctB; rw [hmg,decide_eq_true g3,decide_eq_true g15,decide_eq_true g27]; rfl
      conv=>whnf
      refine byC (c120 gl A (by have:=hR.len; have:=hV.m4; omega) (c:Int) l (hrl l hll)) op120 ?_;conv=>whnf
      refine byC h120 op120 ?_;conv=>whnf
      apply bc9<;>intro h9
      ·have h9t:(wheI A c l A.length != wheI A c m0 A.length)=true:=h9
       have hm:ctR ls cs A c (l+1)=ctR ls cs A c l+1:=by simp only [ctR]; rw [hctb,if_pos h9t]
       conv=>whnf
       refine ⟨?_⟩;conv=>whnf
       refine ⟨?_⟩;conv=>whnf
       refine ⟨⟨230,[],[]⟩,?_⟩;conv=>whnf
       rw [hwl,hwn]
       have hz:=hZ2 (l+1) hll (by omega)
       rw [hm,←Nat.add_assoc] at hz
       exact hz
      have h9t:(wheI A c l A.length != wheI A c m0 A.length)=false:=h9
      have hm:ctR ls cs A c (l+1)=ctR ls cs A c l:=by simp only [ctR]; rw [hctb,h9t]; rfl
      conv=>whnf
      refine ⟨?_⟩;conv=>whnf
      refine ⟨⟨230,[],[]⟩,?_⟩;conv=>whnf
      rw [hwl]
      have hz:=hZ2 (l+1) hll (by omega)
      rw [hm] at hz
      exact hz
     have g27:¬ hasI cs c m0 > 0:=by rw [hk2]; exact of_decide_eq_false g9_27
     have hb:ctB ls cs A c l=false:=by unfold ctB; rw [hmg,decide_eq_true g3,decide_eq_true g15,decide_eq_false g27]; rfl
     have hm:ctR ls cs A c (l+1)=ctR ls cs A c l:=by simp only [ctR]; rw [hb]; rfl
     conv=>whnf
     refine ⟨?_⟩;conv=>whnf
     refine ⟨⟨230,[],[]⟩,?_⟩;conv=>whnf
     rw [hwl]
     have hz:=hZ2 (l+1) hll (by omega)
     rw [hm] at hz
     exact hz
    have g15:¬ hasI cs c l > 0:=by rw [hk]; exact of_decide_eq_false g9_15
    have hb:ctB ls cs A c l=false:=by unfold ctB; rw [decide_eq_true g3,decide_eq_false g15]; rfl
    have hm:ctR ls cs A c (l+1)=ctR ls cs A c l:=by simp only [ctR]; rw [hb]; rfl
    conv=>whnf
    refine ⟨?_⟩;conv=>whnf
    refine ⟨⟨230,[],[]⟩,?_⟩;conv=>whnf
    rw [hwl]
    have hz:=hZ2 (l+1) hll (by omega)
    rw [hm] at hz
    exact hz
   have g3:¬ (ls.getD l lf0).2.1 > (l:Int):=by rw [hg]; exact of_decide_eq_false g9_3
   have hb:ctB ls cs A c l=false:=by unfold ctB; rw [decide_eq_false g3]; rfl
   have hm:ctR ls cs A c (l+1)=ctR ls cs A c l:=by simp only [ctR]; rw [hb]; rfl
   conv=>whnf
   refine ⟨?_⟩;conv=>whnf
   refine ⟨⟨230,[],[]⟩,?_⟩;conv=>whnf
   rw [hwl]
   have hz:=hZ2 (l+1) hll (by omega)
   rw [hm] at hz
   exact hz
  have hgl:l=ls.length:=by have:=of_decide_eq_false h6; omega
  conv=>whnf
  refine ⟨?_⟩;conv=>whnf
  refine ⟨⟨102,[],[]⟩,?_⟩;conv=>whnf
  rw [hwc,hgl]
  exact hZ1 (c+1) hlA (by omega)
 have hgc:c=A.length:=by have:=of_decide_eq_false h3; omega
 conv=>whnf
 refine ⟨?_⟩;conv=>whnf
 rw [hgc,hR.len]
theorem op50:Opens PR 50:=⟨_,Tryd.func50,rfl,rfl⟩
theorem bef_at:∀ {i:Nat} {a b:List Int} (hi:i < a.length) (hj:i < b.length),a.take i=b.take i→a[i]≠b[i]→befL a b=decide (a[i] < b[i])
 | 0,x :: a,y :: b,_,_,_,hn=>by
  show (if x=y then befL a b else decide (x < y))=_
  have hn:x≠y:=hn
  rw [if_neg hn]; rfl
 | i+1,x :: a,y :: b,hi,hj,h,hn=>by
  simp only [List.take_succ_cons,List.cons.injEq] at h
  show (if x=y then befL a b else decide (x < y))=_
  rw [if_pos h.1]
  exact bef_at (i:=i) (by simpa using hi) (by simpa using hj) h.2 hn
theorem bef_end:∀ {i:Nat} {a b:List Int},(i=a.length∨i=b.length)→i≤a.length→i≤b.length→a.take i=b.take i→befL a b=decide (a.length < b.length)
 | 0,[],[],_,_,_,_=>rfl
 | 0,[],y :: b,_,_,_,_=>by show true=_; rw [decide_eq_true (by simp)]
 | 0,x :: a,[],_,_,_,_=>by show false=_; rw [decide_eq_false (by simp)]
 | 0,x :: a,y :: b,h,_,_,_=>by simp at h
 | i+1,[],b,h,h1,_,_=>by simp at h1
 | i+1,x :: a,[],h,_,h2,_=>by simp at h2
 | i+1,x :: a,y :: b,h,h1,h2,h3=>by
  simp only [List.take_succ_cons,List.cons.injEq] at h3
  show (if x=y then befL a b else decide (x < y))=_
  rw [if_pos h3.1,bef_end (i:=i) (by simpa using h) (by simpa using h1) (by simpa using h2) h3.2]
  simp
def befR:Tb→Tb→Bool
 | a :: A,b :: B=>if a=b then befR A B else befL a b
 | _,_=>false
theorem befR_at:∀ {i:Nat} {a b:Tb} (hi:i < a.length) (hj:i < b.length),a.take i=b.take i→a[i]≠b[i]→befR a b=befL a[i] b[i]
 | 0,x :: a,y :: b,_,_,_,hn=>by
  show (if x=y then befR a b else befL x y)=_
  have hn:x≠y:=hn
  rw [if_neg hn]; rfl
 | i+1,x :: a,y :: b,hi,hj,h,hn=>by
  simp only [List.take_succ_cons,List.cons.injEq] at h
  show (if x=y then befR a b else befL x y)=_
  rw [if_pos h.1]
  exact befR_at (i:=i) (by simpa using hi) (by simpa using hj) h.2 hn
theorem befR_end:∀ {a b:Tb},a.take a.length=b.take a.length→befR a b=false
 | [],_,_=>by cases ‹Tb› <;> rfl
 | x :: a,[],h=>by simp at h
 | x :: a,y :: b,h=>by
  simp only [List.length_cons,List.take_succ_cons,List.cons.injEq] at h
  show (if x=y then befR a b else befL x y)=_
  rw [if_pos h.1]; exact befR_end h.2
theorem take_up {α:Type} {a b:List α} {i:Nat} (hi:i < a.length) (hj:i < b.length) (h:a.take i=b.take i) (e:a[i]=b[i]):a.take (i+1)=b.take (i+1):=by
 rw [take_succ' hi,take_succ' hj,h,e]
theorem c97 (gl:Gl) (a b:List Int) (ha:a.length≤9223372036854775807):PCalls PR gl 97 [vL a,vL b] fun r=>r=vB (befL a b):=by
 refine fnW_sound (parH_ok gl) Tryd.func97 ?_;conv=>whnf
 refine ⟨?_⟩;conv=>whnf
 refine ⟨?_⟩;conv=>whnf
 refine ⟨⟨35,[],[]⟩,?_⟩
 refine LoopW_ind _ (fun i:Nat=>(({ tmps:=[vL a,vL b,J,J,J,vI i,J,J,J,J,J,J,J,J,J,J,J,J,J,J,J,J,J,J,J,J,J,J,J,J,J,J,J,J,J,J,J,J,J,J,J],seg:=[],up:=[] }:St S))) (fun i:Nat=>(i≤a.length∧i≤b.length∧a.take i=b.take i)) (fun i:Nat=>(a.length - i)) () ?_ 0 ⟨Nat.zero_le _,Nat.zero_le _,rfl⟩
 intro i hinv Z1 hZ1
 obtain ⟨hi,hj,he⟩:=hinv
 conv=>whnf
 refine ⟨?_⟩;conv=>whnf
 apply bc9<;>intro g2_4
 ·have hla:i < a.length:=by have:=of_decide_eq_true g2_4; omega
  have hw:=wrap_nat (n:=i) (by omega)
  conv=>whnf
  apply bc9<;>intro h2
  ·have hlb:i < b.length:=by have:=of_decide_eq_true h2; omega
   conv=>whnf
   refine ⟨[0,1,2,3,4,5,6,7,8],[],[],[],⟨2199023255551,[],[]⟩,by decide +kernel,?_⟩;conv=>whnf
   refine ⟨_,getI_nat hla,?_⟩;conv=>whnf
   refine ⟨_,getI_nat hlb,?_⟩;conv=>whnf
   apply bc9<;>intro h4
   ·have h4:a[i]≠b[i]:=by have h:(a[i] != b[i])=true:=h4; simpa using h
    conv=>whnf
    refine ⟨[0,1,2,3,4,5,6,7,8,9],[],[],[],⟨2199023255551,[],[]⟩,by decide +kernel,?_⟩;conv=>whnf
    refine ⟨_,getI_nat hla,?_⟩;conv=>whnf
    refine ⟨_,getI_nat hlb,?_⟩;conv=>whnf
    exact congrArg vB (bef_at hla hlb he h4).symm
   have h4:a[i]=b[i]:=by have h:(a[i] != b[i])=false:=h4; simpa using h
   conv=>whnf
   refine ⟨?_⟩;conv=>whnf
   refine ⟨⟨35,[],[]⟩,?_⟩;conv=>whnf
   rw [hw]
   exact hZ1 (i+1) ⟨hla,hlb,take_up hla hlb he h4⟩ (by omega)
  have hgb:i=b.length:=by have:=of_decide_eq_false h2; omega
  conv=>whnf
  refine ⟨?_⟩;conv=>whnf
  rw [bef_end (.inr hgb) hi hj he]
  exact congrArg vB (decide_eq_decide.2 (by omega))
 have hga:i=a.length:=by have:=of_decide_eq_false g2_4; omega
 conv=>whnf
 refine ⟨?_⟩;conv=>whnf
 rw [bef_end (.inl hga) hi hj he]
 exact congrArg vB (decide_eq_decide.2 (by omega))
theorem op97:Opens PR 97:=⟨_,Tryd.func97,rfl,rfl⟩
theorem c98 (gl:Gl) (A B:List (List Int)) (hA:A.length≤1000) (hB:A.length≤B.length) (hx:∀ r∈A,r.length≤1000):PCalls PR gl 98 [intsV A,intsV B] fun r=>r=vB (befR A B):=by
 refine fnW_sound (parH_ok gl) Tryd.func98 ?_;conv=>whnf
 refine ⟨?_⟩;conv=>whnf
 refine ⟨?_⟩;conv=>whnf
 refine ⟨⟨35,[],[]⟩,?_⟩
 refine LoopW_ind _ (fun i:Nat=>(({ tmps:=[intsV A,intsV B,J,J,J,vI i,J,J,J,J,J,J,J,J,J,J,J,J,J,J,J,J,J,J,J,J,J,J,J,J,J],seg:=[],up:=[] }:St S))) (fun i:Nat=>(i≤A.length∧A.take i=B.take i)) (fun i:Nat=>(A.length - i)) () ?_ 0 ⟨Nat.zero_le _,rfl⟩
 intro i hinv Z1 hZ1
 obtain ⟨hi,he⟩:=hinv
 conv=>whnf
 refine ⟨?_⟩;conv=>whnf
 apply bc9<;>intro h2
 ·have hla:i < A.length:=by have:=of_decide_eq_true h2; omega
  have hw:=wrap_nat (n:=i) (by omega)
  have hlb:i < B.length:=by omega
  conv=>whnf
  refine ⟨[0,1,2,3,4,5,6,7,8,9],[],[],[],⟨2147483647,[],[]⟩,by decide +kernel,?_⟩;conv=>whnf
  refine ⟨_,getI_nat hla,?_⟩;conv=>whnf
  refine ⟨_,getI_nat hlb,?_⟩;conv=>whnf
  refine byC (c20 gl A[i] B[i] (Nat.le_trans (hx _ (List.getElem_mem hla)) (by decide))) op20 ?_;conv=>whnf
  apply bc9<;>intro h4
  ·have h4:A[i]≠B[i]:=by have h:(!decide (A[i]=B[i]))=true:=h4; simpa using h
   conv=>whnf
   refine ⟨[0,1,2,3,4,5,6,7,8,9],[],[],[],⟨2147483647,[],[]⟩,by decide +kernel,?_⟩;conv=>whnf
   refine ⟨_,getI_nat hla,?_⟩;conv=>whnf
   refine ⟨_,getI_nat hlb,?_⟩;conv=>whnf
   refine byC (c97 gl A[i] B[i] (Nat.le_trans (hx _ (List.getElem_mem hla)) (by decide))) op97 ?_;conv=>whnf
   rw [befR_at hla hlb he h4]
  have h4:A[i]=B[i]:=by have h:(!decide (A[i]=B[i]))=false:=h4; simpa using h
  conv=>whnf
  refine ⟨?_⟩;conv=>whnf
  refine ⟨⟨35,[],[]⟩,?_⟩;conv=>whnf
  rw [hw]
  exact hZ1 (i+1) ⟨hla,take_up hla hlb he h4⟩ (by omega)
 have hge:i=A.length:=by have:=of_decide_eq_false h2; omega
 conv=>whnf
 refine ⟨?_⟩;conv=>whnf
 rw [befR_end (by rw [←hge]; exact he)]
theorem op98:Opens PR 98:=⟨_,Tryd.func98,rfl,rfl⟩
theorem c96 (gl:Gl) (p:Int) (ls:List Lf) (cs:List Cp) (hV:Valid p ls cs):PCalls PR gl 96 [.agg [vI p,lfsV ls,cpsV cs]] fun r=>r=intsV (List.replicate cs.length (List.replicate ls.length (-1))):=by
 have hm4:=hV.m4
 have hn6:=hV.n6
 refine fnW_sound (parH_ok gl) Tryd.func96 ?_;conv=>whnf
 refine ⟨?_⟩;conv=>whnf
 refine ⟨?_⟩;conv=>whnf
 refine ⟨?_⟩;conv=>whnf
 refine loop_q fun Q1 hQ1=>?_
 refine ⟨⟨26,[2],[2,3]⟩,?_⟩
 refine LoopW_ind _ (fun c:Nat=>(({ tmps:=[J,.own 1 [],J,.sl (S:=S) U.ints (List.replicate c (List.replicate ls.length (-1))) (some 3),vI c,J,J,J,J,J,J,J,J,J,J,J,J,J,J,J,J,J,J,J,J,J,J,J,J],seg:=[(1,.cells [vI p,lfsV ls,cpsV cs]),(3,.row U.ints false)],up:=[] }:St S))) (fun c:Nat=>(c≤cs.length)) (fun c:Nat=>(cs.length - c)) () ?_ 0 (Nat.zero_le _)
 intro c hc Z1 hZ1
 conv=>whnf
 refine ⟨?_⟩;conv=>whnf
 apply bc9<;>intro h3
 ·have hlc:c < cs.length:=by have:=of_decide_eq_true h3; omega
  have hwc:=wrap_nat (n:=c) (by omega)
  conv=>whnf
  refine ⟨?_⟩;conv=>whnf
  refine ⟨?_⟩;conv=>whnf
  refine ⟨⟨122,[],[5]⟩,?_⟩
  refine LoopW_ind _ (fun l:Nat=>(({ tmps:=[J,.own 1 [],J,.sl (S:=S) U.ints (List.replicate c (List.replicate ls.length (-1))) (some 3),vI c,.sl (S:=S) U.int (List.replicate l (-1)) (some 5),vI l,J,J,J,J,J,J,J,J,J,J,J,J,J,J,J,J,J,J,J,J,J,J],seg:=[(1,.cells [vI p,lfsV ls,cpsV cs]),(3,.row U.ints false),(5,.row U.int false)],up:=[] }:St S))) (fun l:Nat=>(l≤ls.length)) (fun l:Nat=>(ls.length - l)) () ?_ 0 (Nat.zero_le _)
  intro l hl Z2 hZ2
  conv=>whnf
  refine ⟨?_⟩;conv=>whnf
  apply bc9<;>intro h7
  ·have hll:l < ls.length:=by have:=of_decide_eq_true h7; omega
   have hwl:=wrap_nat (n:=l) (by omega)
   conv=>whnf
   refine ⟨?_⟩;conv=>whnf
   refine ⟨_,rfl,?_⟩;conv=>whnf
   refine ⟨lim (by show (List.replicate l (-1:Int)).length+1≤_; rw [List.length_replicate]; omega),?_⟩;conv=>whnf
   refine ⟨?_⟩;conv=>whnf
   refine ⟨⟨122,[22,23],[]⟩,?_⟩;conv=>whnf
   rw [hwl]
   have hz:=hZ2 (l+1) hll (by omega)
   rw [List.replicate_succ'] at hz
   exact hz
  have hgl:l=ls.length:=by have:=of_decide_eq_false h7; omega
  conv=>whnf
  refine ⟨?_⟩;conv=>whnf
  refine ⟨_,rfl,?_⟩;conv=>whnf
  refine ⟨lim (by show (List.replicate c (List.replicate ls.length (-1:Int))).length+1≤_; rw [List.length_replicate]; omega),?_⟩;conv=>whnf
  refine ⟨?_⟩;conv=>whnf
  refine ⟨⟨26,[5,22,23,26,27,900005],[]⟩,?_⟩;conv=>whnf
  rw [hwc,hgl]
  have hz:=hZ1 (c+1) hlc (by omega)
  rw [List.replicate_succ' (n:=c)] at hz
  exact hz
 have hgc:c=cs.length:=by have:=of_decide_eq_false h3; omega
 conv=>whnf
 refine (hQ1 _ _ _).mpr ?_;conv=>whnf
 refine ⟨?_⟩;conv=>whnf
 rw [hgc]
theorem op96:Opens PR 96:=⟨_,Tryd.func96,rfl,rfl⟩
section
variable {w:World} {ρ:Operand→Value} {g:Option (Nat×Bool)} {ds:Option Nat} {t:Nat} {ps:String} {af:Array Edge}
theorem rMoveV {x:Operand} {v:Value} (h:ρ x=v):(execOp ρ ⟨ds,.move x,t,ps,af,g⟩).run PR w=.ok (.value v) w:=by
 simp [execOp,pure,h]
theorem rAssign {x:Operand} {v:Value} (h:ρ x=v):(execOp ρ ⟨ds,.assign x,t,ps,af,g⟩).run PR w=.ok (.value v) w:=by
 simp [execOp,pure,h]
theorem rLen {x:Operand} {b:Option Addr} {n c:Nat} (h:ρ x=.slice b n c):(execOp ρ ⟨ds,.call { callee:=.builtin .len,args:=#[x],argTypes:=#[41] },3,ps,af,g⟩).run PR w=.ok (.value (.int .i64 n)) w:=by
 simp [go_sem,h]
theorem rLss {x y:Operand} {a b:Int} (h:ρ x=.int .i64 a) (h':ρ y=.int .i64 b):(execOp ρ ⟨ds,.binOp .lss 3 x y 3,4,ps,af,g⟩).run PR w=.ok (.value (.bool (decide (a < b)))) w:=by
 simp [execOp,go_sem,h,h']
theorem rAdd {x y:Operand} {a b:Int} (h:ρ x=.int .i64 a) (h':ρ y=.int .i64 b):(execOp ρ ⟨ds,.binOp .add 3 x y 3,3,ps,af,g⟩).run PR w=.ok (.value (.int .i64 (IntKind.i64.wrap (a+b)))) w:=by
 simp [execOp,go_sem,h,h']
theorem rBuild0:(execOp ρ ⟨ds,.buildSlice 30 0 #[],30,ps,af,g⟩).run PR w=.ok (.value (.slice (some ⟨w.heap.size,0,none⟩) 0 0)) (w.alloc (.cells #[] 3)):=by
 simp [go_sem,Instr.buildSlice,run_underlying Tryd.underlying30,Sem.run_bind,run_sizeOf i3,Instr.fill,Result.andThen,pure]
theorem rBuild1 {x:Operand} {b:Option Addr} {n c:Nat} (h:ρ x=.slice b n c):(execOp ρ ⟨ds,.buildSlice 41 1 #[(0,x)],41,ps,af,g⟩).run PR w=.ok (.value (.slice (some ⟨w.heap.size,0,none⟩) 1 1)) (w.alloc (.cells #[.slice b n c] 30)):=by
 simp [go_sem,h,Instr.buildSlice,run_underlying Tryd.underlying41,Sem.run_bind,run_sizeOf i30,show Tryd.t30.size=1 from rfl,Instr.fill,Result.andThen,pure]
theorem rIndex41 {x y:Operand} {b o n c i:Nat} (h:ρ x=.slice (some ⟨b,o,none⟩) n c) (h':ρ y=.int .i64 (i:Int)) (hi:i < n):(execOp ρ ⟨ds,.indexAddr 41 x y,0,ps,af,g⟩).run PR w=.ok (.value (.pointer (some ⟨b,o+i,none⟩))) w:=by
 simp [execOp,Instr.indexAt,h,h',Sem.run_bind,asIntOf,Pure.pure,Result.andThen,run_underlying Tryd.underlying41,hi,run_sizeOf i30,Addr.add_at,show Tryd.t30.size=1 from rfl]
theorem rIndex30 {x y:Operand} {b o n c i:Nat} (h:ρ x=.slice (some ⟨b,o,none⟩) n c) (h':ρ y=.int .i64 (i:Int)) (hi:i < n):(execOp ρ ⟨ds,.indexAddr 30 x y,0,ps,af,g⟩).run PR w=.ok (.value (.pointer (some ⟨b,o+i,none⟩))) w:=by
 simp [execOp,Instr.indexAt,h,h',Sem.run_bind,asIntOf,Pure.pure,Result.andThen,run_underlying Tryd.underlying30,hi,run_sizeOf i3,Addr.add_at,show Tryd.t3.size=1 from rfl]
theorem rLoad30 {x:Operand} {b o:Nat} {v:Value} (h:ρ x=.pointer (some ⟨b,o,none⟩)) (hc:w.cell? ⟨b,o,none⟩=some v):(execOp ρ ⟨ds,.load 30 x,30,ps,af,g⟩).run PR w=.ok (.value v) w:=by
 simp [go_sem,h,Instr.loadAt,run_underlying Tryd.underlying30,isAgg,hc,loadVar]
theorem rApp {x y:Operand} {v:Value} {w':World} {t:Nat} (h:(Builtin.append_ #[t,t] t #[ρ x,ρ y]).run PR w=.ok v w'):(execOp ρ ⟨ds,.call { callee:=.builtin .append,args:=#[x,y],argTypes:=#[t,t] },t,ps,af,g⟩).run PR w=.ok (.value v) w':=by
 have hex:∀ {s:Sem Value} {cs:Array Bool},builtin .append #[t,t] t cs (#[x,y].map ρ)=(do pure (Next.value (←s)):Sem Next)→s.run PR w=.ok v w'→(builtin .append #[t,t] t cs (#[x,y].map ρ)).run PR w=.ok (.value v) w':=fun {s cs} he hv=>by rw [he]; exact run_v hv
 simp only [execOp,resolve]
 have h:(Builtin.append_ #[t,t] t (#[x,y].map ρ)).run PR w=.ok v w':=by simpa using h
 show (builtin .append #[t,t] t (#[x,y].map fun | .const _=>true | _=>false) (#[x,y].map ρ)).run PR w=_
 exact hex (s:=Builtin.append_ #[t,t] t (#[x,y].map ρ)) rfl h
theorem rStore {x y:Operand} {b o:Nat} {k:Int} {c:Array Value} {el:TypeId} (h:ρ x=.pointer (some ⟨b,o,none⟩)) (h':ρ y=.int .i64 k) (hc:w.heap[b]?=some (.cells c el (0,0))) (ho:o < c.size) :
  (execOp ρ ⟨ds,.store 3 x y,t,ps,af,g⟩).run PR w=.ok .skip (putRow w b (c.setIfInBounds o (.int .i64 k)) el):=by
 have h1:=run_store (P:=PR) (v:=.int .i64 k) hc ho trivial
 have h2:=cell_of_heap hc o
 have h3:=frozen_of_heap hc o
 rw [show c[o]?=some c[o] by simp [ho]] at h2
 simp [go_sem,h2,h3] at h1
 simp [go_sem,h,h',h2,h3,h1]
end
structure AtS (n:Nat) (a:Act) (L:List (Nat×Value)):Prop where
 sz:a.tmps.size=n
 df:a.defers=[]
 ev:∀ p∈L,a.eval (.tmp p.1)=p.2
theorem AtS.put {n:Nat} {a:Act} {L:List (Nat×Value)} (h:AtS n a L) {d:Nat} (hd:d < n) (v:Value):AtS n (a.put (some d) v) ((d,v) :: L.filter fun p=>p.1 != d):=by
 have hsz:(a.put (some d) v).tmps.size=n:=by simp [Act.put,h.sz]
 have hev:∀ k,(a.put (some d) v).eval (.tmp k)=if d=k then v else a.eval (.tmp k):=fun k=>by
  simp only [Act.eval,Act.put,Array.getD_eq_getD_getElem?,Array.getElem?_setIfInBounds]
  by_cases e:d=k
  ·subst e; simp [h.sz,hd]
  simp [e]
 refine ⟨hsz,h.df,fun p hp=>?_⟩
 rw [hev]
 rcases List.mem_cons.1 hp with rfl | hp
 ·rw [if_pos rfl]
 obtain ⟨h1,h2⟩:=List.mem_filter.1 hp
 rw [if_neg (fun e=>by rw [e] at h2; simp at h2)]
 exact h.ev p h1
section
variable {N n:Nat} {ops:Array Oper} {Q:Exit→Act→World→Prop} {rest:List Oper} {a:Act} {w w':World} {L:List (Nat×Value)}
theorem stp {o:Oper} {d:Nat} {v:Value} (hA:AtS N a L) (ho:o.dst=some d) (hN:d < N) (hg:o.guard=none) (hd:∀ c,o.op≠.defer c) (hrun:(execOp a.eval o).run PR w=.ok (.value v) w')
  (hn:∀ a1,AtS N a1 ((d,v) :: L.filter fun p=>p.1 != d)→wpListIn (Fo none) n PR ops Q rest a1 w'):wpListIn (Fo none) n PR ops Q (o :: rest) a w :=
 wpListIn_plain hg fun K hK=>OpOK.value hd hrun (R:=fun v1 w1=>v1=v∧w1=w') ⟨rfl,rfl⟩ K Q fun v1 w1 ⟨e1,e2⟩=>by
  subst e1; subst e2; rw [ho]; exact hK _ _ (hn _ (hA.put hN v1))
theorem stpN {o:Oper} (ho:o.dst=none) (hg:o.guard=none) (hd:∀ c,o.op≠.defer c) (hrun:(execOp a.eval o).run PR w=.ok .skip w')
  (hn:wpListIn (Fo none) n PR ops Q rest a w'):wpListIn (Fo none) n PR ops Q (o :: rest) a w :=
 wpListIn_plain hg fun K hK=>OpOK.skip hd hrun (R:=fun _ w1=>w1=w') rfl K Q fun v1 w1 e2=>by
  subst e2; rw [ho]; exact hK _ _ hn
end
theorem sl_inv {w:World} {V:Nat→Nat→Prop} {l:Loc} {v:Value} {u:S.U} {xs:List (S.T u)} (h:Rep w V l v (.sl (S:=S) u xs none)):xs=[]∨∃ b o cap ws,v=.slice (some ⟨b,o,none⟩) xs.length cap ∧
  CellsAt w V b o ws∧Reps w V Loc.none ws (xs.flatMap (Cod.enc u))∧xs.length≤cap:=by
 unfold Rep at h
 generalize hvs:[v]=vs at h
 cases h with
 | flat h t=>exact .inl h.1
 | sl h r hcp t=>cases hvs; exact .inr ⟨_,_,_,_,rfl,h,r,hcp⟩
theorem ints_vals {w:World} {V:Nat→Nat→Prop} {l:Loc}:∀ {xs:List Int} {ws:List Value},Reps w V l ws (xs.flatMap (Cod.enc (S:=S) U.int))→ws=xs.map (Value.int .i64)
 | [],ws,h=>h.nil_inv
 | x :: xs,ws,h=>by
  obtain ⟨v,vs,rfl,h1,h2⟩:=Reps.head (c:=(.int .i64 x:AV S)) (cs:=xs.flatMap (Cod.enc (S:=S) U.int)) h trivial
  rw [h1.int,ints_vals h2]; rfl
theorem rows_vals {w:World} {V:Nat→Nat→Prop} {l:Loc} {A:Tb} {ws:List Value} (h:Reps w V l ws (A.flatMap (Cod.enc (S:=S) U.ints))) {i:Nat} (hi:i < A.length):∃ v,ws[i]?=some v∧Rep w V l v (vL A[i]):=by
 obtain ⟨va,vm,vb,rfl,hl,hr⟩:=h.elem (i:=i) (x:=A[i]) (by simp [hi])
 obtain ⟨v,vs,rfl,h1,h2⟩:=Reps.head (c:=(vL A[i]:AV S)) (cs:=[]) hr trivial
 obtain rfl:=h2.nil_inv
 have hl:va.length=i:=by rw [hl]; exact Nat.mul_one i
 exact ⟨v,by rw [List.append_assoc,List.getElem?_append_right (by omega),hl,Nat.sub_self]; rfl,h1⟩
theorem rows_mk {w : World} {V:Nat→Nat→Prop}:∀ {A:Tb} {ws:List Value},ws.length=A.length→(∀ i,i < A.length→∃ v,ws[i]?=some v∧Rep w V Loc.none v (vL (A.getD i [])))→Reps w V Loc.none ws (A.flatMap (Cod.enc (S:=S) U.ints))
 | [], ws, hl, _ => by have:ws=[]:=by simpa using hl
                       rw [this]; exact .nil _
 | x :: A,[],hl,_=>by simp at hl
 | x :: A,v :: ws,hl,h=>by
  obtain ⟨v',e,h1⟩:=h 0 (by simp)
  simp only [List.getElem?_cons_zero,Option.some.injEq] at e
  subst e
  have h2:=rows_mk (A:=A) (ws:=ws) (by simpa using hl) fun i hi=>by
   have:=h (i+1) (by simp; omega)
   simpa using this
  exact Reps.append (va:=[v]) (a:=[vL x]) h1 h2
theorem ints_mk {w:World} {V:Nat→Nat→Prop}:∀ (xs:List Int),Reps w V Loc.none (xs.map (Value.int .i64)) (xs.flatMap (Cod.enc (S:=S) U.int))
 | []=>.nil _
 | x :: xs=>.flat (c:=.int .i64 x) rfl (ints_mk xs)
theorem alloc_sz (w:World) (o:Go.Obj):(w.alloc o).heap.size=w.heap.size+1:=by simp
theorem drew_sz (w:World):w.drew.heap.size=w.heap.size:=rfl
theorem Grow.drew' (w:World):Grow w w.drew:=⟨rfl,rfl,rfl,Nat.le_refl _,fun _ _=>rfl⟩
structure RowK (w w1:World) (A:Tb) (b:Nat) (bs cs:Nat→Nat) (co:Array Value) (k:Nat):Prop where
 val:co[k]?=some (.slice (some ⟨bs k,0,none⟩) (A.getD k []).length (cs k))
 new:w.heap.size≤bs k
 lt:bs k < w1.heap.size
 ne:bs k≠b
 cap:(A.getD k []).length≤cs k
 cells:∃ ck ek,w1.heap[bs k]?=some (.cells ck ek (0,0))∧∀ j,j < (A.getD k []).length→ck[j]?=some (.int .i64 ((A.getD k []).getD j 0))
structure Gi (w:World) (A:Tb) (i:Nat) (o:Value) (w1:World):Prop where
 grow:Grow w w1
 out:(i=0∧o=.slice none 0 0)∨∃ (b cap:Nat) (co:Array Value) (el:TypeId) (bs cs:Nat→Nat),o=.slice (some ⟨b,0,none⟩) i cap∧(w.heap.size≤b∧w1.heap[b]?=some (.cells co el (0,0))∧i≤cap∧cap≤co.size) ∧
  (∀ k,k < i→RowK w w1 A b bs cs co k)∧∀ k k',k < i→k' < i→bs k=bs k'→k=k'
theorem gi_step {w:World} {A:Tb} {i:Nat} {o:Value} {w1:World} (h:Gi w A i o w1) {V:Nat→Nat→Prop} (hlt:∀ b o,V b o→b < w.heap.size) (hi:i < A.length) (hA:A.length≤1000) {rb ro rc:Nat}
  (hn:1≤(A.getD i []).length∧(A.getD i []).length≤1000) (hcells:CellsAt w V rb ro ((A.getD i []).map (Value.int .i64))) :
  ∃ v w3,(Builtin.append_ #[30,30] 30 #[.slice (some ⟨w1.heap.size,0,none⟩) 0 0,.slice (some ⟨rb,ro,none⟩) (A.getD i []).length rc]).run PR (w1.alloc (.cells #[] 3))=.ok v w3∧(∃ b n c,v=.slice b n c) ∧
  ∃ o' w5,(Builtin.append_ #[41,41] 41 #[o,.slice (some ⟨w3.heap.size,0,none⟩) 1 1]).run PR (w3.alloc (.cells #[v] 30))=.ok o' w5∧Gi w A (i+1) o' w5:=by
 obtain ⟨e1,i1,z1,hty1,hs1⟩:=append_ty (S:=S) k30 k30 rfl rfl
 obtain ⟨e2,i2,z2,hty2,hs2⟩:=append_ty (S:=S) k41 k41 rfl rfl
 have hs1:i1.size=1:=hs1
 have hs2:i2.size=1:=hs2
 have g2:Grow w (w1.alloc (.cells #[] 3)):=h.grow.trans (Grow.alloc _ _)
 obtain ⟨nc,tail,hnc,htl,hrun1⟩:=run_append_grows (P:=PR) (w:=w1.alloc (.cells #[] 3)) hty1 (base:=some ⟨w1.heap.size,0,none⟩) (n:=0) (cap:=0) (m:=(A.getD i []).length) (mcap:=rc) (xb:=some ⟨rb,ro,none⟩) (xs:=[]) (ys:=(A.getD i []).map (Value.int .i64)) (type:=30) (rest:=[]) (by omega)
  (Nat.le_trans (show 0+(A.getD i []).length≤1000000000 by omega) (by decide))
  (run_more (by rw [List.length_map,hs1,Nat.mul_one]) (.inr ⟨rb,ro,rfl,fun k v hk=>by
   have:=hcells k v hk
   rw [←this.2]
   exact eye_cell (cell_congr (g2.block _ (hlt _ _ this.1)) _)⟩))
  (fun w' _=>run_firstCells' (by rw [Nat.zero_mul]; rfl) (.inr (.inl ⟨rfl,_,rfl⟩)))
 obtain ⟨w3,hw3⟩:∃ w3,w3=(w1.alloc (.cells #[] 3)).drew.alloc (.cells (([]:List Value)++(A.getD i []).map (Value.int .i64)++tail).toArray e1):=⟨_,rfl⟩
 rw [←hw3] at hrun1
 refine ⟨_,w3,hrun1,⟨_,_,_,rfl⟩,?_⟩
 have hb1:(w1.alloc (.cells #[] 3)).heap.size=w1.heap.size+1:=alloc_sz _ _
 have g13:Grow w1 w3:=by rw [hw3]; exact (Grow.alloc _ _).trans ((Grow.drew' _).trans (Grow.alloc _ _))
 have hz3:w3.heap.size=w1.heap.size+2:=by rw [hw3,alloc_sz,drew_sz,alloc_sz]
 have hnew:w3.heap[w1.heap.size+1]?=some (.cells (([]:List Value)++(A.getD i []).map (Value.int .i64)++tail).toArray e1 (0,0)):=by
  rw [hw3,←hb1]; exact heap_alloc_new _ _
 obtain ⟨w4,hw4⟩:∃ w4,w4=w3.alloc (.cells #[.slice (some ⟨(w1.alloc (.cells #[] 3)).heap.size,0,none⟩) (0+(A.getD i []).length) nc] 30):=⟨_,rfl⟩
 rw [←hw4]
 rw [hb1] at hw4
 have g34:Grow w3 w4:=by rw [hw4]; exact Grow.alloc _ _
 have hz4:w4.heap.size=w1.heap.size+3:=by rw [hw4,alloc_sz,hz3]
 have hone:w4.heap[w3.heap.size]?=some (.cells #[.slice (some ⟨w1.heap.size+1,0,none⟩) (0+(A.getD i []).length) nc] 30 (0,0)):=by rw [hw4]; exact heap_alloc_new _ _
 have g14:=g13.trans g34
 have hys:=run_more (P:=PR) (w:=w4) (size:=i2.size) (m:=1) (mcap:=1) (xb:=some ⟨w3.heap.size,0,none⟩) (ws:=[.slice (some ⟨w1.heap.size+1,0,none⟩) (0+(A.getD i []).length) nc]) (by rw [hs2]; rfl) (.inr ⟨_,_,rfl,fun k v hk=>by
  cases k with
  | zero=>rw [cell_of_heap hone]; simpa using hk
  | succ k=>simp at hk⟩)
 have hnew4:w4.heap[w1.heap.size+1]?=some (.cells (([]:List Value)++(A.getD i []).map (Value.int .i64)++tail).toArray e1 (0,0)):=(g34.block _ (by omega)).trans hnew
 have hg:=h.grow.size
 have fin:∀ (w5:World) (b' cap':Nat) (co':Array Value) (el':TypeId) (bs cs:Nat→Nat) (b0:Nat) (co0:Array Value),Grow w w5→w.heap.size≤b'→w5.heap[b']?=some (.cells co' el' (0,0))→i+1≤cap'→cap'≤co'.size →
   (∀ k,k < i→RowK w w1 A b0 bs cs co0 k)→(∀ k k',k < i→k' < i→bs k=bs k'→k=k')→(∀ k,k < i→co'[k]?=co0[k]?)→co'[i]?=some (.slice (some ⟨w1.heap.size+1,0,none⟩) (0+(A.getD i []).length) nc) →
   (∀ j,j < w4.heap.size→j≠b'→w5.heap[j]?=w4.heap[j]?)→(b' < w1.heap.size∧b'=b0∨w4.heap.size≤b')→w4.heap.size≤w5.heap.size→Gi w A (i+1) (.slice (some ⟨b',0,none⟩) (i+1) cap') w5:=by
  intro w5 b' cap' co' el' bs cs b0 co0 f1 f2 f3 f4 f5 f6 f7 f8 f9 f10 f11 f12
  refine ⟨f1,.inr ⟨b',cap',co',el',fun k=>if k=i then w1.heap.size+1 else bs k,fun k=>if k=i then nc else cs k,rfl,⟨f2,f3,f4,f5⟩,fun k hk=>?_,fun k k' hk hk' he=>?_⟩⟩
  ·by_cases hki:k=i
   ·subst hki
    refine ⟨?_,?_,?_,?_,?_,?_⟩
    ·rw [if_pos rfl,if_pos rfl,f9,Nat.zero_add]
    ·rw [if_pos rfl]; omega
    ·rw [if_pos rfl]; omega
    ·rw [if_pos rfl]; omega
    ·rw [if_pos rfl]; omega
    rw [if_pos rfl]
    refine ⟨_,_,(f10 _ (by omega) (by omega)).trans hnew4,fun j hj=>?_⟩
    have hj2:j < ((A.getD k []).map (Value.int .i64)).length:=by rw [List.length_map]; exact hj
    rw [List.nil_append,List.getElem?_toArray,List.getElem?_append_left hj2,List.getElem?_map,List.getD_eq_getElem?_getD (l:=A.getD k [])]
    rw [List.getElem?_eq_getElem hj]; rfl
   have hk':k < i:=by omega
   have r:=f6 k hk'
   refine ⟨?_,?_,?_,?_,?_,?_⟩
   ·rw [if_neg hki,if_neg hki,f8 k hk']; exact r.val
   ·rw [if_neg hki]; exact r.new
   ·rw [if_neg hki]; have:=r.lt; omega
   ·rw [if_neg hki]; have:=r.lt; have:=r.ne; omega
   ·rw [if_neg hki]; exact r.cap
   rw [if_neg hki]
   obtain ⟨ck,ek,h1,h2⟩:=r.cells
   have h3:=r.lt
   have h4:=r.ne
   exact ⟨ck,ek,(f10 _ (by omega) (by omega)).trans ((g14.block _ h3).trans h1),h2⟩
  by_cases hki:k=i
  ·by_cases hki':k'=i
   ·omega
   simp only [if_pos hki,if_neg hki'] at he
   have:=(f6 k' (by omega)).lt
   omega
  by_cases hki':k'=i
  ·simp only [if_neg hki,if_pos hki'] at he
   have:=(f6 k (by omega)).lt
   omega
  simp only [if_neg hki,if_neg hki'] at he
  exact f7 k k' (by omega) (by omega) he
 have grown:∀ (base:Option Addr) (cap:Nat) (xs:List Value) (bs cs:Nat→Nat) (b0:Nat) (co0:Array Value),cap < i+1→xs.length=i→(∀ w':World,(∀ k:Nat,w'.heap[k]?=w4.heap[k]?)→(Builtin.firstCells i2.size i (.slice base i cap)).run PR w'=.ok xs.toArray w') →
   (∀ k,k < i→RowK w w1 A b0 bs cs co0 k)→(∀ k k',k < i→k' < i→bs k=bs k'→k=k')→(∀ k,k < i→xs[k]?=co0[k]?) →
   ∃ o' w5,(Builtin.append_ #[41,41] 41 #[.slice base i cap,.slice (some ⟨w3.heap.size,0,none⟩) 1 1]).run PR w4=.ok o' w5∧Gi w A (i+1) o' w5:=by
  intro base cap xs bs cs b0 co0 q1 q2 q3 q4 q5 q6
  obtain ⟨nc2,tail2,hnc2,htl2,hrun2⟩:=run_append_grows (P:=PR) (w:=w4) hty2 (base:=base) (n:=i) (cap:=cap) (m:=1) (mcap:=1) (xb:=some ⟨w3.heap.size,0,none⟩) (xs:=xs) (type:=41) (rest:=[]) q1
   (Nat.le_trans (show i+1≤1000000000 by omega) (by decide)) hys q3
  refine ⟨_,_,hrun2,?_⟩
  have hsz:(w4.drew.alloc (.cells (xs++[.slice (some ⟨w1.heap.size+1,0,none⟩) (0+(A.getD i []).length) nc]++tail2:List Value).toArray e2)).heap.size=w4.heap.size+1:=by rw [alloc_sz,drew_sz]
  have gg:Grow w4 (w4.drew.alloc (.cells (xs++[.slice (some ⟨w1.heap.size+1,0,none⟩) (0+(A.getD i []).length) nc]++tail2:List Value).toArray e2)):=(Grow.drew' _).trans (Grow.alloc _ _)
  refine fin _ _ _ _ _ bs cs b0 co0 (h.grow.trans (g14.trans gg)) (by omega) (heap_alloc_new _ _) hnc2 ?_ q4 q5 (fun k hk=>?_) ?_ (fun j hj hne=>gg.block _ hj) (.inr (Nat.le_refl _)) (by rw [hsz]; omega)
  ·rw [List.size_toArray,List.length_append,List.length_append,htl2,hs2,q2]; simp; omega
  ·rw [List.getElem?_toArray,List.append_assoc,List.getElem?_append_left (by omega),q6 k hk]
  rw [List.getElem?_toArray,List.append_assoc,List.getElem?_append_right (by omega),q2,Nat.sub_self]; rfl
 rcases h.out with ⟨h0,rfl⟩ | ⟨b,cap,co,el,bs,cs,rfl,⟨hb,hco,hic,hcc⟩,hrow,hinj⟩
 ·subst h0
  exact grown none 0 [] (fun _=>0) (fun _=>0) 0 #[] (by omega) rfl (fun w' _=>run_firstCells' (by rw [Nat.zero_mul]; rfl) (.inl ⟨rfl,rfl⟩)) (fun k hk=>by omega) (fun k k' hk=>by omega) (fun k hk=>by omega)
 have hbl:=lt_of_heap hco
 have hco4:w4.heap[b]?=some (.cells co el (0,0)):=(g14.block _ hbl).trans hco
 by_cases hroom:i+1≤cap
 ·have hrun2:=run_append_room (P:=PR) (w:=w4) hty2 (b:=b) (n:=i) (cap:=cap) (m:=1) (mcap:=1) (type:=41) (rest:=[]) hroom (hys w4 fun _=>rfl) hco4 (by rw [hs2,Nat.mul_one]; simp only [List.length_cons,List.length_nil]; omega) (fun v hv=>by rw [List.mem_singleton.1 hv]; trivial)
  refine ⟨_,_,hrun2,?_⟩
  rw [hs2,Nat.mul_one]
  have hh:∀ j,(putRow w4 b (lay co i [.slice (some ⟨w1.heap.size+1,0,none⟩) (0+(A.getD i []).length) nc]) el).heap[j]?=if j=b∧b < w4.heap.size then some (.cells (co.setIfInBounds i (.slice (some ⟨w1.heap.size+1,0,none⟩) (0+(A.getD i []).length) nc)) el (0,0)) else w4.heap[j]?:=fun j=>putRow_heap _ _ _ _ _
  refine fin _ _ _ (co.setIfInBounds i (.slice (some ⟨w1.heap.size+1,0,none⟩) (0+(A.getD i []).length) nc)) el bs cs b co ⟨?_,?_,?_,?_,fun j hj=>?_⟩ hb (by rw [hh,if_pos ⟨rfl,by omega⟩]) hroom (by simp; omega) hrow hinj (fun k hk=>?_) ?_ (fun j hj hne=>?_) (.inl ⟨hbl,rfl⟩) (by rw [putRow_size]; exact Nat.le_refl _)
  ·exact (h.grow.trans g14).os
  ·exact (h.grow.trans g14).tape
  ·exact (h.grow.trans g14).output
  ·rw [putRow_size]; exact (h.grow.trans g14).size
  ·rw [hh,if_neg (by omega)]; exact (h.grow.trans g14).block _ hj
  ·rw [Array.getElem?_setIfInBounds,if_neg (by omega)]
  ·rw [Array.getElem?_setIfInBounds,if_pos rfl,if_pos (by omega)]
  rw [hh,if_neg fun q=>hne q.1]
 refine grown _ cap (co.toList.take i) bs cs b co (by omega) (by rw [List.length_take,Array.length_toList]; omega) (fun w' hw'=>run_firstCells (by rw [hs2,Nat.mul_one,List.length_take,Array.length_toList]; omega) fun k v hk=>?_) hrow hinj (fun k hk=>?_)
 ·rw [Nat.zero_add,cell_of_heap ((hw' b).trans hco4)]
  rw [List.getElem?_take] at hk
  split at hk
  ·rwa [Array.getElem?_toList] at hk
  cases hk
 rw [List.getElem?_take,if_pos hk,Array.getElem?_toList]
theorem row_cells {w:World} {V:Nat→Nat→Prop} {A:Tb} {b o:Nat} {ws:List Value} (hat:CellsAt w V b o ws) (hr:Reps w V Loc.none ws (A.flatMap (Cod.enc (S:=S) U.ints))) (hpos:∀ i,i < A.length→1≤(A.getD i []).length) {i:Nat} (hi:i < A.length) :
  ∃ rb ro rc,(V b (o+i)∧w.cell? ⟨b,o+i,none⟩=some (.slice (some ⟨rb,ro,none⟩) (A.getD i []).length rc))∧CellsAt w V rb ro ((A.getD i []).map (Value.int .i64)):=by
 obtain ⟨v,h1,h2⟩:=rows_vals hr hi
 have hg:=getD_at (d:=([]:List Int)) hi
 rw [←hg] at h2
 have hp:=hpos i hi
 rcases sl_inv h2 with h0 | ⟨rb,ro,rc,ys,rfl,h3,h4,_⟩
 ·rw [h0] at hp; simp at hp
 rw [ints_vals h4] at h3
 exact ⟨rb,ro,rc,hat i _ h1,h3⟩
theorem gi_end {w:World} {A:Tb} {o:Value} {w1:World} (h:Gi w A A.length o w1) (V:Nat→Nat→Prop) {c l:Nat} (hc:c < A.length) (hl:l < (A.getD c []).length) (x:Int) :
  ∃ b cap rb rn rcap cr er,o=.slice (some ⟨b,0,none⟩) A.length cap∧w1.cell? ⟨b,c,none⟩=some (.slice (some ⟨rb,0,none⟩) rn rcap)∧l < rn∧w1.heap[rb]?=some (.cells cr er (0,0))∧l < cr.size ∧
   Grow w (putRow w1 rb (cr.setIfInBounds l (.int .i64 x)) er)∧Rep (putRow w1 rb (cr.setIfInBounds l (.int .i64 x)) er) (freshV V w (putRow w1 rb (cr.setIfInBounds l (.int .i64 x)) er)) Loc.none o (intsV (set2 A c l x)):=by
 rcases h.out with ⟨h0,_⟩ | ⟨b,cap,co,el,bs,cs,rfl,⟨hb,hco,hic,hcc⟩,hrow,hinj⟩
 ·omega
 have rc:=hrow c hc
 obtain ⟨cr,er,h1,h2⟩:=rc.cells
 have hlr:l < cr.size:=by
  have:=h2 l hl
  rw [Array.getElem?_eq_some_iff] at this
  exact this.1
 have hbl:=lt_of_heap hco
 have hrl:=rc.lt
 refine ⟨b,cap,bs c,_,cs c,cr,er,rfl,by rw [cell_of_heap hco]; exact rc.val,hl,h1,hlr,⟨h.grow.os,h.grow.tape,h.grow.output,by rw [putRow_size]; exact h.grow.size,fun j hj=>?_⟩,?_⟩
 ·rw [putRow_heap,if_neg]
  ·exact h.grow.block _ hj
  have:=rc.new; have hj:j < w.heap.size:=hj; omega
 obtain ⟨w2,hw2⟩:∃ w2,w2=putRow w1 (bs c) (cr.setIfInBounds l (.int .i64 x)) er:=⟨_,rfl⟩
 rw [←hw2]
 have hh:∀ j,w2.heap[j]?=if j=bs c then some (.cells (cr.setIfInBounds l (.int .i64 x)) er (0,0)) else w1.heap[j]?:=fun j=>by
  rw [hw2,putRow_heap]
  by_cases e:j=bs c
  ·rw [if_pos e,if_pos ⟨e,hrl⟩]
  rw [if_neg e,if_neg fun q=>e q.1]
 have hsz:w2.heap.size=w1.heap.size:=by rw [hw2,putRow_size]
 have hco2:w2.heap[b]?=some (.cells co el (0,0)):=by rw [hh,if_neg fun q=>rc.ne q.symm]; exact hco
 have hset:(set2 A c l x).length=A.length:=by unfold set2; rw [List.length_set]
 have hlen:(co.toList.take A.length).length=(set2 A c l x).length:=by rw [List.length_take,Array.length_toList (xs:=co),hset]; omega
 have hfresh:∀ j o,w.heap.size≤j→j < w1.heap.size→freshV V w w2 j o:=fun j o h3 h4=>.inr ⟨h3,by omega⟩
 have hcell:CellsAt w2 (freshV V w w2) b 0 (co.toList.take A.length):=fun k v hk=>by
  refine ⟨hfresh _ _ hb hbl,?_⟩
  rw [cell_of_heap hco2,Nat.zero_add]
  rw [List.getElem?_take] at hk
  split at hk
  ·rwa [Array.getElem?_toList] at hk
  cases hk
 have hreps:Reps w2 (freshV V w w2) Loc.none (co.toList.take A.length) ((set2 A c l x).flatMap (Cod.enc (S:=S) U.ints)):=by
  refine rows_mk hlen fun i hi=>?_
  rw [hset] at hi
  have r:=hrow i hi
  refine ⟨_,by rw [List.getElem?_take,if_pos hi,Array.getElem?_toList]; exact r.val,?_⟩
  obtain ⟨ci,ei,h3,h4⟩:=r.cells
  have hg:(set2 A c l x).getD i []=if i=c then (A.getD c []).set l x else A.getD i []:=by
   unfold set2
   rw [List.getD_eq_getElem?_getD,List.getElem?_set]
   by_cases e:c=i
   ·subst e; rw [if_pos rfl,if_pos rfl,if_pos hi]; rfl
   rw [if_neg e,if_neg fun q=>e q.symm,←List.getD_eq_getElem?_getD]
  have hgl:((set2 A c l x).getD i []).length=(A.getD i []).length:=by
   rw [hg]; split
   ·rename_i e; subst e; rw [List.length_set]
   rfl
  rw [←hgl]
  refine Reps.sl (ws:=((set2 A c l x).getD i []).map (Value.int .i64)) (fun k v hk=>?_) (ints_mk _) (by rw [hgl]; exact r.cap) (.nil _)
  rw [List.getElem?_map,Option.map_eq_some_iff] at hk
  obtain ⟨y,hy,rfl⟩:=hk
  have hkl:k < (A.getD i []).length:=by rw [←hgl]; exact (List.getElem?_eq_some_iff.1 hy).1
  refine ⟨hfresh _ _ r.new r.lt,?_⟩
  rw [Nat.zero_add]
  by_cases e:i=c
  ·subst e
   have h5:w2.heap[bs i]?=some (.cells (cr.setIfInBounds l (.int .i64 x)) er (0,0)):=by rw [hh,if_pos rfl]
   rw [cell_of_heap h5,Array.getElem?_setIfInBounds]
   rw [hg,if_pos rfl,List.getElem?_set] at hy
   by_cases e2:l=k
   ·subst e2
    rw [if_pos rfl,if_pos hkl] at hy
    rw [if_pos rfl,if_pos hlr]; cases hy; rfl
   rw [if_neg e2] at hy
   rw [if_neg e2,h2 k hkl,List.getD_eq_getElem?_getD (l:=A.getD i []),hy]; rfl
  have hne:bs i≠bs c:=fun q=>e (hinj i c hi hc q)
  have h5:w2.heap[bs i]?=some (.cells ci ei (0,0)):=by rw [hh,if_neg hne]; exact h3
  rw [hg,if_neg e] at hy
  rw [cell_of_heap h5,h4 k hkl,List.getD_eq_getElem?_getD (l:=A.getD i []),hy]; rfl
 have:=Reps.sl (S:=S) (u:=U.ints) (l:=Loc.none) (cap:=cap) hcell hreps (by rw [hset]; exact hic) (.nil _)
 rw [hset] at this
 exact this
theorem AtS.sub {n:Nat} {a:Act} {L L':List (Nat×Value)} (h:AtS n a L) (hs:∀ p∈L',p∈L):AtS n a L':=⟨h.sz,h.df,fun p hp=>h.ev p (hs p hp)⟩
theorem at_start (vs:List Value) {n:Nat} (hn:vs.length≤n) {L:List (Nat×Value)} (hL:∀ p∈L,vs[p.1]?=some p.2):AtS n { tmps:=vs.toArray++Array.replicate (n - vs.toArray.size) undef,defers:=[] } L:=by
 refine ⟨by simp; omega,rfl,fun p hp=>?_⟩
 have h:=hL p hp
 have hlt:=(List.getElem?_eq_some_iff.1 h).1
 simp only [Act.eval,Array.getD_eq_getD_getElem?]
 rw [Array.getElem?_append,if_pos (by simpa using hlt),List.getElem?_toArray,h]; rfl
theorem c137 (gl:Gl) (A:List (List Int)) (c l:Nat) (x:Int) (hA:A.length≤1000) (hrow:∀ i,i < A.length→1≤(A.getD i []).length∧(A.getD i []).length≤1000) (hc:c < A.length) (hl:l < (A.getD c []).length) :
  PCalls PR gl 137 [intsV A,vI c,vI l,vI x] fun r=>r=intsV (set2 A c l x):=by
 intro w V vs _ hlt hr
 obtain ⟨vp,vs1,rfl,hp,hr1⟩:=hr.head trivial
 obtain ⟨v1,vs2,rfl,h1,hr2⟩:=hr1.head trivial
 obtain ⟨v2,vs3,rfl,h2,hr3⟩:=hr2.head trivial
 obtain ⟨v3,vs4,rfl,h3,hr4⟩:=hr3.head trivial
 obtain rfl:=hr4.nil_inv
 obtain rfl:=h1.int
 obtain rfl:=h2.int
 obtain rfl:=h3.int
 rcases sl_inv hp with h0 | ⟨pb,po,pcap,ws,rfl,hat,hrw,hpc⟩
 ·rw [h0] at hc; simp at hc
 clear hr hr1 hr2 hr3 hr4 h1 h2 h3 hp
 refine (callsIn_wide (n:=0)).1 (callsIn_of_wp (F:=Fo none) Tryd.func137 rfl trivial ?_)
 obtain ⟨P,hP⟩:∃ P:Value,P=.slice (some ⟨pb,po,none⟩) A.length pcap:=⟨_,rfl⟩
 rw [←hP]
 have hA0:=at_start [P,.int .i64 c,.int .i64 l,.int .i64 x] (n:=34) (by simp) (L:=[(0,P),(1,.int .i64 c),(2,.int .i64 l),(3,.int .i64 x)])
  (fun p hp=>by simp only [List.mem_cons,List.not_mem_nil,or_false] at hp; rcases hp with rfl | rfl | rfl | rfl <;> rfl)
 rw [show Tryd.f137.ntmps=34 from rfl]
 generalize ({ tmps:=[P,.int .i64 c,.int .i64 l,.int .i64 x].toArray++Array.replicate (34 - [P,.int .i64 c,.int .i64 l,.int .i64 x].toArray.size) undef,defers:=[] }:Act)=a0 at hA0 ⊢
 refine wpIn_seq (wpIn_region_lit (stp hA0 rfl (by decide) rfl (by intro c h; cases h) (rAssign (v:=.slice none 0 0) rfl) fun a1 hA1=>?_))
 refine wpIn_seq (wpIn_region_lit (stp hA1 rfl (by decide) rfl (by intro c h; cases h) (rAssign (v:=.slice none 0 0) rfl) fun a2 hA2=>?_))
 refine wpIn_seq (wpIn_seq (wpIn_region_lit (stp hA2 rfl (by decide) rfl (by intro c h; cases h) (rAssign (v:=.int .i64 0) rfl) fun a3 hA3=>?_)))
 refine wpIn_block (wpIn_loop (fun a w1=>∃ i o,i≤A.length∧AtS 34 a [(0,P),(1,.int .i64 c),(2,.int .i64 l),(3,.int .i64 x),(9,o),(10,.int .i64 (i:Nat))]∧Gi w A i o w1) (fun a _=>A.length - (match a.eval (.tmp 10) with | .int _ n=>n.toNat | _=>0)) ?_ ?_)
 ·exact ⟨0,.slice none 0 0,Nat.zero_le _,hA3.sub (by simp),Keep.refl _ _,.inl ⟨rfl,rfl⟩⟩
 rintro a w1 ⟨i,o,hi,hAt,hG⟩
 have hAi:AtS 34 a [(0,P),(1,.int .i64 c),(2,.int .i64 l),(3,.int .i64 x),(9,o),(10,.int .i64 (i:Nat))]:=hAt
 refine wpIn_seq (wpIn_seq (wpIn_region_lit ?_))
 refine stp hAt rfl (by decide) rfl (by intro c h; cases h) (rMoveV (hAt.ev (10,.int .i64 (i:Nat)) (by simp))) fun b1 hB1=>?_
 refine stp hB1 rfl (by decide) rfl (by intro c h; cases h) (rMoveV (hB1.ev (0,P) (by simp))) fun b2 hB2=>?_
 refine stp hB2 rfl (by decide) rfl (by intro c h; cases h) (rLen (n:=A.length) ((hB2.ev (12,P) (by simp)).trans hP)) fun b3 hB3=>?_
 refine stp hB3 rfl (by decide) rfl (by intro c h; cases h) (rLss (hB3.ev (11,.int .i64 (i:Nat)) (by simp)) (hB3.ev (13,.int .i64 (A.length:Nat)) (by simp))) fun b4 hB4=>?_
 refine wpIn_cond_split (t:=decide ((i:Int) < (A.length:Int))) (hB4.ev (14,_) (List.mem_cons_self ..)) (fun ht=>?_) (fun ht=>?_)
 ·have hil:i < A.length:=by have:=of_decide_eq_true ht; omega
  have hr:=hrow i hil
  obtain ⟨rb,ro,rc,⟨hv1,hv2⟩,hcells⟩:=row_cells hat hrw (fun i hi=>(hrow i hi).1) hil
  obtain ⟨v,w3,hrun1,⟨vb,vn,vc,rfl⟩,o',w5,hrun2,hG'⟩:=gi_step (rc:=rc) hG hlt hil hA hr hcells
  refine wpIn_skip (wpIn_seq (wpIn_block (wpIn_region_lit ?_)))
  refine stp hB4 rfl (by decide) rfl (by intro c h; cases h) (rMoveV (hB4.ev (9,o) (by simp))) fun d1 hD1=>?_
  refine stp hD1 rfl (by decide) rfl (by intro c h; cases h) (rBuild0) fun d2 hD2=>?_
  refine stp hD2 rfl (by decide) rfl (by intro c h; cases h) (rMoveV (hD2.ev (0,P) (by simp))) fun d3 hD3=>?_
  refine stp hD3 rfl (by decide) rfl (by intro c h; cases h) (rMoveV (hD3.ev (10,.int .i64 (i:Nat)) (by simp))) fun d4 hD4=>?_
  refine stp hD4 rfl (by decide) rfl (by intro c h; cases h) (rIndex41 (i:=i) ((hD4.ev (19,P) (by simp)).trans hP) (hD4.ev (20,.int .i64 (i:Nat)) (by simp)) hil) fun d5 hD5=>?_
  refine stp hD5 rfl (by decide) rfl (by intro c h; cases h) (rLoad30 (hD5.ev (21,_) (List.mem_cons_self ..)) ((eye_cell (cell_congr ((hG.grow.trans (Grow.alloc _ _)).block _ (hlt _ _ hv1)) _)).trans hv2)) fun d6 hD6=>?_
  refine stp hD6 rfl (by decide) rfl (by intro c h; cases h) (rApp (by rw [hD6.ev (18,.slice (some ⟨w1.heap.size,0,none⟩) 0 0) (by simp),hD6.ev (22,_) (List.mem_cons_self ..)]; exact hrun1)) fun d7 hD7=>?_
  refine stp hD7 rfl (by decide) rfl (by intro c h; cases h) (rBuild1 (hD7.ev (23,_) (List.mem_cons_self ..))) fun d8 hD8=>?_
  refine stp hD8 rfl (by decide) rfl (by intro c h; cases h) (rApp (by rw [hD8.ev (17,o) (by simp),hD8.ev (24,_) (List.mem_cons_self ..)]; exact hrun2)) fun d9 hD9=>?_
  refine stp hD9 rfl (by decide) rfl (by intro c h; cases h) (rAssign (v:=o') (hD9.ev (25,o') (List.mem_cons_self ..))) fun d10 hD10=>?_
  refine wpIn_region_lit ?_
  refine stp hD10 rfl (by decide) rfl (by intro c h; cases h) (rMoveV (hD10.ev (10,.int .i64 (i:Nat)) (by simp))) fun e1 hE1=>?_
  refine stp hE1 rfl (by decide) rfl (by intro c h; cases h) (rAdd (b:=1) (hE1.ev (15,.int .i64 (i:Nat)) (List.mem_cons_self ..)) rfl) fun e2 hE2=>?_
  refine stp hE2 rfl (by decide) rfl (by intro c h; cases h) (rAssign (v:=.int .i64 ((i+1:Nat):Int)) ((hE2.ev (16,_) (List.mem_cons_self ..)).trans (by show Value.int .i64 (IntKind.i64.wrap ((i:Int)+1))=_; rw [wrap_nat (by omega)]))) fun e3 hE3=>?_
  refine ⟨⟨i+1,o',hil,hE3.sub (by simp),hG'⟩,?_⟩
  show A.length - (match e3.eval (.tmp 10) with | .int _ n=>n.toNat | _=>0) < A.length - (match a.eval (.tmp 10) with | .int _ n=>n.toNat | _=>0)
  rw [hE3.ev (10,_) (List.mem_cons_self ..),hAi.ev (10,.int .i64 (i:Nat)) (by simp)]
  show A.length - (((i+1:Nat):Int)).toNat < A.length - ((i:Nat):Int).toNat
  omega
 have hil:i=A.length:=by have:=of_decide_eq_false ht; omega
 subst hil
 obtain ⟨b,cap,qb,qn,qcap,cr,er,rfl,k1,k2,k3,k4,k5,k6⟩:=gi_end hG V hc hl x
 refine wpIn_exit ?_
 refine wpIn_seq (wpIn_region_lit ?_)
 refine stp hB4 rfl (by decide) rfl (by intro c h; cases h) (rMoveV (hB4.ev (9,.slice (some ⟨b,0,none⟩) A.length cap) (by simp))) fun d1 hD1=>?_
 refine stp hD1 rfl (by decide) rfl (by intro c h; cases h) (rMoveV (hD1.ev (1,.int .i64 c) (by simp))) fun d2 hD2=>?_
 refine stp hD2 rfl (by decide) rfl (by intro c h; cases h) (rIndex41 (i:=c) (hD2.ev (26,.slice (some ⟨b,0,none⟩) A.length cap) (by simp)) (hD2.ev (27,.int .i64 c) (by simp)) hc) fun d3 hD3=>?_
 refine stp hD3 rfl (by decide) rfl (by intro c h; cases h) (rLoad30 (hD3.ev (28,_) (List.mem_cons_self ..)) (by rw [Nat.zero_add]; exact k1)) fun d4 hD4=>?_
 refine stp hD4 rfl (by decide) rfl (by intro c h; cases h) (rMoveV (hD4.ev (2,.int .i64 l) (by simp))) fun d5 hD5=>?_
 refine stp hD5 rfl (by decide) rfl (by intro c h; cases h) (rMoveV (hD5.ev (3,.int .i64 x) (by simp))) fun d6 hD6=>?_
 refine stp hD6 rfl (by decide) rfl (by intro c h; cases h) (rIndex30 (i:=l) (hD6.ev (29,.slice (some ⟨qb,0,none⟩) qn qcap) (by simp)) (hD6.ev (30,.int .i64 l) (by simp)) k2) fun d7 hD7=>?_
 refine stpN rfl rfl (by intro c h; cases h) (rStore (hD7.ev (32,_) (List.mem_cons_self ..)) (hD7.ev (31,.int .i64 x) (by simp)) k3 (by rw [Nat.zero_add]; exact k4)) ?_
 refine wpIn_seq (wpIn_region_lit ?_)
 refine stp hD7 rfl (by decide) rfl (by intro c h; cases h) (rMoveV (hD7.ev (9,.slice (some ⟨b,0,none⟩) A.length cap) (by simp))) fun e1 hE1=>?_
 refine stp hE1 rfl (by decide) rfl (by intro c h; cases h) (rAssign (v:=.slice (some ⟨b,0,none⟩) A.length cap) (hE1.ev (33,_) (List.mem_cons_self ..))) fun e2 hE2=>?_
 refine wpIn_ret ⟨hE2.df,.slice (some ⟨b,0,none⟩) A.length cap,?_,_,rfl,_,rfl,?_,?_⟩
 ·have h8:e2.tmps.getD 8 undef=.slice (some ⟨b,0,none⟩) A.length cap:=hE2.ev (8,_) (List.mem_cons_self ..)
  unfold results
  rw [show Tryd.f137.results=#[.tmp 8] from rfl]
  rw [Array.getD_eq_getD_getElem?] at h8
  simp [h8,Sem.run_bind,Result.andThen,pure]
 ·rw [Nat.zero_add]; exact k5
 rw [Nat.zero_add]; exact k6
theorem op137:Opens PR 137:=⟨_,Tryd.func137,rfl,rfl⟩
def kinP (f:List Int→List (List Int)) (B:List Int):Nat→List (List Int)
 | 0=>[]
 | j+1=>kinP f B j++f (B++[(j:Int)])
def kinL:Nat→List Int→List (List Int)
 | 0,B=>[B]
 | k+1,B=>kinP (kinL k) B 3
theorem kinP_len {f:List Int→List (List Int)} {z:Nat} (h:∀ B,(f B).length=z) (B:List Int):∀ j,(kinP f B j).length=j * z
 | 0=>by rw [Nat.zero_mul]; rfl
 | j+1=>by show (kinP f B j++_).length=_; rw [List.length_append,kinP_len h B j,h,Nat.succ_mul]
theorem kinL_len:∀ (k:Nat) (B:List Int),(kinL k B).length=3 ^ k
 | 0,_=>rfl
 | k+1,B=>by show (kinP (kinL k) B 3).length=_; rw [kinP_len (kinL_len k),Nat.pow_succ,Nat.mul_comm]
theorem pow3 {k:Nat} (h:k≤4):3 ^ k≤81:=Nat.le_trans (Nat.pow_le_pow_right (by decide) h) (by decide)
theorem RectT.set2 {m n:Nat} {P:Tb} (h:RectT m n P) (c l:Nat) (v:Int):RectT m n (set2 P c l v):=by
 refine ⟨by unfold Go.Ab.MkF.set2; rw [List.length_set]; exact h.len,fun i hi=>?_⟩
 unfold Go.Ab.MkF.set2
 rw [List.getD_eq_getElem?_getD,List.getElem?_set]
 split
 ·rename_i e
  subst e
  split
  ·show (((P.getD c []).set l v)).length=n
   rw [List.length_set]; exact h.row c hi
  rename_i q; exact absurd (by rw [h.len]; exact hi) q
 rw [←List.getD_eq_getElem?_getD]; exact h.row i hi
theorem RectT.pos {m n:Nat} {P:Tb} (h:RectT m n P) (h1:1≤n) (h6:n≤6) (i:Nat) (hi:i < P.length):1≤(P.getD i []).length∧(P.getD i []).length≤1000:=by
 rw [h.row i (by rw [←h.len]; exact hi)]; omega
def keptR (cs:List Cp) (K:List Int) (P:Tb) (c:Nat):Nat→Tb
 | 0=>P
 | l+1=>if K.getD c 0=0∧hasI cs c l > 0∧wheI (keptR cs K P c l) (c:Int) l (keptR cs K P c l).length=-1 then set2 (keptR cs K P c l) c l (c:Int) else keptR cs K P c l
def keptU (n:Nat) (cs:List Cp) (K:List Int) (P:Tb):Nat→Tb
 | 0=>P
 | c+1=>keptR cs K (keptU n cs K P c) c n
theorem keptR_ok {m n:Nat} {cs:List Cp} {K:List Int} {P:Tb} (h:RectT m n P) (c:Nat):∀ l,RectT m n (keptR cs K P c l)
 | 0=>h
 | l+1=>by
  unfold keptR
  split
  ·exact (keptR_ok h c l).set2 _ _ _
  exact keptR_ok h c l
theorem keptU_ok {m n:Nat} {cs:List Cp} {K:List Int} {P:Tb} (h:RectT m n P):∀ c,RectT m n (keptU n cs K P c)
 | 0=>h
 | c+1=>keptR_ok (keptU_ok h c) c n
theorem keptR_yes {cs:List Cp} {K:List Int} {P:Tb} {c l:Nat} (h:K.getD c 0=0∧hasI cs c l > 0∧wheI (keptR cs K P c l) (c:Int) l (keptR cs K P c l).length=-1):keptR cs K P c (l+1)=set2 (keptR cs K P c l) c l (c:Int):=by show ite _ _ _=_; rw [if_pos h]
theorem keptR_no {cs:List Cp} {K:List Int} {P:Tb} {c l:Nat} (h:¬ (K.getD c 0=0∧hasI cs c l > 0∧wheI (keptR cs K P c l) (c:Int) l (keptR cs K P c l).length=-1)):keptR cs K P c (l+1)=keptR cs K P c l:=by show ite _ _ _=_; rw [if_neg h]
theorem op93:Opens PR 93:=⟨_,Tryd.func93,rfl,rfl⟩
theorem c93s (gl:Gl) (many k:Nat) (hm:many≤4) (IH:∀ B:List Int,B.length+k=many→PCalls PR gl 93 [vL B,vI many] fun r=>r=intsV (kinL k B)) (B:List Int) (hB:B.length+(k+1)=many):PCalls PR gl 93 [vL B,vI many] fun r=>r=intsV (kinL (k+1) B):=by
 refine fnW_sound (parH_ok gl) Tryd.func93 ?_;conv=>whnf
 refine ⟨?_⟩;conv=>whnf
 refine ⟨?_⟩;conv=>whnf
 apply bc9<;>intro h1
 ·exfalso
  have h:((B.length:Int)==(many:Int))=true:=h1
  have:=eq_of_beq h
  omega
 conv=>whnf
 refine ⟨?_⟩;conv=>whnf
 refine ⟨?_⟩;conv=>whnf
 refine ⟨⟨99,[4],[4,5]⟩,?_⟩
 refine LoopW_ind _ (fun j:Nat=>(({ tmps:=[vL B,vI many,J,J,J,.sl (S:=S) U.ints (kinP (kinL k) B j) (some 5),vI j,J,J,J,J,J,J,J,J,J,J,J,J,J,J,J,J,J,J,J,J,J],seg:=[(5,.row U.ints false)],up:=[] }:St S))) (fun j:Nat=>(j≤3)) (fun j:Nat=>(3 - j)) () ?_ 0 (Nat.zero_le _)
 intro j hj Z1 hZ1
 conv=>whnf
 refine ⟨?_⟩;conv=>whnf
 apply bc9<;>intro h5
 ·have hjl:j < 3:=by have:=of_decide_eq_true h5; omega
  have hw:=wrap_nat (n:=j) (by omega)
  have hBl:(B++[(j:Int)]).length+k=many:=by rw [List.length_append]; simp; omega
  have b1:=kinP_len (kinL_len k) B j
  have b2:=kinL_len k (B++[(j:Int)])
  have b3:=pow3 (k:=k) (by omega)
  have b4:j * 3 ^ k≤2 * 81:=Nat.mul_le_mul (by omega) b3
  conv=>whnf
  refine ⟨?_⟩;conv=>whnf
  refine ⟨lim (by show B.length≤_; omega),false,?_⟩;conv=>whnf
  refine ⟨_,rfl,?_⟩;conv=>whnf
  refine ⟨lim (by show B.length+1≤_; omega),?_⟩;conv=>whnf
  refine byC (IH _ hBl) op93 ?_;conv=>whnf
  refine ⟨lim (by show (kinP (kinL k) B j).length+(kinL k (B++[(j:Int)])).length≤_; omega),?_⟩;conv=>whnf
  refine ⟨?_⟩;conv=>whnf
  refine ⟨⟨99,[20,22,23,26],[]⟩,?_⟩;conv=>whnf
  rw [hw]
  exact hZ1 (j+1) hjl (by omega)
 have hjg:j=3:=by have:=of_decide_eq_false h5; omega
 conv=>whnf
 refine ⟨?_⟩;conv=>whnf
 rw [hjg]
 rfl
theorem c93z (gl:Gl) (B:List Int):PCalls PR gl 93 [vL B,vI B.length] fun r=>r=intsV (kinL 0 B):=by
 refine fnW_sound (parH_ok gl) Tryd.func93 ?_;conv=>whnf
 refine ⟨?_⟩;conv=>whnf
 refine ⟨?_⟩;conv=>whnf
 apply bc9<;>intro h1
 ·conv=>whnf
  refine ⟨?_⟩;conv=>whnf
  refine ⟨_,rfl,?_⟩;conv=>whnf
  rfl
 exfalso
 have h:((B.length:Int)==(B.length:Int))=false:=h1
 simp at h
theorem c93 (gl:Gl) (many:Nat) (hm:many≤4):∀ (k:Nat) (B:List Int),B.length+k=many→PCalls PR gl 93 [vL B,vI many] fun r=>r=intsV (kinL k B)
 | 0,B,h=>by have h:B.length=many:=h; subst h; exact c93z gl B
 | k+1,B,h=>c93s gl many k hm (c93 gl many hm k) B h
theorem c136 (gl:Gl) (p:Int) (ls:List Lf) (cs:List Cp) (hV:Valid p ls cs) (K:List Int) (hK:K.length=cs.length) (P:List (List Int)) (hP:RectT cs.length ls.length P):PCalls PR gl 136 [.agg [vI p,lfsV ls,cpsV cs],vL K,intsV P] fun r=>r=intsV (keptU ls.length cs K P cs.length):=by
 have hm4:=hV.m4
 have hn6:=hV.n6
 refine fnW_sound (parH_ok gl) Tryd.func136 ?_;conv=>whnf
 refine ⟨?_⟩;conv=>whnf
 refine ⟨?_⟩;conv=>whnf
 refine loop_q fun Q1 hQ1=>?_
 refine ⟨⟨142,[6],[6]⟩,?_⟩
 refine LoopW_ind _ (fun c:Nat=>(({ tmps:=[J,vL K,intsV (keptU ls.length cs K P c),.own 3 [],J,J,J,vI c,J,J,J,J,J,J,J,J,J,J,J,J,J,J,J,J,J,J,J,J,J,J,J,J,J,J,J,J,J,J,J,J,J,J,J,J,J,J,J,J,J,J,J,J],seg:=[(3,.cells [vI p,lfsV ls,cpsV cs])],up:=[] }:St S))) (fun c:Nat=>(c≤K.length)) (fun c:Nat=>(K.length - c)) () ?_ 0 (Nat.zero_le _)
 intro c hc Z1 hZ1
 conv=>whnf
 refine ⟨?_⟩;conv=>whnf
 apply bc9<;>intro h2
 ·have hlK:c < K.length:=by have:=of_decide_eq_true h2; omega
  have hwc:=wrap_nat (n:=c) (by omega)
  have hlc:c < cs.length:=by omega
  have hKc:=getD_at (d:=(0:Int)) hlK
  have hcp:=(hV.cp hlc).2.1
  conv=>whnf
  refine ⟨?_⟩;conv=>whnf
  refine ⟨⟨398,[],[]⟩,?_⟩
  refine LoopW_ind _ (fun l:Nat=>(({ tmps:=[J,vL K,intsV (keptR cs K (keptU ls.length cs K P c) c l),.own 3 [],J,J,J,vI c,vI l,J,J,J,J,J,J,J,J,J,J,J,J,J,J,J,J,J,J,J,J,J,J,J,J,J,J,J,J,J,J,J,J,J,J,J,J,J,J,J,J,J,J,J],seg:=[(3,.cells [vI p,lfsV ls,cpsV cs])],up:=[] }:St S))) (fun l:Nat=>(l≤ls.length)) (fun l:Nat=>(ls.length - l)) () ?_ 0 (Nat.zero_le _)
  intro l hl Z2 hZ2
  conv=>whnf
  refine ⟨?_⟩;conv=>whnf
  apply bc9<;>intro h5
  ·have hll:l < ls.length:=by have:=of_decide_eq_true h5; omega
   have hwl:=wrap_nat (n:=l) (by omega)
   have hix:l < cs[c].2.length:=by omega
   have hk:hasI cs c l=cs[c].2[l]:=by unfold hasI; rw [getD_at hlc,getD_at hix]
   have hQ:RectT cs.length ls.length (keptR cs K (keptU ls.length cs K P c) c l):=keptR_ok (keptU_ok hP c) c l
   conv=>whnf
   refine ⟨?_⟩;conv=>whnf
   refine ⟨_,getI_nat hlK,?_⟩;conv=>whnf
   apply bc9<;>intro g7_5
   ·have g5:K.getD c 0=0:=by rw [hKc]; exact eq_of_beq g7_5
    conv=>whnf
    refine ⟨_,getI_nat hlc,?_⟩;conv=>whnf
    refine ⟨_,getI_nat hix,?_⟩;conv=>whnf
    apply bc9<;>intro g7_17
    ·have g17:hasI cs c l > 0:=by rw [hk]; exact of_decide_eq_true g7_17
     conv=>whnf
     refine byC (c120 gl (keptR cs K (keptU ls.length cs K P c) c l) (by rw [hQ.len]; omega) (c:Int) l (fun i hi=>by rw [hQ.len] at hi; rw [hQ.row i hi]; exact hll)) op120 ?_;conv=>whnf
     apply bc9<;>intro h7
     ·have h7t:wheI (keptR cs K (keptU ls.length cs K P c) c l) (c:Int) l (List.length (keptR cs K (keptU ls.length cs K P c) c l))=-1:=eq_of_beq h7
      have hm:=keptR_yes (cs:=cs) (K:=K) (P:=keptU ls.length cs K P c) (c:=c) (l:=l) ⟨g5,g17,h7t⟩
      conv=>whnf
      refine ⟨?_⟩;conv=>whnf
      refine byC (c137 gl (keptR cs K (keptU ls.length cs K P c) c l) c l (c:Int) (by rw [hQ.len]; omega) (hQ.pos hV.n1 hV.n6) (by rw [hQ.len]; exact hlc) (by rw [hQ.row c hlc]; exact hll)) op137 ?_;conv=>whnf
      refine ⟨?_⟩;conv=>whnf
      refine ⟨⟨398,[],[]⟩,?_⟩;conv=>whnf
      rw [hwl]
      have hz:=hZ2 (l+1) hll (by omega)
      rw [hm] at hz
      exact hz
     have h7t:¬ wheI (keptR cs K (keptU ls.length cs K P c) c l) (c:Int) l (List.length (keptR cs K (keptU ls.length cs K P c) c l))=-1:=fun e=>by have h:(wheI (keptR cs K (keptU ls.length cs K P c) c l) (c:Int) l (List.length (keptR cs K (keptU ls.length cs K P c) c l))==-1)=false:=h7; rw [e] at h; cases h
     have hm:=keptR_no (cs:=cs) (K:=K) (P:=keptU ls.length cs K P c) (c:=c) (l:=l) fun q=>h7t q.2.2
     conv=>whnf
     refine ⟨?_⟩;conv=>whnf
     refine ⟨⟨398,[],[]⟩,?_⟩;conv=>whnf
     rw [hwl]
     have hz:=hZ2 (l+1) hll (by omega)
     rw [hm] at hz
     exact hz
    have g17:¬ hasI cs c l > 0:=by rw [hk]; exact of_decide_eq_false g7_17
    have hm:=keptR_no (cs:=cs) (K:=K) (P:=keptU ls.length cs K P c) (c:=c) (l:=l) fun q=>g17 q.2.1
    conv=>whnf
    refine ⟨?_⟩;conv=>whnf
    refine ⟨⟨398,[],[]⟩,?_⟩;conv=>whnf
    rw [hwl]
    have hz:=hZ2 (l+1) hll (by omega)
    rw [hm] at hz
    exact hz
   have g5:¬ K.getD c 0=0:=fun e=>by have h:(K[c]==0)=false:=g7_5; rw [←hKc,e] at h; cases h
   have hm:=keptR_no (cs:=cs) (K:=K) (P:=keptU ls.length cs K P c) (c:=c) (l:=l) fun q=>g5 q.1
   conv=>whnf
   refine ⟨?_⟩;conv=>whnf
   refine ⟨⟨398,[],[]⟩,?_⟩;conv=>whnf
   rw [hwl]
   have hz:=hZ2 (l+1) hll (by omega)
   rw [hm] at hz
   exact hz
  have hgl:l=ls.length:=by have:=of_decide_eq_false h5; omega
  conv=>whnf
  refine ⟨?_⟩;conv=>whnf
  refine ⟨⟨142,[],[]⟩,?_⟩;conv=>whnf
  rw [hwc,hgl]
  exact hZ1 (c+1) hlK (by omega)
 have hgc:c=K.length:=by have:=of_decide_eq_false h2; omega
 conv=>whnf
 refine (hQ1 _ _ _).mpr ?_;conv=>whnf
 refine ⟨?_⟩;conv=>whnf
 rw [hgc,hK]
theorem op136:Opens PR 136:=⟨_,Tryd.func136,rfl,rfl⟩
def donP (cs:List Cp) (K:List Int) (P:Tb) (c l:Nat) (g:Nat→List Tb):Nat→List Tb
 | 0=>[]
 | d+1=>if hasI cs d l=K.getD c 0∧K.getD d 0≠K.getD c 0∧wheI P (d:Int) l P.length=-1 then donP cs K P c l g d++g d else donP cs K P c l g d
def refP (n:Nat) (cs:List Cp) (K:List Int):Nat→Nat→Nat→Tb→List Tb
 | 0,_,_,_=>[]
 | f+1,c,l,P=>if c=cs.length then [keptU n cs K P cs.length] else if l=n then refP n cs K f (c+1) 0 P else if K.getD c 0=0 then refP n cs K f (c+1) 0 P
  else if hasI cs c l=K.getD c 0 then refP n cs K f c (l+1) (set2 P c l (c:Int)) else donP cs K P c l (fun d=>refP n cs K f c (l+1) (set2 P c l (d:Int))) cs.length
theorem donP_yes {cs:List Cp} {K:List Int} {P:Tb} {c l d:Nat} {g:Nat→List Tb} (h:hasI cs d l=K.getD c 0∧K.getD d 0≠K.getD c 0∧wheI P (d:Int) l P.length=-1):donP cs K P c l g (d+1)=donP cs K P c l g d++g d:=by show ite _ _ _=_; rw [if_pos h]
theorem donP_no {cs:List Cp} {K:List Int} {P:Tb} {c l d:Nat} {g:Nat→List Tb} (h:¬ (hasI cs d l=K.getD c 0∧K.getD d 0≠K.getD c 0∧wheI P (d:Int) l P.length=-1)):donP cs K P c l g (d+1)=donP cs K P c l g d:=by show ite _ _ _=_; rw [if_neg h]
theorem donP_len {cs:List Cp} {K:List Int} {P:Tb} {c l:Nat} {g:Nat→List Tb} {z:Nat} (h:∀ d,(g d).length≤z):∀ d,(donP cs K P c l g d).length≤(if c < d then d - 1 else d) * z
 | 0=>by simp [donP]
 | d+1=>by
  have ih:=donP_len (cs:=cs) (K:=K) (P:=P) (c:=c) (l:=l) h d
  by_cases g1:hasI cs d l=K.getD c 0∧K.getD d 0≠K.getD c 0∧wheI P (d:Int) l P.length=-1
  ·rw [donP_yes g1,List.length_append]
   have hne:c≠d:=fun e=>g1.2.1 (by rw [e])
   have hd:=h d
   have e:(if c < d+1 then d+1 - 1 else d+1)=(if c < d then d - 1 else d)+1:=by split <;> split <;> omega
   rw [e,Nat.succ_mul]; omega
  rw [donP_no g1]
  refine Nat.le_trans ih (Nat.mul_le_mul_right _ ?_)
  split <;> split <;> omega
theorem refP_len {n:Nat} {cs:List Cp} {K:List Int} (hn:1≤n) (hm:cs.length≤4):∀ (f c l:Nat) (P:Tb),c≤cs.length→l≤n→(refP n cs K f c l P).length≤3 ^ ((cs.length - c) * n - l)
 | 0,c,l,P,_,_=>Nat.zero_le _
 | f+1,c,l,P,hc,hl=>by
  unfold refP
  by_cases h1:c=cs.length
  ·rw [if_pos h1]; exact Nat.pos_of_ne_zero (by simp)
  rw [if_neg h1]
  have e1:(cs.length - c) * n=(cs.length - (c+1)) * n+n:=by rw [←Nat.succ_mul]; congr 1; omega
  have hnext:(refP n cs K f (c+1) 0 P).length≤3 ^ ((cs.length - c) * n - l) :=
   Nat.le_trans (refP_len hn hm f (c+1) 0 P (by omega) (Nat.zero_le _)) (Nat.pow_le_pow_right (by decide) (by omega))
  split
  ·exact hnext
  split
  ·exact hnext
  rename_i h2 h3
  have e2:(cs.length - c) * n - l=((cs.length - c) * n - (l+1))+1:=by omega
  split
  ·exact Nat.le_trans (refP_len hn hm f c (l+1) _ hc (by omega)) (Nat.pow_le_pow_right (by decide) (by omega))
  refine Nat.le_trans (donP_len (fun d=>refP_len hn hm f c (l+1) (set2 P c l (d:Int)) hc (by omega)) cs.length) ?_
  rw [e2,Nat.pow_succ,Nat.mul_comm]
  refine Nat.mul_le_mul_left _ ?_
  split <;> omega
theorem pow23 {n m c l:Nat} (hm:m≤4) (hn:n≤6):3 ^ ((m - c) * n - (l+1))≤94143178827:=by
 refine Nat.le_trans (Nat.pow_le_pow_right (by decide) (show (m - c) * n - (l+1)≤23 from ?_)) (by decide)
 have:=Nat.mul_le_mul (show m - c≤4 by omega) hn
 omega
theorem op95:Opens PR 95:=⟨_,Tryd.func95,rfl,rfl⟩
theorem c95s (gl:Gl) (p:Int) (ls:List Lf) (cs:List Cp) (hV:Valid p ls cs) (K:List Int) (hK:K.length=cs.length) (f:Nat) (IH:∀ (c l:Nat) (P:List (List Int)),c≤cs.length→l≤ls.length→RectT cs.length ls.length P→(cs.length - c) * (ls.length+1)+(ls.length - l)+1≤f→PCalls PR gl 95 [.agg [vI p,lfsV ls,cpsV cs],vL K,intsV P,vI c,vI l] fun r=>r=.sl (S:=S) U.intss (refP ls.length cs K f c l P) none) (c l:Nat) (P:List (List Int)) (hcm:c≤cs.length) (hln:l≤ls.length) (hP:RectT cs.length ls.length P) (hf:(cs.length - c) * (ls.length+1)+(ls.length - l)+1≤f+1):PCalls PR gl 95 [.agg [vI p,lfsV ls,cpsV cs],vL K,intsV P,vI c,vI l] fun r=>r=.sl (S:=S) U.intss (refP ls.length cs K (f+1) c l P) none:=by
 have hm4:=hV.m4
 have hn6:=hV.n6
 refine fnW_sound (parH_ok gl) Tryd.func95 ?_;conv=>whnf
 refine ⟨?_⟩;conv=>whnf
 refine ⟨?_⟩;conv=>whnf
 apply bc9<;>intro h1
 ·have h1t:c=cs.length:=by have h:((c:Int)==(K.length:Int))=true:=h1; have:=eq_of_beq h; omega
  conv=>whnf
  refine ⟨?_⟩;conv=>whnf
  refine byC (c136 gl p ls cs hV K hK P hP) op136 ?_;conv=>whnf
  refine ⟨_,rfl,?_⟩;conv=>whnf
  exact congrArg (fun l=>AV.sl (S:=S) U.intss l none) (show _=refP ls.length cs K (f+1) c l P from by unfold refP; rw [if_pos h1t])
 have h1t:¬ c=cs.length:=fun e=>by have h:((c:Int)==(K.length:Int))=false:=h1; rw [e,hK] at h; simp at h
 have hlc:c < cs.length:=by omega
 have hlK:c < K.length:=by omega
 have hKc:=getD_at (d:=(0:Int)) hlK
 have hwc:=wrap_nat (n:=c) (by omega)
 have hIc:=IH (c+1) (0) (P) (by omega) (by omega) hP (by rw [show (cs.length - c) * (ls.length+1)=(cs.length - (c+1)) * (ls.length+1)+(ls.length+1) from by rw [←Nat.succ_mul]; congr 1; omega] at hf; omega)
 rw [←hwc] at hIc
 conv=>whnf
 refine ⟨?_⟩;conv=>whnf
 apply bc9<;>intro h3
 ·have h3t:l=ls.length:=by have h:((l:Int)==(ls.length:Int))=true:=h3; have:=eq_of_beq h; omega
  conv=>whnf
  refine ⟨?_⟩;conv=>whnf
  refine byC hIc op95 ?_;conv=>whnf
  exact congrArg (fun l=>AV.sl (S:=S) U.intss l none) (show _=refP ls.length cs K (f+1) c l P from by conv=>rhs; unfold refP; rw [if_neg h1t,if_pos h3t])
 have h3t:¬ l=ls.length:=fun e=>by have h:((l:Int)==(ls.length:Int))=false:=h3; rw [e] at h; simp at h
 have hll:l < ls.length:=by omega
 have hwl:=wrap_nat (n:=l) (by omega)
 have hcp:=(hV.cp hlc).2.1
 have hix:l < cs[c].2.length:=by omega
 have hk:hasI cs c l=cs[c].2[l]:=by unfold hasI; rw [getD_at hlc,getD_at hix]
 conv=>whnf
 refine ⟨?_⟩;conv=>whnf
 refine ⟨_,getI_nat hlK,?_⟩;conv=>whnf
 apply bc9<;>intro h5
 ·have h5t:K.getD c 0=0:=by rw [hKc]; exact eq_of_beq h5
  conv=>whnf
  refine ⟨?_⟩;conv=>whnf
  refine byC hIc op95 ?_;conv=>whnf
  exact congrArg (fun l=>AV.sl (S:=S) U.intss l none) (show _=refP ls.length cs K (f+1) c l P from by conv=>rhs; unfold refP; rw [if_neg h1t,if_neg h3t,if_pos h5t])
 have h5t:¬ K.getD c 0=0:=fun e=>by have h:(K[c]==0)=false:=h5; rw [←hKc,e] at h; cases h
 conv=>whnf
 refine ⟨[0,1,2,3,4,5,6,7,8,9,10,11,12,13],[],[],[],⟨2658455991569831745807614120560689151,[],[]⟩,by decide +kernel,?_⟩;conv=>whnf
 refine ⟨_,getI_nat hlc,?_⟩;conv=>whnf
 refine ⟨_,getI_nat hix,?_⟩;conv=>whnf
 refine ⟨_,getI_nat hlK,?_⟩;conv=>whnf
 apply bc9<;>intro h7
 ·have h7t:hasI cs c l=K.getD c 0:=by rw [hk,hKc]; exact eq_of_beq h7
  have hI7:=IH (c) (l+1) (set2 P c l (c:Int)) (by omega) (by omega) (hP.set2 _ _ _) (by omega)
  rw [←hwl] at hI7
  conv=>whnf
  refine ⟨[0,1,2,3,4,5,7,8,9,6,10,11],[],[],[],⟨2658455991569831745807614120560689151,[],[]⟩,by decide +kernel,?_⟩;conv=>whnf
  refine byC (c137 gl P c l (c:Int) (by rw [hP.len]; omega) (hP.pos hV.n1 hV.n6) (by rw [hP.len]; exact hlc) (by rw [hP.row c hlc]; exact hll)) op137 ?_;conv=>whnf
  refine byC hI7 op95 ?_;conv=>whnf
  exact congrArg (fun l=>AV.sl (S:=S) U.intss l none) (show _=refP ls.length cs K (f+1) c l P from by conv=>rhs; unfold refP; rw [if_neg h1t,if_neg h3t,if_neg h5t,if_pos h7t])
 have h7t:¬ hasI cs c l=K.getD c 0:=fun e=>by have h:(cs[c].2[l]==K[c])=false:=h7; rw [←hk,←hKc,e] at h; simp at h
 conv=>whnf
 refine ⟨?_⟩;conv=>whnf
 refine ⟨?_⟩;conv=>whnf
 refine ⟨⟨6206,[10],[10,11]⟩,?_⟩
 refine LoopW_ind _ (fun d:Nat=>(({ tmps:=[J,vL K,intsV P,vI c,vI l,.own 5 [],J,J,J,J,J,.sl (S:=S) U.intss (donP cs K P c l (fun d=>refP ls.length cs K f c (l+1) (set2 P c l (d:Int))) d) (some 11),vI d,J,J,J,J,J,J,J,J,J,J,J,J,J,J,J,J,J,J,J,J,J,J,J,J,J,J,J,J,J,J,J,J,J,J,J,J,J,J,J,J,J,J,J,J,J,J,J,J,J,J,J,J,J,J,J,J,J,J,J,J,J,J,J,J,J,J,J,J,J,J,J,J,J,J,J,J,J,J,J,J,J,J,J,J,J,J,J,J,J,J,J,J,J,J,J,J,J,J,J,J,J,J,J,J,J,J,J,J],seg:=[(5,.cells [vI p,lfsV ls,cpsV cs]),(11,.row U.intss false)],up:=[] }:St S))) (fun d:Nat=>(d≤K.length)) (fun d:Nat=>(K.length - d)) () ?_ 0 (Nat.zero_le _)
 intro d hd Z1 hZ1
 conv=>whnf
 refine ⟨?_⟩;conv=>whnf
 apply bc9<;>intro h11
 ·have hldK:d < K.length:=by have:=of_decide_eq_true h11; omega
  have hwd:=wrap_nat (n:=d) (by omega)
  have hld:d < cs.length:=by omega
  have hKd:=getD_at (d:=(0:Int)) hldK
  have hcp2:=(hV.cp hld).2.1
  have hix2:l < cs[d].2.length:=by omega
  have hk2:hasI cs d l=cs[d].2[l]:=by unfold hasI; rw [getD_at hld,getD_at hix2]
  conv=>whnf
  refine ⟨[0,1,2,3,4,5,6,7,8,9,10,11,12,13,14,15,16,17,18,19,20,21,22,23,24,25,26,27,28,29,30,31],[],[],[],⟨2658455991569831745807614120560689151,[],[]⟩,by decide +kernel,?_⟩;conv=>whnf
  refine ⟨_,getI_nat hld,?_⟩;conv=>whnf
  refine ⟨_,getI_nat hix2,?_⟩;conv=>whnf
  refine ⟨_,getI_nat hlK,?_⟩;conv=>whnf
  apply bc9<;>intro g13_14
  ·have g14:hasI cs d l=K.getD c 0:=by rw [hk2,hKc]; exact eq_of_beq g13_14
   conv=>whnf
   refine ⟨_,getI_nat hldK,?_⟩;conv=>whnf
   refine ⟨_,getI_nat hlK,?_⟩;conv=>whnf
   apply bc9<;>intro g13_25
   ·have g25:K.getD d 0≠K.getD c 0:=by rw [hKc,hKd]; have h:(K[d] != K[c])=true:=g13_25; simpa using h
    conv=>whnf
    refine byC (c120 gl P (by rw [hP.len]; omega) (d:Int) l (fun i hi=>by rw [hP.len] at hi; rw [hP.row i hi]; exact hll)) op120 ?_;conv=>whnf
    apply bc9<;>intro h13
    ·have h13t:wheI P (d:Int) l P.length=-1:=eq_of_beq h13
     have hm:=donP_yes (cs:=cs) (K:=K) (P:=P) (c:=c) (l:=l) (d:=d) (g:=(fun d=>refP ls.length cs K f c (l+1) (set2 P c l (d:Int)))) ⟨g14,g25,h13t⟩
     have hI14:=IH (c) (l+1) (set2 P c l (d:Int)) (by omega) (by omega) (hP.set2 _ _ _) (by omega)
     rw [←hwl] at hI14
     have b0:=pow23 (n:=ls.length) (m:=cs.length) (c:=c) (l:=l) hm4 hn6
     have b1:=donP_len (cs:=cs) (K:=K) (P:=P) (c:=c) (l:=l) (g:=(fun d=>refP ls.length cs K f c (l+1) (set2 P c l (d:Int)))) (fun d=>refP_len hV.n1 hm4 f c (l+1) (set2 P c l (d:Int)) hcm (by omega)) d
     have b2:=refP_len (K:=K) hV.n1 hm4 f c (l+1) (set2 P c l (d:Int)) hcm (by omega)
     have b3:(if c < d then d - 1 else d)≤3:=by split <;> omega
     have b4:=Nat.mul_le_mul b3 b0
     conv=>whnf
     refine ⟨[0,1,2,3,4,5,6,8,9,10,7,11,12,13],[],[],[],⟨2658455991569831745807614120560689151,[],[]⟩,by decide +kernel,?_⟩;conv=>whnf
     refine byC (c137 gl P c l (d:Int) (by rw [hP.len]; omega) (hP.pos hV.n1 hV.n6) (by rw [hP.len]; exact hlc) (by rw [hP.row c hlc]; exact hll)) op137 ?_;conv=>whnf
     refine byC hI14 op95 ?_;conv=>whnf
     refine ⟨Nat.le_trans (show (donP cs K P c l (fun d=>refP ls.length cs K f c (l+1) (set2 P c l (d:Int))) d).length+(refP ls.length cs K f c (l+1) (set2 P c l (d:Int))).length≤1099511627776 by omega) (by decide),?_⟩;conv=>whnf
     refine ⟨?_⟩;conv=>whnf
     refine ⟨⟨6206,[119],[]⟩,?_⟩;conv=>whnf
     rw [hwd]
     have hz:=hZ1 (d+1) hldK (by omega)
     rw [hm] at hz
     exact hz
    have h13t:¬ wheI P (d:Int) l P.length=-1:=fun e=>by have h:(wheI P (d:Int) l P.length==-1)=false:=h13; rw [e] at h; cases h
    have hm:=donP_no (cs:=cs) (K:=K) (P:=P) (c:=c) (l:=l) (d:=d) (g:=(fun d=>refP ls.length cs K f c (l+1) (set2 P c l (d:Int)))) fun q=>h13t q.2.2
    conv=>whnf
    refine ⟨?_⟩;conv=>whnf
    refine ⟨⟨6206,[119],[]⟩,?_⟩;conv=>whnf
    rw [hwd]
    have hz:=hZ1 (d+1) hldK (by omega)
    rw [hm] at hz
    exact hz
   have g25:K.getD d 0=K.getD c 0:=by rw [hKc,hKd]; have h:(K[d] != K[c])=false:=g13_25; simpa using h
   have hm:=donP_no (cs:=cs) (K:=K) (P:=P) (c:=c) (l:=l) (d:=d) (g:=(fun d=>refP ls.length cs K f c (l+1) (set2 P c l (d:Int)))) fun q=>q.2.1 g25
   conv=>whnf
   refine ⟨?_⟩;conv=>whnf
   refine ⟨⟨6206,[119],[]⟩,?_⟩;conv=>whnf
   rw [hwd]
   have hz:=hZ1 (d+1) hldK (by omega)
   rw [hm] at hz
   exact hz
  have g14:¬ hasI cs d l=K.getD c 0:=fun e=>by have h:(cs[d].2[l]==K[c])=false:=g13_14; rw [←hk2,←hKc,e] at h; simp at h
  have hm:=donP_no (cs:=cs) (K:=K) (P:=P) (c:=c) (l:=l) (d:=d) (g:=(fun d=>refP ls.length cs K f c (l+1) (set2 P c l (d:Int)))) fun q=>g14 q.1
  conv=>whnf
  refine ⟨?_⟩;conv=>whnf
  refine ⟨⟨6206,[119],[]⟩,?_⟩;conv=>whnf
  rw [hwd]
  have hz:=hZ1 (d+1) hldK (by omega)
  rw [hm] at hz
  exact hz
 have hgd:d=K.length:=by have:=of_decide_eq_false h11; omega
 conv=>whnf
 refine ⟨?_⟩;conv=>whnf
 rw [hgd,hK]
 exact congrArg (fun l=>AV.sl (S:=S) U.intss l none) (show _=refP ls.length cs K (f+1) c l P from by conv=>rhs; unfold refP; rw [if_neg h1t,if_neg h3t,if_neg h5t,if_neg h7t])
theorem c95 (gl:Gl) (p:Int) (ls:List Lf) (cs:List Cp) (hV:Valid p ls cs) (K:List Int) (hK:K.length=cs.length):∀ (f c l:Nat) (P:List (List Int)),c≤cs.length→l≤ls.length→RectT cs.length ls.length P→(cs.length - c) * (ls.length+1)+(ls.length - l)+1≤f →
  PCalls PR gl 95 [.agg [vI p,lfsV ls,cpsV cs],vL K,intsV P,vI c,vI l] fun r=>r=.sl (S:=S) U.intss (refP ls.length cs K f c l P) none
 | 0,c,l,P,_,_,_,h=>by omega
 | f+1,c,l,P,h1,h2,h3,h4=>c95s gl p ls cs hV K hK f (c95 gl p ls cs hV K hK f) c l P h1 h2 h3 h4
theorem whe_iff {A:Tb} {c:Int} {l:Nat}:∀ {i:Nat},wheI A c l i=-1↔∀ j,j < i→get2 A j l≠c
 | 0=>⟨fun _ j h=>absurd h (Nat.not_lt_zero j),fun _=>rfl⟩
 | i+1=>by
  refine ⟨fun h j hj=>?_,whe_no⟩
  unfold wheI at h
  by_cases g:wheI A c l i=-1
  ·rw [if_pos g] at h
   rcases Nat.lt_succ_iff_lt_or_eq.1 hj with e | e
   ·exact whe_iff.1 g j e
   intro q; rw [e] at q; rw [if_pos q] at h; omega
  rw [if_neg g] at h; exact absurd h g
def rowsT (n m:Nat) (P:Tb):Tb:=(List.range m).map fun c=>(P.getD c []).take n
theorem rowsT_row {n m:Nat} {P:Tb} {c:Nat} (hc:c < m):(rowsT n m P).getD c []=(P.getD c []).take n:=by
 unfold rowsT
 rw [getD_at (by rw [List.length_map,List.length_range]; exact hc),List.getElem_map,List.getElem_range]
theorem rowsT_rect {n m:Nat} {P:Tb} (ht:Tb46 P) (hn:n≤6) (hm:m≤4):RectT m n (rowsT n m P) :=
 ⟨by unfold rowsT; rw [List.length_map,List.length_range],fun c hc=>by rw [rowsT_row hc,row_len ht _ (by omega)]; omega⟩
theorem rowsT_get {n m:Nat} {P:Tb} {c x:Nat} (hc:c < m) (hx:x < n):get2 (rowsT n m P) c x=get2 P c x:=by
 unfold get2
 rw [rowsT_row hc,List.getD_eq_getElem?_getD,List.getD_eq_getElem?_getD (l:=P.getD c []),List.getElem?_take,if_pos hx]
theorem rect_ext {m n:Nat} {A B:Tb} (hA:RectT m n A) (hB:RectT m n B) (h:∀ c x,c < m→x < n→get2 A c x=get2 B c x):A=B:=by
 apply List.ext_getElem (by rw [hA.len,hB.len])
 intro c h1 h2
 have hc:c < m:=by rw [←hA.len]; exact h1
 have ha:=hA.row c hc
 have hb:=hB.row c hc
 have e:=fun x hx=>h c x hc hx
 unfold get2 at e
 rw [getD_at h1] at ha
 rw [getD_at h2] at hb
 simp only [getD_at h1,getD_at h2] at e
 apply List.ext_getElem (by rw [ha,hb])
 intro l h3 h4
 have:=e l (by omega)
 rwa [getD_at h3,getD_at h4] at this
theorem rset {m n:Nat} {A:Tb} (h:RectT m n A) {c l:Nat} {v:Int} (hc:c < m) (hl:l < n) (a x:Nat):get2 (set2 A c l v) a x=if c=a∧l=x then v else get2 A a x:=by
 unfold get2 Go.Ab.MkF.set2
 by_cases e:c=a
 ·subst e
  rw [getD_set_self (by rw [h.len]; exact hc)]
  by_cases e2:l=x
  ·subst e2
   rw [if_pos ⟨rfl,rfl⟩,List.getD_eq_getElem?_getD,List.getElem?_set,if_pos rfl,if_pos (by rw [h.row c hc]; exact hl)]; rfl
  rw [if_neg fun q=>e2 q.2,List.getD_eq_getElem?_getD,List.getElem?_set,if_neg e2,←List.getD_eq_getElem?_getD]
 rw [if_neg fun q=>e q.1,List.getD_eq_getElem?_getD (l:=A.set c _),List.getElem?_set,if_neg e,←List.getD_eq_getElem?_getD]
section
variable {m n:Nat} {cs:List Cp} {K H:List Int} {A P Q:Tb} {g:List Nat}
def KeepC (cs:List Cp) (K:List Int) (Q:Tb) (c x:Nat):Prop:=K.getD c 0=0∧hasI cs c x > 0∧∀ i,i < cs.length→get2 Q i x≠(c:Int)
theorem keptR_get (h:RectT cs.length n Q) {c:Nat} (hc:c < cs.length) (a x:Nat):∀ l,l≤n→(a=c∧x < l∧KeepC cs K Q c x→get2 (keptR cs K Q c l) a x=(c:Int))∧(¬ (a=c∧x < l∧KeepC cs K Q c x)→get2 (keptR cs K Q c l) a x=get2 Q a x)
 | 0,_=>⟨fun q=>by omega,fun _=>rfl⟩
 | l+1,hl=>by
  have ih:=fun a x=>keptR_get h hc a x l (by omega)
  have hR:RectT cs.length n (keptR cs K Q c l):=keptR_ok h c l
  have hcol:∀ j,get2 (keptR cs K Q c l) j l=get2 Q j l:=fun j=>(ih j l).2 fun q=>by omega
  have hcond:(K.getD c 0=0∧hasI cs c l > 0∧wheI (keptR cs K Q c l) (c:Int) l (keptR cs K Q c l).length=-1)↔KeepC cs K Q c l:=by
   rw [hR.len,whe_iff]
   unfold KeepC
   simp only [hcol]
  by_cases gk:KeepC cs K Q c l
  ·rw [keptR_yes (hcond.2 gk),rset hR hc (by omega)]
   refine ⟨fun q=>?_,fun q=>?_⟩
   ·by_cases e:c=a∧l=x
    ·rw [if_pos e]
    rw [if_neg e]; exact (ih a x).1 ⟨q.1,by omega,q.2.2⟩
   rw [if_neg]
   ·exact (ih a x).2 fun e=>q ⟨e.1,by omega,e.2.2⟩
   rintro ⟨rfl,rfl⟩; exact q ⟨rfl,by omega,gk⟩
  rw [keptR_no fun q=>gk (hcond.1 q)]
  refine ⟨fun q=>(ih a x).1 ⟨q.1,?_,q.2.2⟩,fun q=>(ih a x).2 fun e=>q ⟨e.1,by omega,e.2.2⟩⟩
  rcases Nat.lt_succ_iff_lt_or_eq.1 q.2.1 with e | e
  ·exact e
  rw [e] at q; exact absurd q.2.2 gk
theorem keptU_get (h:RectT cs.length n A) (h0:∀ i x,i < cs.length→x < n→K.getD i 0=0→get2 A i x=-1) (a x:Nat) (hx:x < n) (ha:a < cs.length):∀ c,c≤cs.length→(a < c∧KeepC cs K A a x→get2 (keptU n cs K A c) a x=(a:Int))∧(¬ (a < c∧KeepC cs K A a x)→get2 (keptU n cs K A c) a x=get2 A a x)
 | 0,_=>⟨fun q=>by omega,fun _=>rfl⟩
 | c+1,hc=>by
  have ih:=fun a ha=>keptU_get h h0 a x hx ha c (by omega)
  have hR:RectT cs.length n (keptU n cs K A c):=keptU_ok h c
  have hk:KeepC cs K (keptU n cs K A c) c x↔KeepC cs K A c x:=by
   unfold KeepC
   refine and_congr_right fun _=>and_congr_right fun _=>forall_congr' fun i=>forall_congr' fun hi=>?_
   by_cases e:i < c∧KeepC cs K A i x
   ·rw [(ih i hi).1 e]
    have hz:=h0 i x hi hx e.2.1
    rw [hz]
    constructor <;> intro _ <;> omega
   rw [(ih i hi).2 e]
  have hg:=keptR_get (K:=K) hR (show c < cs.length by omega) a x n (Nat.le_refl _)
  show (_→get2 (keptR cs K (keptU n cs K A c) c n) a x=_)∧(_→get2 (keptR cs K (keptU n cs K A c) c n) a x=_)
  by_cases e:a=c
  ·subst e
   refine ⟨fun q=>hg.1 ⟨rfl,hx,hk.2 q.2⟩,fun q=>?_⟩
   rw [hg.2 fun e=>q ⟨by omega,hk.1 e.2.2⟩]
   exact (ih a ha).2 fun e=>by omega
  rw [hg.2 fun q=>e q.1]
  exact ⟨fun q=>(ih a ha).1 ⟨by omega,q.2⟩,fun q=>(ih a ha).2 fun e2=>q ⟨by omega,e2.2⟩⟩
structure SimA (n:Nat) (cs:List Cp) (H:List Int) (i l:Nat) (A P:Tb):Prop where
 rect:RectT cs.length n A
 a:∀ c x,c < cs.length→x < n→H.getD c 0≠0→erl i l c x→get2 A c x=get2 P c x
 b:∀ c x,c < cs.length→x < n→¬ (H.getD c 0≠0∧erl i l c x)→get2 A c x=-1
theorem SimA.next {i l:Nat} (hl:l=n∨H.getD i 0=0) (h:SimA n cs H i l A P):SimA n cs H (i+1) 0 A P:=by
 have e:∀ {c x},x < n→H.getD c 0≠0→(erl (i+1) 0 c x↔erl i l c x):=fun {c x} hx hc=>by
  unfold erl
  constructor
  ·rintro (h1 | ⟨_,h1⟩)
   ·rcases Nat.lt_or_eq_of_le (Nat.le_of_lt_succ h1) with h2 | rfl
    ·exact .inl h2
    rcases hl with rfl | hl
    ·exact .inr ⟨rfl,hx⟩
    exact absurd hl hc
   omega
  rintro (h1 | ⟨h1,_⟩) <;> exact .inl (by omega)
 exact ⟨h.rect,fun c x a1 a2 a3 a4=>h.a c x a1 a2 a3 ((e a2 a3).1 a4),fun c x a1 a2 a3=>h.b c x a1 a2 fun q=>a3 ⟨q.1,(e a2 q.1).2 q.2⟩⟩
theorem SimA.set {i l:Nat} (h:SimA n cs H i l A P) (ht:Tb46 P) (hi:i < cs.length) (hm:cs.length≤4) (hl:l < n) (hn:n≤6) (hH:H.getD i 0≠0) (v:Int):SimA n cs H i (l+1) (set2 A i l v) (set2 P i l v):=by
 have gA:=rset h.rect (v:=v) hi hl
 have gP:=get2_set2 (v:=v) ht (show i < 4 by omega) (show l < 6 by omega)
 refine ⟨h.rect.set2 _ _ _,fun c x a1 a2 a3 a4=>?_,fun c x a1 a2 a3=>?_⟩
 ·rw [gA,gP]
  by_cases e:i=c∧l=x
  ·rw [if_pos e,if_pos e]
  rw [if_neg e,if_neg e]
  rcases erl_succ.1 a4 with a4 | a4
  ·exact h.a c x a1 a2 a3 a4
  exact absurd ⟨a4.1.symm,a4.2.symm⟩ e
 rw [gA,if_neg]
 ·exact h.b c x a1 a2 fun q=>a3 ⟨q.1,erl_succ.2 (.inl q.2)⟩
 rintro ⟨rfl,rfl⟩; exact a3 ⟨hH,erl_succ.2 (.inr ⟨rfl,rfl⟩)⟩
theorem kept_leaf (hm:cs.length≤4) (hn:n≤6) (hK:∀ c,K.getD c 0=H.getD c 0) (hH:∀ c,0≤H.getD c 0) (h:PlP n cs H cs.length 0 P g) (hs:SimA n cs H cs.length 0 A P):keptU n cs K A cs.length=rowsT n cs.length (leafU n cs H g P cs.length):=by
 have he:∀ {c x},c < cs.length→erl cs.length 0 c x:=fun hc=>.inl hc
 refine rect_ext (keptU_ok hs.rect _) (rowsT_rect (leafU_ok h.t _) hn hm) fun c x hc hx=>?_
 rw [rowsT_get hc hx,leafU_get h.t hn c x cs.length hm]
 have h0:∀ i x,i < cs.length→x < n→K.getD i 0=0→get2 A i x=-1:=fun i x a1 a2 a3=>hs.b i x a1 a2 fun q=>q.1 (by rw [←hK]; exact a3)
 have hg:=keptU_get hs.rect h0 c x hx hc cs.length (Nat.le_refl _)
 by_cases hz:H.getD c 0=0
 ·rw [if_pos ⟨hc,hx,by omega⟩]
  have hbit:(g.getD c 0).testBit x=false↔∀ i,i < cs.length→get2 A i x≠(c:Int):=by
   rw [Bool.eq_false_iff,Ne,h.g c x hx hc]
   constructor
   ·intro hno i b1 b3
    by_cases b2:H.getD i 0=0
    ·rw [hs.b i x b1 hx fun q=>q.1 b2] at b3; omega
    rw [hs.a i x b1 hx b2 (he b1)] at b3
    by_cases b4:hasI cs i x=H.getD i 0
    ·rw [h.own i x b1 hx b2 (he b1) b4] at b3
     obtain rfl:i=c:=by omega
     exact b2 hz
    exact hno ⟨i,b1,b2,he b1,b4,b3⟩
   rintro hall ⟨i,b1,b2,b3,_,b5⟩
   exact hall i b1 (by rw [hs.a i x b1 hx b2 b3]; exact b5)
  by_cases k:KeepC cs K A c x
  ·rw [hg.1 ⟨hc,k⟩,decide_eq_true k.2.1,hbit.2 k.2.2]; rfl
  rw [hg.2 fun q=>k q.2,hs.b c x hc hx fun q=>q.1 hz]
  cases hb:(g.getD c 0).testBit x with
  | true=>rw [show (decide (hasI cs c x > 0)&&!true)=false from by simp]; rfl
  | false =>
   have:¬ hasI cs c x > 0:=fun p=>k ⟨by rw [hK]; exact hz,p,hbit.1 hb⟩
   rw [decide_eq_false this]; rfl
 rw [if_neg fun q=>q.2.2 (by have:=hH c; omega),hg.2 fun q=>hz (by rw [←hK]; exact q.2.1),hs.a c x hc hx hz (he hc)]
theorem donP_flat {c l:Nat} {f:Nat→List Tb}:∀ d,donP cs K A c l f d=(List.range d).flatMap fun d=>if hasI cs d l=K.getD c 0∧K.getD d 0≠K.getD c 0∧wheI A (d:Int) l A.length=-1 then f d else []
 | 0=>rfl
 | d+1=>by
  rw [List.range_succ,List.flatMap_append,←donP_flat d]
  by_cases e:hasI cs d l=K.getD c 0∧K.getD d 0≠K.getD c 0∧wheI A (d:Int) l A.length=-1
  ·rw [donP_yes e]
   show _=_++((if _ then f d else [])++[])
   rw [if_pos e,List.append_nil]
  rw [donP_no e]
  show _=_++((if _ then f d else [])++[])
  rw [if_neg e,List.append_nil,List.append_nil]
theorem filter_flat {α β:Type} (p:α→Bool) (f:α→List β):∀ l:List α,(l.filter p).flatMap f=l.flatMap fun x=>if p x=true then f x else []
 | []=>rfl
 | x :: l=>by
  rw [List.flatMap_cons,←filter_flat p f l,List.filter_cons]
  cases p x with
  | true=>rw [if_pos rfl,if_pos rfl,List.flatMap_cons]
  | false=>rw [if_neg (by simp),if_neg (by simp)]; rfl
theorem flat_congr {α β:Type} {f f':α→List β}:∀ {l:List α},(∀ x∈l,f x=f' x)→l.flatMap f=l.flatMap f'
 | [],_=>rfl
 | x :: l,h=>by rw [List.flatMap_cons,List.flatMap_cons,h x List.mem_cons_self,flat_congr fun y hy=>h y (List.mem_cons_of_mem _ hy)]
theorem refP_eq (hm:cs.length≤4) (hn:n≤6) (hK:∀ c,K.getD c 0=H.getD c 0) (hH:∀ c,0≤H.getD c 0):∀ (f c l:Nat) (A P:Tb) (g:List Nat),c≤cs.length→l≤n→(c=cs.length→l=0)→(cs.length - c) * (n+1)+(n - l)+1≤f→PlP n cs H c l P g→SimA n cs H c l A P →
  refP n cs K f c l A=(planS n cs H (cs.length - c) (n - l) P g).map (rowsT n cs.length)
 | 0,c,l,A,P,g,_,_,_,h,_,_=>by omega
 | f + 1,c,l,A,P,g,hc,hl,hc0,hf,hp,hs=>by
  show (if c=cs.length then _ else _)=_
  by_cases h1:c=cs.length
  ·have:=hc0 h1
   subst this
   subst h1
   rw [if_pos rfl,Nat.sub_self]
   show _=[leafU n cs H g P cs.length].map _
   rw [kept_leaf hm hn hK hH hp hs]; rfl
  rw [if_neg h1]
  obtain ⟨s,hs1⟩:∃ s,cs.length - c=s+1:=⟨cs.length - c - 1,by omega⟩
  have hcs:cs.length - (s+1)=c:=by omega
  have hsn:cs.length - (c+1)=s:=by omega
  have hci:c < cs.length:=by omega
  rw [hs1] at hf ⊢
  have hf':s * (n+1)+(n+1)+(n - l)+1≤f+1:=by rw [Nat.succ_mul] at hf; exact hf
  have ihn:=fun q:l=n∨H.getD c 0=0=>refP_eq hm hn hK hH f (c+1) 0 A P g (by omega) (Nat.zero_le _) (fun _=>rfl) (by rw [hsn]; omega) (hp.next q) (hs.next q)
  rw [hsn,Nat.sub_zero] at ihn
  simp only [planS,hcs]
  by_cases h2:l=n
  ·subst h2
   rw [if_pos rfl,ihn (.inl rfl),Nat.sub_self]
   simp only [planR]
  rw [if_neg h2]
  obtain ⟨r,hr⟩:∃ r,n - l=r+1:=⟨n - l - 1,by omega⟩
  have hrl:n - (r+1)=l:=by omega
  have hrn:n - (l+1)=r:=by omega
  have hln:l < n:=by omega
  rw [hr]
  simp only [planR,hrl]
  rw [hK]
  by_cases h3:H.getD c 0=0
  ·rw [if_pos h3,if_pos h3,ihn (.inr h3)]
  rw [if_neg h3,if_neg h3]
  have ihs:=fun (v:Int) (g':List Nat) (q:PlP n cs H c (l+1) (set2 P c l v) g')=>refP_eq hm hn hK hH f c (l+1) (set2 A c l v) (set2 P c l v) g' hc (by omega) (fun e=>absurd e h1) (by rw [hs1,Nat.succ_mul]; omega) q (hs.set hp.t hci hm hln hn h3 v)
  rw [hs1,hrn] at ihs
  simp only [planS,hcs] at ihs
  have hbit:=fun d (hd:d < cs.length)=>havN_bit hd l (H.getD c 0)
  by_cases h4:hasI cs c l=H.getD c 0
  ·rw [if_pos h4,if_pos (by rw [hbit c hci,h4]; exact beq_self_eq_true _),ihs _ _ (hp.mine hci hm hln hn h3 h4)]
  rw [if_neg h4,if_neg (by rw [hbit c hci]; simpa using h4)]
  have hbl:bitsL (havN cs l (H.getD c 0))=(List.range cs.length).filter (havN cs l (H.getD c 0)).testBit:=bitsL_below (by omega) (by
   unfold havN
   exact bitsO_lt fun x hx=>List.mem_range.1 (List.mem_filter.1 hx).1)
  rw [hbl,filter_flat,donP_flat,List.map_flatMap]
  refine flat_congr fun d hd=>?_
  have hd:=List.mem_range.1 hd
  rw [hbit d hd,hK,hK]
  by_cases h5:hasI cs d l=H.getD c 0
  ·rw [if_pos (show (hasI cs d l==H.getD c 0)=true from beq_iff_eq.2 h5)]
   by_cases h6:H.getD d 0=H.getD c 0
   ·rw [if_neg fun q=>q.2.1 h6,if_pos (by rw [h6]; simp)]; rfl
   have hw:wheI A (d:Int) l A.length=-1↔(g.getD d 0).testBit l=false:=by
    rw [hs.rect.len,whe_iff,Bool.eq_false_iff,Ne,hp.g d l hln hd]
    constructor
    ·rintro hall ⟨i,b1,b2,b3,_,b5⟩
     exact hall i b1 (by rw [hs.a i l b1 hln b2 b3]; exact b5)
    ·intro hno i b1 b3
     by_cases b2:H.getD i 0≠0∧erl c l i l
     ·rw [hs.a i l b1 hln b2.1 b2.2] at b3
      by_cases b4:hasI cs i l=H.getD i 0
      ·rw [hp.own i l b1 hln b2.1 b2.2 b4] at b3
       obtain rfl:i=d:=by omega
       exact h6 (by rw [←b4,h5])
      exact hno ⟨i,b1,b2.1,b2.2,b4,b3⟩
     rw [hs.b i l b1 hln b2] at b3; omega
   cases hb:(g.getD d 0).testBit l with
   | true=>rw [if_neg (fun q=>by have:=hw.1 q.2.2; rw [hb] at this; cases this),if_pos (by simp)]; rfl
   | false=>rw [if_pos ⟨h5,h6,hw.2 hb⟩,if_neg (by simpa using h6),ihs _ _ (hp.give hci hm hln hn h3 h4 hd h5 h6 hb)]
  rw [if_neg fun q=>h5 q.1,if_neg (by simpa using h5)]; rfl
theorem refP_all (hm1:1≤cs.length) (hm:cs.length≤4) (hn:n≤6) (hK:∀ c,K.getD c 0=H.getD c 0) (hH:∀ c,0≤H.getD c 0) {f:Nat} (hf:cs.length * (n+1)+n+1≤f) :
  refP n cs K f 0 0 (List.replicate cs.length (List.replicate n (-1)))=(planA n cs H).map (rowsT n cs.length):=by
 have he:∀ {c x},¬ erl 0 0 c x:=fun h=>by unfold erl at h; omega
 have h0:PlP n cs H 0 0 z46 [0,0,0,0]:=by
  refine ⟨z46_ok,fun c x _=>get_z46 c x,fun c x _ _ _ h=>absurd h he,fun c x _ _ _ h=>absurd h he,fun c c' x _ _ _ _ _ h=>absurd h he,rfl,fun d x _ hd=>⟨fun h=>?_,fun ⟨_,_,_,h,_⟩=>absurd h he⟩⟩
  match d,(by omega:d < 4) with
  | 0,_ | 1,_ | 2,_ | 3,_=>simp at h
 have hrow:∀ c,c < cs.length→(List.replicate cs.length (List.replicate n (-1:Int))).getD c []=List.replicate n (-1):=fun c hc=>by
  rw [getD_at (by rw [List.length_replicate]; exact hc),List.getElem_replicate]
 have hs:SimA n cs H 0 0 (List.replicate cs.length (List.replicate n (-1))) z46:=by
  refine ⟨⟨List.length_replicate ..,fun c hc=>by rw [hrow c hc,List.length_replicate]⟩,fun c x _ _ _ h=>absurd h he,fun c x hc hx _=>?_⟩
  unfold get2
  rw [hrow c hc,getD_at (by rw [List.length_replicate]; exact hx),List.getElem_replicate]
 have:=refP_eq hm hn hK hH f 0 0 _ _ _ (Nat.zero_le _) (Nat.zero_le _) (fun e=>by omega) (by rw [Nat.sub_zero,Nat.sub_zero]; exact hf) h0 hs
 rw [Nat.sub_zero,Nat.sub_zero] at this
 exact this
end
def betT (ls:List Lf) (cs:List Cp) (Q B:Tb):Bool:=befL [(movU Q Q.length:Int),(ctU ls cs Q cs.length:Int)] [(movU B B.length:Int),(ctU ls cs B cs.length:Int)] ||
 (decide ([(movU Q Q.length:Int),(ctU ls cs Q cs.length:Int)]=[(movU B B.length:Int),(ctU ls cs B cs.length:Int)])&&befR Q B)
def stpT (ls:List Lf) (cs:List Cp) (o:Option Tb) (Q:Tb):Option Tb:=some (if betT ls cs Q (o.getD Q)=true then Q else o.getD Q)
def enF (ls:List Lf) (cs:List Cp) (K:List Int):Nat→Bool
 | 0=>true
 | k+1=>enF ls cs K k&&(((cntI K ((k+1:Nat):Int):Nat):Int)==((hvA cs (scaU cs ((k+1:Nat):Int) ls.length) ((k+1:Nat):Int):Nat):Int))
def blkT (ls:List Lf) (cs:List Cp):Tb:=List.replicate cs.length (List.replicate ls.length (-1))
abbrev lstT (ls:List Lf) (cs:List Cp) (K:List Int):List Tb:=refP ls.length cs K 36 0 0 (blkT ls cs)
def rndT (ls:List Lf) (cs:List Cp) (o:Option Tb) (K:List Int):Option Tb:=if enF ls cs K 2=true then (lstT ls cs K).foldl (stpT ls cs) o else o
def bestT (ls:List Lf) (cs:List Cp):Option Tb:=(kinL cs.length []).foldl (rndT ls cs) none
def keyT (ls:List Lf) (cs:List Cp) (Q:Tb):List Int:=(movU Q Q.length:Int) :: (ctU ls cs Q cs.length:Int) :: Q.flatten
theorem befR_flat {n:Nat}:∀ {A B:Tb},A.length=B.length→(∀ r∈A,r.length=n)→(∀ r∈B,r.length=n)→befR A B=befL A.flatten B.flatten
 | [],[],_,_,_=>rfl
 | a :: A,[],h,_,_=>by simp at h
 | [],b :: B,h,_,_=>by simp at h
 | a :: A,b :: B,h,h1,h2=>by
  rw [List.flatten_cons,List.flatten_cons,befL_app (by rw [h1 a List.mem_cons_self,h2 b List.mem_cons_self]),←befR_flat (A:=A) (B:=B) (by simpa using h) (fun r hr=>h1 r (List.mem_cons_of_mem _ hr)) fun r hr=>h2 r (List.mem_cons_of_mem _ hr)]
  rfl
theorem RectT.rows {m n:Nat} {A:Tb} (h:RectT m n A):∀ r∈A,r.length=n:=fun r hr=>by
 obtain ⟨i,hi,rfl⟩:=List.getElem_of_mem hr
 have:=h.row i (by rw [←h.len]; exact hi)
 rwa [getD_at hi] at this
theorem flat_len {n:Nat}:∀ {A:Tb},(∀ r∈A,r.length=n)→A.flatten.length=A.length * n
 | [],_=>by simp
 | a :: A,h=>by rw [List.flatten_cons,List.length_append,flat_len (fun r hr=>h r (List.mem_cons_of_mem _ hr)),h a List.mem_cons_self,List.length_cons,Nat.succ_mul,Nat.add_comm]
section
variable {p:Int} {ls:List Lf} {cs:List Cp} {K:List Int} {P Q B:Tb}
theorem betT_key (hQ:RectT cs.length ls.length Q) (hB:RectT cs.length ls.length B):betT ls cs Q B=befL (keyT ls cs Q) (keyT ls cs B):=by
 unfold betT keyT
 rw [befR_flat (by rw [hQ.len,hB.len]) hQ.rows hB.rows,befL_cons,befL_cons,befL_cons,befL_cons]
 generalize (movU Q Q.length:Int)=x
 generalize (movU B B.length:Int)=y
 generalize (ctU ls cs Q cs.length:Int)=z
 generalize (ctU ls cs B cs.length:Int)=t
 rw [show befL ([]:List Int) []=false from rfl]
 by_cases h1:x=y
 ·subst h1
  by_cases h2:z=t
  ·subst h2; simp
  simp [h2]
 simp [h1]
theorem keyT_len (hQ:RectT cs.length ls.length Q) (hB:RectT cs.length ls.length B):(keyT ls cs Q).length=(keyT ls cs B).length:=by
 unfold keyT
 rw [List.length_cons,List.length_cons,List.length_cons,List.length_cons,flat_len hQ.rows,flat_len hB.rows,hQ.len,hB.len]
theorem foldT:∀ (l:List Tb) (B:Tb),(∀ v∈l,RectT cs.length ls.length v)→RectT cs.length ls.length B→∃ b,l.foldl (stpT ls cs) (some B)=some b∧(b=B∨b∈l)∧RectT cs.length ls.length b ∧
  befL (keyT ls cs B) (keyT ls cs b)=false∧∀ v∈l,befL (keyT ls cs v) (keyT ls cs b)=false
 | [],B,_,hB=>⟨B,rfl,.inl rfl,hB,befL_irr _,fun v hv=>by cases hv⟩
 | a :: l,B,hl,hB=>by
  have ha:=hl a List.mem_cons_self
  obtain ⟨c,hc⟩:∃ c,c=if betT ls cs a B=true then a else B:=⟨_,rfl⟩
  have hcr:RectT cs.length ls.length c:=by rw [hc]; split <;> assumption
  obtain ⟨b,h0,h1,h2,h3,h4⟩:=foldT l c (fun v hv=>hl v (List.mem_cons_of_mem _ hv)) hcr
  have hst:stpT ls cs (some B) a=some c:=by rw [hc]; rfl
  have neg:∀ x:Tb,RectT cs.length ls.length x→befL (keyT ls cs x) (keyT ls cs c)=false→befL (keyT ls cs x) (keyT ls cs b)=false:=fun x hx hn=>by
   cases hq:befL (keyT ls cs x) (keyT ls cs b) with
   | false=>rfl
   | true =>
    cases hr:befL (keyT ls cs b) (keyT ls cs c) with
    | true=>rw [befL_trans _ _ _ hq hr] at hn; cases hn
    | false =>
     have:=befL_total _ _ (keyT_len hcr h2) h3 hr
     rw [this,hq] at hn; cases hn
  have hcB:befL (keyT ls cs B) (keyT ls cs c)=false∧befL (keyT ls cs a) (keyT ls cs c)=false:=by
   rw [betT_key ha hB] at hc
   cases hq:befL (keyT ls cs a) (keyT ls cs B) with
   | true =>
    rw [hq,if_pos rfl] at hc
    subst hc
    refine ⟨?_,befL_irr _⟩
    cases hr:befL (keyT ls cs B) (keyT ls cs c) with
    | false=>rfl
    | true=>have:=befL_trans _ _ _ hq hr; rw [befL_irr] at this; cases this
   | false =>
    rw [hq,if_neg (by simp)] at hc
    subst hc
    exact ⟨befL_irr _,hq⟩
  refine ⟨b,by rw [List.foldl_cons,hst]; exact h0,?_,h2,neg B hB hcB.1,fun v hv=>?_⟩
  ·rcases h1 with h1 | h1
   ·rw [hc] at h1
    split at h1
    ·exact .inr (by rw [h1]; exact List.mem_cons_self)
    exact .inl h1
   exact .inr (List.mem_cons_of_mem _ h1)
  rcases List.mem_cons.1 hv with rfl | hv
  ·exact neg v ha hcB.2
  exact h4 v hv
theorem kinL_mem:∀ {k:Nat} {B x:List Int},x∈kinL k B↔∃ T,x=B++T∧T.length=k∧∀ y∈T,y=0∨y=1∨y=2
 | 0,B,x=>by
  show x∈[B]↔_
  rw [List.mem_singleton]
  constructor
  ·intro h; exact ⟨[],by rw [h,List.append_nil],rfl,fun y hy=>by cases hy⟩
  rintro ⟨T,h1,h2,_⟩
  rw [List.length_eq_zero_iff.1 h2,List.append_nil] at h1; exact h1
 | k+1,B,x=>by
  show x∈kinL k (B++[((0:Nat):Int)]) |> fun _=>x∈(([]++kinL k (B++[((0:Nat):Int)]))++kinL k (B++[((1:Nat):Int)]))++kinL k (B++[((2:Nat):Int)])↔_
  rw [List.mem_append,List.mem_append,List.nil_append,kinL_mem,kinL_mem,kinL_mem]
  constructor
  ·rintro ((⟨T,h1,h2,h3⟩ | ⟨T,h1,h2,h3⟩) | ⟨T,h1,h2,h3⟩)
   ·exact ⟨0 :: T,by rw [h1,List.append_assoc]; rfl,by rw [List.length_cons,h2],fun y hy=>(List.mem_cons.1 hy).elim (fun e=>.inl e) (h3 y)⟩
   ·exact ⟨1 :: T,by rw [h1,List.append_assoc]; rfl,by rw [List.length_cons,h2],fun y hy=>(List.mem_cons.1 hy).elim (fun e=>.inr (.inl e)) (h3 y)⟩
   exact ⟨2 :: T,by rw [h1,List.append_assoc]; rfl,by rw [List.length_cons,h2],fun y hy=>(List.mem_cons.1 hy).elim (fun e=>.inr (.inr e)) (h3 y)⟩
  rintro ⟨T,h1,h2,h3⟩
  match T,h2 with
  | t :: T,h2 =>
   have h4:∀ y∈T,y=0∨y=1∨y=2:=fun y hy=>h3 y (List.mem_cons_of_mem _ hy)
   have h5:T.length=k:=by simpa using h2
   rcases h3 t List.mem_cons_self with rfl | rfl | rfl
   ·exact .inl (.inl ⟨T,by rw [h1,List.append_assoc]; rfl,h5,h4⟩)
   ·exact .inl (.inr ⟨T,by rw [h1,List.append_assoc]; rfl,h5,h4⟩)
   exact .inr ⟨T,by rw [h1,List.append_assoc]; rfl,h5,h4⟩
theorem host_iff (hV:Valid p ls cs):(K∈kinL cs.length []∧enF ls cs K 2=true)↔HostOk ls cs K:=by
 have h1:=hV.n1
 have hs:∀ k:Int,hvA cs (scaU cs k ls.length) k=(mostN ls cs k).1:=fun k=>by
  have:=most_sca hV.m4 k (ls.length - 1)
  rw [show ls.length - 1+1=ls.length by omega] at this
  unfold mostN
  rw [this]
 have he:enF ls cs K 2=true↔cntI K 1=(mostN ls cs 1).1∧cntI K 2=(mostN ls cs 2).1:=by
  show ((true&&(((cntI K 1:Nat):Int)==((hvA cs (scaU cs 1 ls.length) 1:Nat):Int)))&&(((cntI K 2:Nat):Int)==((hvA cs (scaU cs 2 ls.length) 2:Nat):Int)))=true↔_
  rw [Bool.true_and,Bool.and_eq_true,beq_iff_eq,beq_iff_eq,hs,hs]
  omega
 rw [he,kinL_mem]
 constructor
 ·rintro ⟨⟨T,e,h2,h3⟩,h4,h5⟩
  rw [List.nil_append] at e
  subst e
  exact ⟨h2,h3,h4,h5⟩
 rintro ⟨a1,a2,a3,a4⟩
 exact ⟨⟨K,rfl,a1,a2⟩,a3,a4⟩
theorem lst_mem (hV:Valid p ls cs) (hh:HostOk ls cs K):Q∈lstT ls cs K↔∃ P,PlOk ls.length cs (pad4 K) P∧Q=rowsT ls.length cs.length P:=by
 have hm4:=hV.m4
 have hn6:=hV.n6
 have hf:cs.length * (ls.length+1)+ls.length+1≤36:=by
  have:=Nat.mul_le_mul hm4 (show ls.length+1≤7 by omega)
  omega
 have:=refP_all (K:=K) hV.m1 hm4 hn6 (fun c=>(pad_get c).symm) (fun c=>(hh.nn c).1) hf
 unfold lstT blkT
 rw [this,List.mem_map]
 constructor
 ·rintro ⟨P,h1,rfl⟩
  exact ⟨P,(planA_mem hV.m1 hm4 hn6 fun c=>(hh.nn c).1).1 h1,rfl⟩
 rintro ⟨P,h1,rfl⟩
 exact ⟨P,(planA_mem hV.m1 hm4 hn6 fun c=>(hh.nn c).1).2 h1,rfl⟩
theorem rows_key (hV:Valid p ls cs) (hh:HostOk ls cs K) (hq:PlOk ls.length cs (pad4 K) P):keyT ls cs (rowsT ls.length cs.length P)=keyV ls.length cs.length (wayQ ls cs (lackN cs (pad4 K)) P):=by
 have hs:SamT ls cs (rowsT ls.length cs.length P) P:=rows_same hV hq.t 0 0
 unfold keyT keyV
 rw [best_moved hV hh hq hs,best_cut hV hq hs]
 have hf:∀ m,(rowsT ls.length m P).flatten=flL ls.length P m:=fun m=>by
  induction m with
  | zero=>rfl
  | succ m ih =>
   show (List.map _ (List.range (m+1))).flatten=flL ls.length P m++_
   rw [rm9,List.flatten_append,←ih]
   simp [rowsT]
 rw [hf]; rfl
theorem ref_best (hV:Valid p ls cs):bestT ls cs=some (whoV p ls cs).1:=by
 have hall:bestT ls cs=(((kinL cs.length []).filter fun K=>enF ls cs K 2).flatMap (lstT ls cs)).foldl (stpT ls cs) none:=by
  unfold bestT
  generalize (none:Option Tb)=o
  generalize kinL cs.length []=l
  induction l generalizing o with
  | nil=>rfl
  | cons K l ih =>
   rw [List.foldl_cons,ih,List.filter_cons]
   unfold rndT
   cases enF ls cs K 2 with
   | true=>rw [if_pos rfl,if_pos rfl,List.flatMap_cons,List.foldl_append]
   | false=>rw [if_neg (by simp),if_neg (by simp)]
 have hmem:∀ Q,Q∈((kinL cs.length []).filter fun K=>enF ls cs K 2).flatMap (lstT ls cs)↔∃ K P,HostOk ls cs K∧PlOk ls.length cs (pad4 K) P∧Q=rowsT ls.length cs.length P:=fun Q=>by
  rw [List.mem_flatMap]
  constructor
  ·rintro ⟨K,h1,h2⟩
   have hh:=(host_iff hV).1 (List.mem_filter.1 h1)
   obtain ⟨P,h3,h4⟩:=(lst_mem hV hh).1 h2
   exact ⟨K,P,hh,h3,h4⟩
  rintro ⟨K,P,hh,h3,h4⟩
  exact ⟨K,List.mem_filter.2 ((host_iff hV).2 hh),(lst_mem hV hh).2 ⟨P,h3,h4⟩⟩
 rw [hall]
 generalize ((kinL cs.length []).filter fun K=>enF ls cs K 2).flatMap (lstT ls cs)=L at hmem
 have hrect:∀ v∈L,RectT cs.length ls.length v:=fun v hv=>by
  obtain ⟨K,P,_,h3,rfl⟩:=(hmem v).1 hv
  exact rowsT_rect h3.t hV.n6 hV.m4
 obtain ⟨h,Q,hh,hq,he,hle⟩:=best_spec hV
 have hin:=(hmem _).2 ⟨h,Q,hh,hq,rfl⟩
 cases L with
 | nil=>cases hin
 | cons a l =>
  have ha:=hrect a List.mem_cons_self
  obtain ⟨b,h0,h1,h2,h3,h4⟩:=foldT (ls:=ls) (cs:=cs) l a (fun v hv=>hrect v (List.mem_cons_of_mem _ hv)) ha
  have hst:stpT ls cs none a=some a:=by unfold stpT; rw [show (none:Option Tb).getD a=a from rfl,ite_self]
  rw [List.foldl_cons,hst,h0]
  have hbm:b∈a :: l:=by
   rcases h1 with rfl | h1
   ·exact List.mem_cons_self
   exact List.mem_cons_of_mem _ h1
  have hmin:∀ v∈a :: l,befL (keyT ls cs v) (keyT ls cs b)=false:=fun v hv=>by
   rcases List.mem_cons.1 hv with rfl | hv
   ·exact h3
   exact h4 v hv
  obtain ⟨K,P,hh',hq',rfl⟩:=(hmem b).1 hbm
  have e1:=hmin _ hin
  have e2:=hle K P hh' hq'
  rw [rows_key hV hh' hq'] at e1
  rw [rows_key hV hh hq,←he] at e1
  have hk:=befL_total _ _ (keyW_len hV.m4 hq'.t (by rw [he]; exact hq.t)) e2 e1
  have:=(key_rows hV.m4 hq'.t (by rw [he]; exact hq.t) hk).2.2
  have hw:(whoV p ls cs).1=rowsW (bestW ls cs) ls.length cs.length:=by unfold whoV; rw [if_pos (chk_valid.2 hV)]
  rw [hw,←this]; rfl
end
theorem bitsL_mem {n c a:Nat} (hc:c≤64) (hn:n < 2 ^ c):a∈bitsL n↔n.testBit a=true:=by
 rw [bitsL_below hc hn,List.mem_filter,List.mem_range]
 refine ⟨fun h=>h.2,fun h=>⟨?_,h⟩⟩
 rcases Nat.lt_or_ge a c with h2 | h2
 ·exact h2
 rw [Nat.testBit_lt_two_pow (Nat.lt_of_lt_of_le hn (Nat.pow_le_pow_right (by omega) h2))] at h; cases h
theorem less_test (a b k:Nat):(less a b).testBit k=(a.testBit k&&!b.testBit k):=by
 unfold less
 rw [Nat.testBit_xor,Nat.testBit_and]
 cases a.testBit k <;> cases b.testBit k <;> rfl
def Acc (hs:List Sn) (s:Nat):Prop:=∀ a b,a < b→b < hs.length→s.testBit a=false→s.testBit b=false→pairH hs a b=true
abbrev leastH (hs:List Sn):Nat:=(fewH hs (2 ^ hs.length)).1
def okJ (hs:List Sn) (L:List Int) (j:Nat):Bool:=(List.range L.length).all fun a=>!(L.getD a 0==(j:Int))||pairH hs a L.length
def allC (hs:List Sn):Nat→Nat→List Int→List (Nat×List Int)
 | 0,t,L=>[(t,L)]
 | k+1,t,L=>(List.range (t+1)).flatMap fun j=>if okJ hs L j then allC hs k (max t (j+1)) (L++[(j:Int)]) else []
def updS (s:Int×List Int) (q:Nat×List Int):Int×List Int:=if (q.1:Int)≥s.1 then s else ((q.1:Int),q.2)
structure Lk (hs:List Sn) (T:List Nat) (L:List Int):Prop where
 ok:SrcOk L.length T
 val:∀ a,a < L.length→∃ j:Nat,j < T.length∧L.getD a 0=(j:Int)
 bit:∀ j,j < T.length→∀ a,(T.getD j 0).testBit a=true↔a < L.length∧L.getD a 0=(j:Int)
 can:∀ a b,a < b→b < L.length→L.getD a 0=L.getD b 0→pairH hs a b=true
theorem Lk.nil (hs:List Sn):Lk hs [] []:=⟨⟨Nat.le_refl _,fun x h=>absurd h (by simp)⟩,fun a h=>absurd h (Nat.not_lt_zero _),fun j h=>absurd h (Nat.not_lt_zero _),fun a b _ h=>absurd h (Nat.not_lt_zero _)⟩
theorem getD_app_lt {α:Type} {l:List α} {x d:α} {i:Nat} (h:i < l.length):(l++[x]).getD i d=l.getD i d:=by
 rw [getD_at (by simp; omega),getD_at h,List.getElem_append_left h]
theorem getD_app_at {α:Type} {l:List α} {x d:α}:(l++[x]).getD l.length d=x:=by
 rw [getD_at (by simp)]; simp
theorem getD_app {α:Type} {l:List α} {x d:α} {i:Nat} (h:i < l.length+1):(i < l.length∧(l++[x]).getD i d=l.getD i d)∨i=l.length∧(l++[x]).getD i d=x:=by
 rcases Nat.lt_or_eq_of_le (Nat.le_of_lt_succ h) with h | rfl
 ·exact .inl ⟨h,getD_app_lt h⟩
 exact .inr ⟨rfl,getD_app_at⟩
theorem Lk.joinBit {hs:List Sn} {T:List Nat} {L:List Int} (h:Lk hs T L) {j:Nat} (hj:j≤T.length) (a:Nat):((sjoin T j (2 ^ L.length)).getD j 0).testBit a=true↔(a < L.length∧L.getD a 0=(j:Int))∨a=L.length:=by
 rcases Nat.lt_or_eq_of_le hj with hlt | rfl
 ·rw [sjoin_lt hlt,getD_at (by simpa using hlt),List.getElem_set_self,Nat.testBit_or,Nat.testBit_two_pow,Bool.or_eq_true,←getD_at (d:=0) hlt,h.bit j hlt a,decide_eq_true_eq]
  exact ⟨fun h=>h.imp id Eq.symm,fun h=>h.imp id Eq.symm⟩
 rw [sjoin_ge,getD_app_at,Nat.testBit_two_pow,decide_eq_true_eq]
 constructor
 ·exact fun h=>.inr h.symm
 rintro (⟨h1,h2⟩ | h1)
 ·obtain ⟨q,hq,h3⟩:=h.val a h1
  omega
 exact h1.symm
theorem Lk.okJ {hs:List Sn} {L:List Int} {j:Nat}:okJ hs L j=true↔∀ a,a < L.length→L.getD a 0=(j:Int)→pairH hs a L.length=true:=by
 unfold Go.Ab.MkF.okJ
 rw [List.all_eq_true]
 constructor
 ·intro h a ha he
  have:=h a (List.mem_range.2 ha)
  rw [he] at this
  simpa using this
 intro h a ha
 have ha:=List.mem_range.1 ha
 by_cases he:L.getD a 0=(j:Int)
 ·rw [h a ha he]; simp
 rw [show (L.getD a 0==(j:Int))=false from by simpa using he]; rfl
theorem Lk.join {hs:List Sn} {T:List Nat} {L:List Int} (h:Lk hs T L) {j:Nat} (hj:j≤T.length) (ho:Go.Ab.MkF.okJ hs L j=true):Lk hs (sjoin T j (2 ^ L.length)) (L++[(j:Int)]):=by
 have hlen:(L++[(j:Int)]).length=L.length+1:=by simp
 have hT:(sjoin T j (2 ^ L.length)).length=max T.length (j+1):=by
  rcases Nat.lt_or_eq_of_le hj with hlt | rfl
  ·rw [sjoin_lt hlt,List.length_set]; omega
  rw [sjoin_ge,List.length_append]; simp
 refine ⟨by rw [hlen]; exact h.ok.join hj,fun a ha=>?_,fun q hq a=>?_,fun a b hab hb he=>?_⟩
 ·rw [hT]
  rw [hlen] at ha
  rcases getD_app (x:=(j:Int)) (d:=0) ha with ⟨h1,h2⟩ | ⟨_,h2⟩
  ·obtain ⟨q,hq,h3⟩:=h.val a h1
   exact ⟨q,by omega,by rw [h2,h3]⟩
  exact ⟨j,by omega,h2⟩
 ·rw [hlen]
  by_cases hjq:q=j
  ·subst hjq
   rw [h.joinBit hj a]
   constructor
   ·rintro (⟨h1,h2⟩ | rfl)
    ·exact ⟨by omega,by rw [getD_app_lt h1]; exact h2⟩
    exact ⟨by omega,getD_app_at⟩
   rintro ⟨h1,h2⟩
   rcases getD_app (x:=(q:Int)) (d:=0) h1 with ⟨h3,h4⟩ | ⟨h3,_⟩
   ·exact .inl ⟨h3,by rw [←h4]; exact h2⟩
   exact .inr h3
  rw [hT] at hq
  have hql:q < T.length:=by omega
  have hg:(sjoin T j (2 ^ L.length)).getD q 0=T.getD q 0:=by
   rcases Nat.lt_or_eq_of_le hj with hlt | rfl
   ·rw [sjoin_lt hlt,getD_at (by simpa using hql),List.getElem_set_ne (Ne.symm hjq),getD_at hql]
   rw [sjoin_ge,getD_app_lt hql]
  rw [hg,h.bit q hql a]
  constructor
  ·rintro ⟨h1,h2⟩
   exact ⟨by omega,by rw [getD_app_lt h1]; exact h2⟩
  rintro ⟨h1,h2⟩
  rcases getD_app (x:=(j:Int)) (d:=0) h1 with ⟨h3,h4⟩ | ⟨_,h4⟩
  ·exact ⟨h3,by rw [←h4]; exact h2⟩
  rw [h4] at h2; omega
 rw [hlen] at hb
 rw [getD_app_lt (by omega)] at he
 rcases getD_app (x:=(j:Int)) (d:=0) hb with ⟨h3,h4⟩ | ⟨h3,h4⟩
 ·exact h.can a b hab h3 (by rw [←h4]; exact he)
 subst h3
 exact Lk.okJ.1 ho a hab (by rw [he,h4])
abbrev cols (hs:List Sn):List (Nat×List Int):=allC hs hs.length 0 []
structure Col (hs:List Sn) (m:Nat) (f:Nat→Nat):Prop where
 lt:∀ a,a < hs.length→f a < m
 can:∀ a b,a < b→b < hs.length→f a=f b→pairH hs a b=true
theorem bits_range {n c:Nat} (hc:c≤64) (hn:n < 2 ^ c) {a:Nat} (h:a∈bitsL n):a < c:=by
 rw [bitsL_below hc hn] at h
 exact List.mem_range.1 (List.mem_filter.1 h).1
theorem has_bits {X c k:Nat} (hc:c≤64) (hX:X < 2 ^ c):((natsV (bitsL X)).any fun x=>x==(k:Int))=X.testBit k:=by
 rw [Bool.eq_iff_iff,←bitsL_mem hc hX,List.any_eq_true]
 constructor
 ·rintro ⟨x,hx,he⟩
  obtain ⟨a,ha,rfl⟩:=List.mem_map.1 hx
  have:a=k:=by have:=eq_of_beq he; omega
  exact this ▸ ha
 exact fun h=>⟨(k:Int),List.mem_map.2 ⟨k,h,rfl⟩,by simp⟩
theorem restU_test (n:Nat) (l:List Nat) (k:Nat):∀ i,i≤l.length→(restU n (natsV l) i).testBit k=(decide (k < n)&&!(l.take i).contains k)
 | 0,_=>by
  show (2 ^ n - 1).testBit k=_
  rw [Nat.testBit_two_pow_sub_one]; simp
 | i+1,h=>by
  rw [restU_succ (by rw [List.length_map]; omega),less_test,restU_test n l k i (by omega),take_succ' (by omega:i < l.length)]
  simp only [List.getElem_map,Int.toNat_natCast,Nat.testBit_two_pow]
  rw [Bool.eq_iff_iff]
  simp only [Bool.and_eq_true,Bool.not_eq_true',decide_eq_true_eq,decide_eq_false_iff_not,List.contains_eq_mem,List.mem_append,List.mem_singleton,not_or]
  constructor
  ·rintro ⟨⟨h1,h2⟩,h3⟩; exact ⟨h1,h2,fun e=>h3 e.symm⟩
  rintro ⟨h1,h2,h3⟩; exact ⟨⟨h1,h2⟩,fun e=>h3 e.symm⟩
abbrev mustH (hs:List Sn):Nat:=allU hs.length (setsH hs) (setsH hs).length
abbrev mayH (hs:List Sn):Nat:=someU (setsH hs) (setsH hs).length
def someL (b n:Nat):List Nat:=(List.range n).filter b.testBit
theorem pairX_iff {x y:Sn}:pairX x y=true↔(x.1=y.1∨x.1 * y.1=0)∧x.2.1≤y.2.2∧y.2.1≤x.2.2:=by
 unfold pairX
 simp [and_assoc]
structure Blur (x y:Sn):Prop where
 kind:y.1=x.1∨y.1=0
 lo:y.2.1≤x.2.1
 hi:x.2.2≤y.2.2
theorem Blur.pair {x y z:Sn} (h:Blur x y) (hp:pairX x z=true):pairX y z=true:=by
 rw [pairX_iff] at hp ⊢
 obtain ⟨h1,h2,h3⟩:=hp
 have:=h.lo
 have:=h.hi
 refine ⟨?_,by omega,by omega⟩
 rcases h.kind with e | e
 ·rw [e]; exact h1
 rw [e]; simp
def blurV (x:Sn) (a b:Int):Sn:=(if a > b then 0 else x.1,max 1 (x.2.1 - a),min 600 (x.2.2+b))
end Go.Ab.MkF
