/-
  THE MADE FAMILY, PLAIN LAW, PART N: which plans there are.
  THE MADE FAMILY, PART RA: the reference: a hand.
  THE MADE FAMILY, PART RB: the reference: a leaf of a set.
  THE MADE FAMILY, PART RC: the reference: Check.
  THE MADE FAMILY, PART RG: the reference: what a set has.
  THE MADE FAMILY, PLAIN LAW, PART O: which hosts there are; for all of them there are plans.
  THE MADE FAMILY, PLAIN LAW, PART Q: the best way is the least one.
  THE MADE FAMILY, PLAIN LAW, PART S: what Whole returns: the least of all ways.
  THE MADE FAMILY, PART PD: a copy that gets a leaf: what it is worth.
  THE MADE FAMILY, PLAIN LAW, PART T: both kinds exchanged.
  THE MADE FAMILY, PLAIN LAW, PART U: the copies the other way round.
  THE MADE FAMILY, PART LJ: right.
  THE MADE FAMILY, PART LK: After.
  THE MADE FAMILY, PLAIN LAW, PART V: the copies after the best plan.
  THE MADE FAMILY, PART LM: Moved.
  THE MADE FAMILY, PART LN: Wholes.
  THE MADE FAMILY, PART LO: Where.
  THE MADE FAMILY, PLAIN LAW, PART X: any plan against the best one.
  THE MADE FAMILY, PART LQ: Cut.
  THE MADE FAMILY, PLAIN LAW, PART E: the fewest leaves: what is so of them.
  THE MADE FAMILY, PLAIN LAW, PART F: the fewest copies: what is so of them.
  THE MADE FAMILY, PLAIN LAW, PART H: leaves that are told, as a set.
  THE MADE FAMILY, PLAIN LAW, PART G: of MadeLeaf: one leaf more, or one that is seen less well.
  THE MADE FAMILY, PLAIN LAW, PART I: what some leaves have in common.
  THE MADE FAMILY, PLAIN LAW, PART J: leaves that are told, as the reference looks at them.
  THE MADE FAMILY, PLAIN LAW, PART L: Sources, as the reference says it.
  THE MADE FAMILY, PLAIN LAW, PART M: of MadeTold: a copy that was made up of some copies.
  THE MADE FAMILY, PLAIN LAW, PART K: Foreign and Sure, as the reference says them.
  THE MADE FAMILY, PART LH: what the laws of a hand have in common.
  THE MADE FAMILY, PART RD: the reference: what leaves have in common.
  THE MADE FAMILY, PART RE: the reference: Foreign, Sure, Sources.
  THE MADE FAMILY, PART LF: MadeTold.
  THE MADE FAMILY, PART LR: Plan.
  THE MADE FAMILY, PART LA: MadeWorth.
  THE MADE FAMILY, PART LS: MadeMore.
  THE MADE FAMILY: WHAT ALL ITS CARDS NEED: from a contract of the engine to the given statements' form.
  THE MADE FAMILY: the arguments of its laws, read as ours.
  THE MADE FAMILY: a set, read as ours.
-/
import Derived.Test.YtmchcpmkadhmjaaDoorCards
import Derived.Test.YtmchcpmkadhmjaaDoorTie
import Derived.WalkKit
import Derived.ProofKit
import Derived.OpenShut
import Derived.Deep.DeepHandedRow
import Derived.Lib.LaidTab
import Derived.LaidSub
import Derived.MakeChecks
import Derived.ChangeBears
import Derived.Test.YtmchcpmkadhmjaaDoorMadeB
import Derived.Test.YtmchcpmkadhmjaaDoorMadeA
import Derived.Test.YtmchcpmkadhmjaaDoorEngD
namespace Go.Ab.MkF
abbrev υ:AV S:=.undef
end Go.Ab.MkF
namespace Go.Ab.MkF
open Go Go.Ab Go.Ab.Pln
def erl (i l c x:Nat):Prop:=c < i∨(c=i∧x < l)
theorem erl_succ {i l c x:Nat}:erl i (l+1) c x↔erl i l c x∨(c=i∧x=l):=by unfold erl; omega
structure PlP (n:Nat) (cs:List Cp) (H:List Int) (i l:Nat) (P:Tb) (g:List Nat):Prop where
 t:Tb46 P
 z:∀ c x,¬ (c < cs.length∧x < n∧H.getD c 0≠0∧erl i l c x)→get2 P c x=0
 own:∀ c x,c < cs.length→x < n→H.getD c 0≠0→erl i l c x→hasI cs c x=H.getD c 0→get2 P c x=(c:Int)
 don:∀ c x,c < cs.length→x < n→H.getD c 0≠0→erl i l c x→hasI cs c x≠H.getD c 0→∃ d:Nat,d < cs.length∧get2 P c x=(d:Int)∧hasI cs d x=H.getD c 0∧H.getD d 0≠H.getD c 0
 inj:∀ c c' x,c < cs.length→c' < cs.length→x < n→H.getD c 0≠0→H.getD c' 0≠0→erl i l c x→erl i l c' x→c≠c'→get2 P c x≠get2 P c' x
 gl:g.length=4
 g:∀ d x,x < n→d < cs.length→((g.getD d 0).testBit x=true↔∃ c,c < cs.length∧H.getD c 0≠0∧erl i l c x∧hasI cs c x≠H.getD c 0∧get2 P c x=(d:Int))
structure PlOk (n:Nat) (cs:List Cp) (H:List Int) (Q:Tb):Prop where
 t:Tb46 Q
 out:∀ c x,¬ (c < cs.length∧x < n)→get2 Q c x=0
 own:∀ c x,c < cs.length→x < n→H.getD c 0≠0→hasI cs c x=H.getD c 0→get2 Q c x=(c:Int)
 don:∀ c x,c < cs.length→x < n→H.getD c 0≠0→hasI cs c x≠H.getD c 0→∃ d:Nat,d < cs.length∧get2 Q c x=(d:Int)∧hasI cs d x=H.getD c 0∧H.getD d 0≠H.getD c 0
 inj:∀ c c' x,c < cs.length→c' < cs.length→x < n→H.getD c 0≠0→H.getD c' 0≠0→c≠c'→get2 Q c x≠get2 Q c' x
 keep:∀ c x,c < cs.length→x < n→H.getD c 0=0→hasI cs c x > 0→(∀ c',c' < cs.length→H.getD c' 0≠0→get2 Q c' x≠(c:Int))→get2 Q c x=(c:Int)
 none:∀ c x,c < cs.length→x < n→H.getD c 0=0→¬ (hasI cs c x > 0∧∀ c',c' < cs.length→H.getD c' 0≠0→get2 Q c' x≠(c:Int))→get2 Q c x=-1
def Agr (n:Nat) (cs:List Cp) (H:List Int) (i l:Nat) (Q P:Tb):Prop:=∀ c x,c < cs.length→x < n→H.getD c 0≠0→erl i l c x→get2 Q c x=get2 P c x
section
variable {n:Nat} {cs:List Cp} {H:List Int} {i l:Nat} {P Q:Tb} {g:List Nat}
theorem PlP.next (hl:l=n∨H.getD i 0=0):PlP n cs H i l P g→PlP n cs H (i+1) 0 P g:=fun h=>by
 have e:∀ {c x},x < n→H.getD c 0≠0→(erl (i+1) 0 c x↔erl i l c x):=fun {c x} hx hc=>by
  unfold erl
  constructor
  · rintro (h1 | ⟨_,h1⟩)
    · rcases Nat.lt_or_eq_of_le (Nat.le_of_lt_succ h1) with h2 | rfl
      · exact .inl h2
      rcases hl with rfl | hl
      · exact .inr ⟨rfl,hx⟩
      exact absurd hl hc
    omega
  rintro (h1 | ⟨h1,_⟩) <;> exact .inl (by omega)
 exact ⟨h.t,fun c x hn=>h.z c x fun ⟨a1,a2,a3,a4⟩=>hn ⟨a1,a2,a3,(e a2 a3).2 a4⟩,fun c x a1 a2 a3 a4=>h.own c x a1 a2 a3 ((e a2 a3).1 a4),fun c x a1 a2 a3 a4=>h.don c x a1 a2 a3 ((e a2 a3).1 a4),
  fun c c' x a1 a2 a3 a4 a5 a6 a7=>h.inj c c' x a1 a2 a3 a4 a5 ((e a3 a4).1 a6) ((e a3 a5).1 a7),h.gl,fun d x a1 a2=>(h.g d x a1 a2).trans
   ⟨fun ⟨c,b1,b2,b3,b4⟩=>⟨c,b1,b2,(e a1 b2).2 b3,b4⟩,fun ⟨c,b1,b2,b3,b4⟩=>⟨c,b1,b2,(e a1 b2).1 b3,b4⟩⟩⟩
theorem Agr.next (hl:l=n∨H.getD i 0=0):Agr n cs H (i+1) 0 Q P↔Agr n cs H i l Q P:=by
 have e:∀ {c x},x < n→H.getD c 0≠0→(erl (i+1) 0 c x↔erl i l c x):=fun {c x} hx hc=>by
  unfold erl
  constructor
  · rintro (h1 | ⟨_,h1⟩)
    · rcases Nat.lt_or_eq_of_le (Nat.le_of_lt_succ h1) with h2 | rfl
      · exact .inl h2
      rcases hl with rfl | hl
      · exact .inr ⟨rfl,hx⟩
      exact absurd hl hc
    omega
  rintro (h1 | ⟨h1,_⟩) <;> exact .inl (by omega)
 exact ⟨fun h c x a1 a2 a3 a4=>h c x a1 a2 a3 ((e a2 a3).2 a4),fun h c x a1 a2 a3 a4=>h c x a1 a2 a3 ((e a2 a3).1 a4)⟩
theorem PlP.get (h:PlP n cs H i l P g) (hi:i < cs.length) (hm:cs.length≤4) (hl:l < n) (hn:n≤6) (v:Int) (c x:Nat):get2 (set2 P i l v) c x=if i=c∧l=x then v else get2 P c x:=get2_set2 h.t (by omega) (by omega) c x
theorem Agr.set (h:PlP n cs H i l P g) (hi:i < cs.length) (hm:cs.length≤4) (hl:l < n) (hn:n≤6) (hH:H.getD i 0≠0) {v:Int}:Agr n cs H i (l+1) Q (set2 P i l v)↔Agr n cs H i l Q P∧get2 Q i l=v:=by
 have hg:=h.get hi hm hl hn v
 constructor
 · intro ha
   refine ⟨fun c x a1 a2 a3 a4=>?_,?_⟩
   · have:=ha c x a1 a2 a3 (erl_succ.2 (.inl a4))
     rw [hg,if_neg (fun e=>by unfold erl at a4; omega)] at this
     exact this
   have:=ha i l hi hl hH (erl_succ.2 (.inr ⟨rfl,rfl⟩))
   rw [hg,if_pos ⟨rfl,rfl⟩] at this
   exact this
 rintro ⟨ha,hv⟩ c x a1 a2 a3 a4
 rw [hg]
 by_cases e:i=c∧l=x
 · rw [if_pos e,←hv,e.1,e.2]
 rw [if_neg e]
 rcases erl_succ.1 a4 with a4 | a4
 · exact ha c x a1 a2 a3 a4
 exact absurd ⟨a4.1.symm,a4.2.symm⟩ e
theorem PlP.mine (h:PlP n cs H i l P g) (hi:i < cs.length) (hm:cs.length≤4) (hl:l < n) (hn:n≤6) (hH:H.getD i 0≠0) (ho:hasI cs i l=H.getD i 0):PlP n cs H i (l+1) (set2 P i l (i:Int)) g:=by
 have hg:=h.get hi hm hl hn (i:Int)
 have hnot:∀ {c x},erl i l c x→¬ (i=c∧l=x):=fun a e=>by unfold erl at a; omega
 refine ⟨h.t.set2 _ _ _,fun c x hz=>?_,fun c x a1 a2 a3 a4 a5=>?_,fun c x a1 a2 a3 a4 a5=>?_,fun c c' x a1 a2 a3 a4 a5 a6 a7 a8=>?_,h.gl,fun d x a1 a2=>?_⟩
 · rw [hg,if_neg]
   · exact h.z c x fun ⟨b1,b2,b3,b4⟩=>hz ⟨b1,b2,b3,erl_succ.2 (.inl b4)⟩
   rintro ⟨rfl,rfl⟩; exact hz ⟨hi,hl,hH,erl_succ.2 (.inr ⟨rfl,rfl⟩)⟩
 · rw [hg]
   by_cases e:i=c∧l=x
   · rw [if_pos e,e.1]
   rw [if_neg e]
   rcases erl_succ.1 a4 with a4 | a4
   · exact h.own c x a1 a2 a3 a4 a5
   exact absurd ⟨a4.1.symm,a4.2.symm⟩ e
 · rcases erl_succ.1 a4 with a4 | ⟨rfl,rfl⟩
   · rw [hg,if_neg (hnot a4)]; exact h.don c x a1 a2 a3 a4 a5
   exact absurd ho a5
 · have key:∀ {c'},c' < cs.length→H.getD c' 0≠0→erl i l c' l→i≠c'→(i:Int)≠get2 P c' l:=fun {c'} b1 b2 b3 b4 e=>by
    by_cases b5:hasI cs c' l=H.getD c' 0
    · rw [h.own c' l b1 hl b2 b3 b5] at e; omega
    · obtain ⟨d,c1,c2,c3,c4⟩:=h.don c' l b1 hl b2 b3 b5
      rw [c2] at e
      obtain rfl:i=d:=by omega
      exact c4 (by rw [←ho,c3])
   rw [hg,hg]
   rcases erl_succ.1 a6 with a6 | ⟨rfl,rfl⟩
   · rw [if_neg (hnot a6)]
     rcases erl_succ.1 a7 with a7 | ⟨rfl,rfl⟩
     · rw [if_neg (hnot a7)]; exact h.inj c c' x a1 a2 a3 a4 a5 a6 a7 a8
     rw [if_pos ⟨rfl,rfl⟩]; exact (key a1 a4 a6 (Ne.symm a8)).symm
   rw [if_pos ⟨rfl,rfl⟩]
   rcases erl_succ.1 a7 with a7 | ⟨rfl,_⟩
   · rw [if_neg (hnot a7)]; exact key a2 a5 a7 a8
   exact absurd rfl a8
 rw [h.g d x a1 a2]
 constructor
 · rintro ⟨c,b1,b2,b3,b4,b5⟩
   exact ⟨c,b1,b2,erl_succ.2 (.inl b3),b4,by rw [hg,if_neg (hnot b3)]; exact b5⟩
 rintro ⟨c,b1,b2,b3,b4,b5⟩
 rcases erl_succ.1 b3 with b3 | ⟨rfl,rfl⟩
 · rw [hg,if_neg (hnot b3)] at b5; exact ⟨c,b1,b2,b3,b4,b5⟩
 exact absurd ho b4
theorem PlP.give (h:PlP n cs H i l P g) (hi:i < cs.length) (hm:cs.length≤4) (hl:l < n) (hn:n≤6) (hH:H.getD i 0≠0) (ho:hasI cs i l≠H.getD i 0) {d:Nat} (hd:d < cs.length) (h1:hasI cs d l=H.getD i 0) (h2:H.getD d 0≠H.getD i 0)
  (h3:(g.getD d 0).testBit l=false):PlP n cs H i (l+1) (set2 P i l (d:Int)) (g.set d (g.getD d 0 ||| 2 ^ l)):=by
 have hg:=h.get hi hm hl hn (d:Int)
 have hnot:∀ {c x},erl i l c x→¬ (i=c∧l=x):=fun a e=>by unfold erl at a; omega
 refine ⟨h.t.set2 _ _ _,fun c x hz=>?_,fun c x a1 a2 a3 a4 a5=>?_,fun c x a1 a2 a3 a4 a5=>?_,fun c c' x a1 a2 a3 a4 a5 a6 a7 a8=>?_,by rw [List.length_set]; exact h.gl,fun e x a1 a2=>?_⟩
 · rw [hg,if_neg]
   · exact h.z c x fun ⟨b1,b2,b3,b4⟩=>hz ⟨b1,b2,b3,erl_succ.2 (.inl b4)⟩
   rintro ⟨rfl,rfl⟩; exact hz ⟨hi,hl,hH,erl_succ.2 (.inr ⟨rfl,rfl⟩)⟩
 · rcases erl_succ.1 a4 with a4 | ⟨rfl,rfl⟩
   · rw [hg,if_neg (hnot a4)]; exact h.own c x a1 a2 a3 a4 a5
   exact absurd a5 ho
 · rcases erl_succ.1 a4 with a4 | ⟨rfl,rfl⟩
   · rw [hg,if_neg (hnot a4)]; exact h.don c x a1 a2 a3 a4 a5
   rw [hg,if_pos ⟨rfl,rfl⟩]; exact ⟨d,hd,rfl,h1,h2⟩
 · have key:∀ {c'},c' < cs.length→H.getD c' 0≠0→erl i l c' l→(d:Int)≠get2 P c' l:=fun {c'} b1 b2 b3 e=>by
    by_cases b5:hasI cs c' l=H.getD c' 0
    · rw [h.own c' l b1 hl b2 b3 b5] at e
      obtain rfl:d=c':=by omega
      exact h2 (by rw [←b5,h1])
    · have:=(h.g d l hl hd).2 ⟨c',b1,b2,b3,b5,e.symm⟩
      rw [this] at h3; cases h3
   rw [hg,hg]
   rcases erl_succ.1 a6 with a6 | ⟨rfl,rfl⟩
   · rw [if_neg (hnot a6)]
     rcases erl_succ.1 a7 with a7 | ⟨rfl,rfl⟩
     · rw [if_neg (hnot a7)]; exact h.inj c c' x a1 a2 a3 a4 a5 a6 a7 a8
     rw [if_pos ⟨rfl,rfl⟩]; exact (key a1 a4 a6).symm
   rw [if_pos ⟨rfl,rfl⟩]
   rcases erl_succ.1 a7 with a7 | ⟨rfl,_⟩
   · rw [if_neg (hnot a7)]; exact key a2 a5 a7
   exact absurd rfl a8
 have hgl:=h.gl
 have hset:(g.set d (g.getD d 0 ||| 2 ^ l)).getD e 0=if d=e then g.getD d 0 ||| 2 ^ l else g.getD e 0:=by
  by_cases q:d=e
  · subst q; rw [getD_set_self (by omega),if_pos rfl]
  rw [getD_set_ne q,if_neg q]
 rw [hset]
 have old:=h.g e x a1 a2
 constructor
 · intro hb
   have hb:(g.getD e 0).testBit x=true∨(d=e∧l=x):=by
    by_cases q:d=e
    · subst q
      rw [if_pos rfl,Nat.testBit_or,Nat.testBit_two_pow,Bool.or_eq_true,decide_eq_true_eq] at hb
      exact hb.imp id fun h=>⟨rfl,h⟩
    rw [if_neg q] at hb; exact .inl hb
   rcases hb with hb | ⟨rfl,rfl⟩
   · obtain ⟨c,b1,b2,b3,b4,b5⟩:=old.1 hb
     exact ⟨c,b1,b2,erl_succ.2 (.inl b3),b4,by rw [hg,if_neg (hnot b3)]; exact b5⟩
   exact ⟨i,hi,hH,erl_succ.2 (.inr ⟨rfl,rfl⟩),ho,by rw [hg,if_pos ⟨rfl,rfl⟩]⟩
 rintro ⟨c,b1,b2,b3,b4,b5⟩
 have hb:(g.getD e 0).testBit x=true∨(d=e∧l=x):=by
  rcases erl_succ.1 b3 with b3 | ⟨rfl,rfl⟩
  · rw [hg,if_neg (hnot b3)] at b5; exact .inl (old.2 ⟨c,b1,b2,b3,b4,b5⟩)
  rw [hg,if_pos ⟨rfl,rfl⟩] at b5; exact .inr ⟨by omega,rfl⟩
 by_cases q:d=e
 · subst q
   rw [if_pos rfl,Nat.testBit_or,Nat.testBit_two_pow,Bool.or_eq_true,decide_eq_true_eq]
   exact hb.imp id fun h=>h.2
 rw [if_neg q]
 rcases hb with hb | hb
 · exact hb
 exact absurd hb.1 q
end
theorem leafR_get {cs:List Cp} {H:List Int} {g:List Nat} {Q:Tb} (h:Tb46 Q) {c:Nat} (hc:c < 4) (a x:Nat):∀ l,l≤6→get2 (leafR cs H g Q c l) a x=if a=c∧x < l∧¬ H.getD c 0 > 0 then (if decide (hasI cs c x > 0)&&!(g.getD c 0).testBit x then (c:Int) else -1) else get2 Q a x
 | 0,_=>by rw [if_neg (by omega)]; rfl
 | l+1,hl=>by
  have ih:=leafR_get (cs:=cs) (H:=H) (g:=g) h hc a x l (by omega)
  simp only [leafR]
  by_cases hp:H.getD c 0 > 0
  · rw [if_pos hp,ih,if_neg (fun e=>e.2.2 hp),if_neg (fun e=>e.2.2 hp)]
  rw [if_neg hp,get2_set2 (leafR_ok h c l) hc (by omega)]
  by_cases e:c=a∧l=x
  · obtain ⟨rfl,rfl⟩:=e
    rw [if_pos ⟨rfl,rfl⟩,if_pos (show c=c∧l < l+1∧¬ H.getD c 0 > 0 from ⟨rfl,by omega,hp⟩)]
  rw [if_neg e,ih]
  by_cases e2:a=c∧x < l∧¬ H.getD c 0 > 0
  · rw [if_pos e2,if_pos (show a=c∧x < l+1∧¬ H.getD c 0 > 0 from ⟨e2.1,by omega,hp⟩)]
  rw [if_neg e2,if_neg fun q=>e2 ⟨q.1,by omega,hp⟩]
theorem leafU_get {n:Nat} {cs:List Cp} {H:List Int} {g:List Nat} {P:Tb} (h:Tb46 P) (hn:n≤6) (a x:Nat):∀ c,c≤4→get2 (leafU n cs H g P c) a x=if a < c∧x < n∧¬ H.getD a 0 > 0 then (if decide (hasI cs a x > 0)&&!(g.getD a 0).testBit x then (a:Int) else -1) else get2 P a x
 | 0,_=>by rw [if_neg (by omega)]; rfl
 | c+1,hc=>by
  have ih:=leafU_get (cs:=cs) (H:=H) (g:=g) h hn a x c (by omega)
  simp only [leafU]
  rw [leafR_get (leafU_ok h c) (by omega) a x n hn]
  by_cases e:a=c∧x < n∧¬ H.getD c 0 > 0
  · obtain ⟨rfl,e2,e3⟩:=e
    rw [if_pos (show a=a∧x < n∧¬ H.getD a 0 > 0 from ⟨rfl,e2,e3⟩),if_pos (show a < a+1∧x < n∧¬ H.getD a 0 > 0 from ⟨by omega,e2,e3⟩)]
  rw [if_neg e,ih]
  by_cases e2:a < c∧x < n∧¬ H.getD a 0 > 0
  · rw [if_pos e2,if_pos (show a < c+1∧x < n∧¬ H.getD a 0 > 0 from ⟨by omega,e2.2⟩)]
  rw [if_neg e2,if_neg]
  rintro ⟨q1,q2,q3⟩
  rcases Nat.lt_or_eq_of_le (Nat.le_of_lt_succ q1) with q | rfl
  · exact e2 ⟨q,q2,q3⟩
  exact e ⟨rfl,q2,q3⟩
theorem plan_leaf {n:Nat} {cs:List Cp} {H:List Int} {P Q:Tb} {g:List Nat} (hm:cs.length≤4) (hn:n≤6) (hH:∀ c,0≤H.getD c 0) (h:PlP n cs H cs.length 0 P g):Q=leafU n cs H g P cs.length↔PlOk n cs H Q∧Agr n cs H cs.length 0 Q P:=by
 have hget:=fun a x=>leafU_get (cs:=cs) (H:=H) (g:=g) h.t hn a x cs.length hm
 have he:∀ {c x},c < cs.length→erl cs.length 0 c x:=fun hc=>.inl hc
 have hpos:∀ c,H.getD c 0≠0↔H.getD c 0 > 0:=fun c=>by have:=hH c; omega
 have hhost:∀ c x,H.getD c 0≠0→get2 (leafU n cs H g P cs.length) c x=get2 P c x:=fun c x hc=>by rw [hget,if_neg fun e=>e.2.2 ((hpos c).1 hc)]
 have hrest:∀ c x,c < cs.length→x < n→H.getD c 0=0→get2 (leafU n cs H g P cs.length) c x=if decide (hasI cs c x > 0)&&!(g.getD c 0).testBit x then (c:Int) else -1:=fun c x a1 a2 a3=>by rw [hget,if_pos ⟨a1,a2,by omega⟩]
 have hgive:∀ c x,c < cs.length→x < n→H.getD c 0=0→((g.getD c 0).testBit x=false↔∀ c',c' < cs.length→H.getD c' 0≠0→get2 P c' x≠(c:Int)):=fun c x a1 a2 a3=>by
  rw [Bool.eq_false_iff,Ne,h.g c x a2 a1]
  constructor
  · intro hno c' b1 b2 b3
    by_cases b4:hasI cs c' x=H.getD c' 0
    · rw [h.own c' x b1 a2 b2 (he b1) b4] at b3
      obtain rfl:c'=c:=by omega
      exact b2 a3
    exact hno ⟨c',b1,b2,he b1,b4,b3⟩
  rintro hall ⟨c',b1,b2,_,_,b5⟩
  exact hall c' b1 b2 b5
 have hok:PlOk n cs H (leafU n cs H g P cs.length):=by
  refine ⟨leafU_ok h.t _,fun c x hn=>?_,fun c x a1 a2 a3 a4=>?_,fun c x a1 a2 a3 a4=>?_,fun c c' x a1 a2 a3 a4 a5 a6=>?_,fun c x a1 a2 a3 a4 a5=>?_,fun c x a1 a2 a3 a4=>?_⟩
  · rw [hget,if_neg fun e=>hn ⟨e.1,e.2.1⟩]; exact h.z c x fun e=>hn ⟨e.1,e.2.1⟩
  · rw [hhost c x a3]; exact h.own c x a1 a2 a3 (he a1) a4
  · rw [hhost c x a3]; exact h.don c x a1 a2 a3 (he a1) a4
  · rw [hhost c x a4,hhost c' x a5]; exact h.inj c c' x a1 a2 a3 a4 a5 (he a1) (he a2) a6
  · rw [hrest c x a1 a2 a3,decide_eq_true a4,(hgive c x a1 a2 a3).2 fun c' b1 b2=>by have:=a5 c' b1 b2; rwa [hhost c' x b2] at this]
    rfl
  rw [hrest c x a1 a2 a3]
  by_cases b:hasI cs c x > 0
  · have hb:(g.getD c 0).testBit x=true:=by
     cases hb:(g.getD c 0).testBit x with
     | true=>rfl
     | false=>exact absurd ⟨b,fun c' b1 b2=>by rw [hhost c' x b2]; exact (hgive c x a1 a2 a3).1 hb c' b1 b2⟩ a4
    rw [hb,decide_eq_true b]; rfl
  rw [decide_eq_false b]; rfl
 constructor
 · rintro rfl
   exact ⟨hok,fun c x a1 a2 a3 _=>hhost c x a3⟩
 rintro ⟨hq,ha⟩
 refine tb_ext hq.t hok.t fun c x=>?_
 by_cases e:c < cs.length∧x < n
 · obtain ⟨a1,a2⟩:=e
   by_cases a3:H.getD c 0=0
   · have hsame:∀ c',c' < cs.length→H.getD c' 0≠0→get2 Q c' x=get2 (leafU n cs H g P cs.length) c' x:=fun c' b1 b2=>by rw [ha c' x b1 a2 b2 (he b1),hhost c' x b2]
     by_cases b:hasI cs c x > 0∧∀ c',c' < cs.length→H.getD c' 0≠0→get2 Q c' x≠(c:Int)
     · rw [hq.keep c x a1 a2 a3 b.1 b.2,hok.keep c x a1 a2 a3 b.1 fun c' b1 b2=>by rw [←hsame c' b1 b2]; exact b.2 c' b1 b2]
     rw [hq.none c x a1 a2 a3 b,hok.none c x a1 a2 a3 fun q=>b ⟨q.1,fun c' b1 b2=>by rw [hsame c' b1 b2]; exact q.2 c' b1 b2⟩]
   rw [ha c x a1 a2 a3 (he a1),hhost c x a3]
 rw [hq.out c x e,hok.out c x e]
theorem planR_mem {n:Nat} {cs:List Cp} {H:List Int} {i:Nat} {cont:Tb→List Nat→List Tb} (hm:cs.length≤4) (hn:n≤6) (hi:i < cs.length) {Q:Tb}
  (hcont:∀ P g,PlP n cs H (i+1) 0 P g→(Q∈cont P g↔PlOk n cs H Q∧Agr n cs H (i+1) 0 Q P)):∀ r P g,r≤n→PlP n cs H i (n - r) P g→(Q∈planR n cs H i cont r P g↔PlOk n cs H Q∧Agr n cs H i (n - r) Q P)
 | 0,P,g,_,h=>by
  simp only [planR]
  rw [hcont P g (h.next (.inl (by omega))),Agr.next (l:=n - 0) (.inl (by omega))]
 | r + 1,P,g,hr,h=>by
  simp only [planR]
  by_cases h0:H.getD i 0=0
  · rw [if_pos h0,hcont P g (h.next (.inr h0)),Agr.next (.inr h0)]
  rw [if_neg h0]
  have hl:n - (r+1) < n:=by omega
  have hs:n - (r+1)+1=n - r:=by omega
  have hbit:=fun d (hd:d < cs.length)=>havN_bit hd (n - (r+1)) (H.getD i 0)
  have hbl:bitsL (havN cs (n - (r+1)) (H.getD i 0))=(List.range cs.length).filter (havN cs (n - (r+1)) (H.getD i 0)).testBit:=bitsL_below (by omega) (by
   unfold havN
   exact bitsO_lt fun x hx=>List.mem_range.1 (List.mem_filter.1 hx).1)
  generalize hL:n - (r+1)=l at *
  cases hb:(havN cs l (H.getD i 0)).testBit i with
  | true =>
   have ho:hasI cs i l=H.getD i 0:=eq_of_beq ((hbit i hi).symm.trans hb)
   have h':=h.mine hi hm hl hn h0 ho
   rw [if_pos rfl]
   rw [hs] at h'
   rw [planR_mem hm hn hi hcont r _ g (by omega) h',←hs,Agr.set h hi hm hl hn h0]
   exact ⟨fun ⟨a,b⟩=>⟨a,b.1⟩,fun ⟨a,b⟩=>⟨a,b,a.own i l hi hl h0 ho⟩⟩
  | false =>
   have ho:hasI cs i l≠H.getD i 0:=fun e=>by rw [hbit i hi,e] at hb; simp at hb
   rw [if_neg (by simp),List.mem_flatMap]
   constructor
   · rintro ⟨d,hd,hq⟩
     rw [hbl,List.mem_filter,List.mem_range] at hd
     have h1:hasI cs d l=H.getD i 0:=eq_of_beq ((hbit d hd.1).symm.trans hd.2)
     split at hq
     · cases hq
     rename_i hc
     rw [Bool.or_eq_true,not_or,beq_iff_eq] at hc
     have h':=h.give hi hm hl hn h0 ho hd.1 h1 hc.1 (by simpa using hc.2)
     rw [hs] at h'
     rw [planR_mem hm hn hi hcont r _ _ (by omega) h',←hs,Agr.set h hi hm hl hn h0] at hq
     exact ⟨hq.1,hq.2.1⟩
   rintro ⟨hq,ha⟩
   obtain ⟨d,b1,b2,b3,b4⟩:=hq.don i l hi hl h0 ho
   have h3:(g.getD d 0).testBit l=false:=by
    cases hb:(g.getD d 0).testBit l with
    | false=>rfl
    | true =>
     obtain ⟨c,c1,c2,c3,c4,c5⟩:=(h.g d l hl b1).1 hb
     have hci:c≠i:=by unfold erl at c3; omega
     exact absurd (by rw [ha c l c1 hl c2 c3,c5,b2]) (hq.inj c i l c1 hi hl c2 h0 hci)
   have h':=h.give hi hm hl hn h0 ho b1 b3 b4 h3
   rw [hs] at h'
   refine ⟨d,by rw [hbl,List.mem_filter,List.mem_range]; exact ⟨b1,by rw [hbit d b1,b3]; simp⟩,?_⟩
   rw [if_neg (by rw [Bool.or_eq_true,not_or,beq_iff_eq,h3]; exact ⟨b4,by simp⟩),planR_mem hm hn hi hcont r _ _ (by omega) h',←hs,Agr.set h hi hm hl hn h0]
   exact ⟨hq,ha,b2⟩
theorem planS_mem {n:Nat} {cs:List Cp} {H:List Int} (hm:cs.length≤4) (hn:n≤6) (hH:∀ c,0≤H.getD c 0) {Q:Tb}:∀ s r P g,s≤cs.length→r≤n→(s=0→r=n)→PlP n cs H (cs.length - s) (n - r) P g→(Q∈planS n cs H s r P g↔PlOk n cs H Q∧Agr n cs H (cs.length - s) (n - r) Q P)
 | 0,r,P,g,_,_,hr0,h=>by
  have hr:=hr0 rfl
  subst hr
  rw [Nat.sub_self] at h ⊢
  simp only [planS,List.mem_singleton]
  exact plan_leaf hm hn hH h
 | s+1,r,P,g,hs,hr,_,h=>by
  simp only [planS]
  refine planR_mem hm hn (by omega) (fun P' g' h'=>?_) r P g hr h
  have e:cs.length - (s+1)+1=cs.length - s:=by omega
  rw [e] at h' ⊢
  have:=planS_mem hm hn hH (Q:=Q) s n P' g' (by omega) (Nat.le_refl _) (fun _=>rfl) (by rw [Nat.sub_self]; exact h')
  rw [Nat.sub_self] at this
  exact this
theorem get_z46 (c x:Nat):get2 z46 c x=0:=by
 unfold get2 z46
 match c with
 | 0 | 1 | 2 | 3=>match x with
  | 0 | 1 | 2 | 3 | 4 | 5=>rfl
  | x+6=>rfl
 | c+4=>simp [List.getD_eq_getElem?_getD]
theorem planA_mem {n:Nat} {cs:List Cp} {H:List Int} (hm1:1≤cs.length) (hm:cs.length≤4) (hn:n≤6) (hH:∀ c,0≤H.getD c 0) {Q:Tb}:Q∈planA n cs H↔PlOk n cs H Q:=by
 unfold planA
 have he:∀ {c x},¬ erl 0 0 c x:=fun h=>by unfold erl at h; omega
 have h0:PlP n cs H (cs.length - cs.length) (n - n) z46 [0,0,0,0]:=by
  rw [Nat.sub_self,Nat.sub_self]
  refine ⟨z46_ok,fun c x _=>get_z46 c x,fun c x _ _ _ h=>absurd h he,fun c x _ _ _ h=>absurd h he,fun c c' x _ _ _ _ _ h=>absurd h he,rfl,fun d x _ hd=>⟨fun h=>?_,fun ⟨_,_,_,h,_⟩=>absurd h he⟩⟩
  match d,(by omega:d < 4) with
  | 0,_ | 1,_ | 2,_ | 3,_=>simp at h
 rw [planS_mem hm hn hH _ _ _ _ (Nat.le_refl _) (Nat.le_refl _) (fun h=>by omega) h0]
 refine ⟨fun h=>h.1,fun h=>⟨h,fun c x _ _ _ he'=>?_⟩⟩
 rw [Nat.sub_self,Nat.sub_self] at he'
 exact absurd he' he
end Go.Ab.MkF
namespace Go.Ab.MkF
open Go Go.Ab Go.Ab.Pln Go.Proofs
set_option maxHeartbeats 1000000
set_option maxRecDepth 100000
noncomputable abbrev parH (gl:Gl):Par S Unit:={ par gl with hd:=true }
theorem parH_ok (gl:Gl) (En:Env Unit):ParOk PR gl (parH gl) En:={ par_ok gl En with }
theorem join {p q:Prop} (h:Hold p→q) (hp:p):q:=h ⟨hp⟩
def inB (n a b:Int):Bool:=decide (a≤n)&&decide (n≤b)
theorem inB_out (n a b:Int):inB n a b=!outB a b n:=by
 unfold inB outB
 rw [Bool.eq_iff_iff]
 simp [Int.not_lt]
def rgE (a b lo hi:Int):Int:=if (decide (min a b < lo)||decide (max a b > hi))=true then 7 else if b < a then 2 else 0
theorem c72 (gl:Gl) (n a b:Int):PCalls PR gl 72 [vI n,vI a,vI b] fun r=>r=vB (inB n a b):=by
 refine fnW_sound (par_ok gl) Tryd.func72 ?_
 conv=>whnf
 refine bcase_iff.2 ⟨fun g1_3=>?_,fun g1_3=>?_⟩
 · have g:decide (a≤n)=true:=g1_3
   conv=>whnf
   unfold inB
   rw [g]
   rfl
 have g:decide (a≤n)=false:=g1_3
 conv=>whnf
 unfold inB
 rw [g]
 rfl
theorem op72:Opens PR 72:=⟨_,Tryd.func72,rfl,rfl⟩
end Go.Ab.MkF
namespace Go.Ab.MkF
open Go Go.Ab Go.Ab.Pln Go.Proofs
set_option maxHeartbeats 1000000
set_option maxRecDepth 100000
def lfG (ls:List Lf) (i:Nat) (x:Lf):Int :=
 if [x.2.1].any (outB (-1) ((ls.length:Int) - 1)) then 4
 else if x.2.1==(i:Int)||(decide (x.2.1≥0)&&(ls.getD x.2.1.toNat lf0).2.1 != (i:Int)) then 2 else if [x.2.2].any (outB 0 1000) then 7 else 0
theorem any_in (a b n:Int):[n].any (outB a b)=!inB n a b:=by rw [inB_out]; simp
theorem c74 (gl:Gl) (p:Int) (ls:List Lf) (cs:List Cp) (hl:ls.length≤9223372036854775807) (i:Nat) (hi:i < ls.length):PCalls PR gl 74 [.agg [vI p,lfsV ls,cpsV cs],vI i] fun r=>r=vI (lfG ls i ls[i]):=by
 have hw1:IntKind.i64.wrap ((ls.length:Int) - 1)=(ls.length:Int) - 1:=wrap_int (by omega) (by omega)
 refine fnW_sound (par_ok gl) Tryd.func74 ?_
 conv=>whnf
 refine ⟨_,getI_nat hi,?_⟩
 conv=>whnf
 rw [hw1]
 conv=>whnf
 refine byC (c72 gl _ _ _) op72 ?_
 conv=>whnf
 refine bcase_iff.2 ⟨fun h2=>?_,fun h2=>?_⟩
 · have h2:[ls[i].2.1].any (outB (-1) ((ls.length:Int) - 1))=true:=by rw [any_in]; exact h2
   conv=>whnf
   unfold lfG
   rw [if_pos h2]
 have h2:[ls[i].2.1].any (outB (-1) ((ls.length:Int) - 1))=false:=by rw [any_in]; exact h2
 have hr:=any_one.1 h2
 conv=>whnf
 refine bcase_iff.2 ⟨fun g4_3=>?_,fun g4_3=>?_⟩
 · have g3:ls[i].2.1≠-1:=by have g:(ls[i].2.1 != -1)=true:=g4_3; simpa using g
   obtain ⟨y,hy⟩:∃ y:Nat,ls[i].2.1=(y:Int):=⟨ls[i].2.1.toNat,by omega⟩
   have hyl:y < ls.length:=by omega
   conv=>whnf
   refine bcase_iff.2 ⟨fun g4_8=>?_,fun g4_8=>?_⟩
   · have hb:(ls[i].2.1==(i:Int)||(decide (ls[i].2.1≥0)&&(ls.getD ls[i].2.1.toNat lf0).2.1 != (i:Int)))=true:=by rw [show (ls[i].2.1==(i:Int))=true from g4_8]; rfl
     conv=>whnf
     unfold lfG
     rw [h2,if_neg (by simp),if_pos hb]
   have g8:(ls[i].2.1==(i:Int))=false:=g4_8
   conv=>whnf
   refine ⟨ls[y],by rw [hy]; exact getI_nat hyl,?_⟩
   conv=>whnf
   refine bcase_iff.2 ⟨fun h4=>?_,fun h4=>?_⟩
   · have hb:(ls[i].2.1==(i:Int)||(decide (ls[i].2.1≥0)&&(ls.getD ls[i].2.1.toNat lf0).2.1 != (i:Int)))=true:=by rw [g8,decide_eq_true (by omega),hy,Int.toNat_natCast,getD_at hyl]; exact h4
     conv=>whnf
     unfold lfG
     rw [h2,if_neg (by simp),if_pos hb]
   have hb:(ls[i].2.1==(i:Int)||(decide (ls[i].2.1≥0)&&(ls.getD ls[i].2.1.toNat lf0).2.1 != (i:Int)))=false:=by rw [g8,decide_eq_true (by omega),hy,Int.toNat_natCast,getD_at hyl]; exact h4
   conv=>whnf
   refine byC (c72 gl _ _ _) op72 ?_
   conv=>whnf
   refine bcase_iff.2 ⟨fun h6=>?_,fun h6=>?_⟩
   · have h6:[ls[i].2.2].any (outB 0 1000)=true:=by rw [any_in]; exact h6
     conv=>whnf
     unfold lfG
     rw [h2,if_neg (by simp),hb,if_neg (by simp),if_pos h6]
   have h6:[ls[i].2.2].any (outB 0 1000)=false:=by rw [any_in]; exact h6
   conv=>whnf
   unfold lfG
   rw [h2,if_neg (by simp),hb,if_neg (by simp),h6,if_neg (by simp)]
 have g3:ls[i].2.1=-1:=by have g:(ls[i].2.1 != -1)=false:=g4_3; simpa using g
 have hb:(ls[i].2.1==(i:Int)||(decide (ls[i].2.1≥0)&&(ls.getD ls[i].2.1.toNat lf0).2.1 != (i:Int)))=false:=by rw [g3]; simp
 conv=>whnf
 refine byC (c72 gl _ _ _) op72 ?_
 conv=>whnf
 refine bcase_iff.2 ⟨fun h6=>?_,fun h6=>?_⟩
 · have h6:[ls[i].2.2].any (outB 0 1000)=true:=by rw [any_in]; exact h6
   conv=>whnf
   unfold lfG
   rw [h2,if_neg (by simp),hb,if_neg (by simp),if_pos h6]
 have h6:[ls[i].2.2].any (outB 0 1000)=false:=by rw [any_in]; exact h6
 conv=>whnf
 unfold lfG
 rw [h2,if_neg (by simp),hb,if_neg (by simp),h6,if_neg (by simp)]
theorem op74:Opens PR 74:=⟨_,Tryd.func74,rfl,rfl⟩
end Go.Ab.MkF
namespace Go.Ab.MkF
open Go Go.Ab Go.Ab.Pln Go.Proofs
set_option maxHeartbeats 1000000
set_option maxRecDepth 100000
def LensN (ls:List Lf) (cs:List Cp):Prop:=(∀ x∈ls,x.1.size≤9223372036854775807)∧∀ x∈cs,x.1.size≤9223372036854775807
abbrev nmL (ls:List Lf) (i:Nat):List ByteArray:=(ls.take i).map fun x=>x.1
abbrev nmC (cs:List Cp) (i:Nat):List ByteArray:=(cs.take i).map fun x=>x.1
theorem lfF_eq {ls:List Lf} {i:Nat} (h:i < ls.length):lfF ls i=if freE ls[i].1 (nmL ls i)=0 then lfG ls i ls[i] else freE ls[i].1 (nmL ls i):=by
 unfold lfF lfE lfG freE
 rw [getD_at h,List.any_map]
 show (if (!nameB ls[i].1)=true then 6 else if ((ls.take i).any fun y=>strEq y.1 ls[i].1)=true then 5 else _)=if (if (!nameB ls[i].1)=true then (6:Int) else if ((ls.take i).any fun y=>strEq y.1 ls[i].1)=true then 5 else 0)=0 then _ else if (!nameB ls[i].1)=true then (6:Int) else if ((ls.take i).any fun y=>strEq y.1 ls[i].1)=true then 5 else 0
 cases nameB ls[i].1 <;> cases (ls.take i).any fun y=>strEq y.1 ls[i].1 <;> simp
def cpK (e:Int) (xs:List Int) (k:Nat):Int:=if e≠0 then e else if (xs.take k).any (outB 0 2) then 7 else 0
def cpG (n:Nat) (w:ByteArray) (l:List ByteArray) (xs:List Int):Int:=if freE w l=0 then (if (xs.length:Int)≠n then 3 else 0) else freE w l
theorem cp_aux (nb dup bad:Bool) (p q:Prop) [Decidable p] [Decidable q] (hpq:p↔q) :
  (if (!nb)=true then (6:Int) else if dup=true then 5 else if p then 3 else if bad=true then 7 else 0) =
   if (if (if (!nb)=true then (6:Int) else if dup=true then 5 else 0)=0 then (if q then (3:Int) else 0) else if (!nb)=true then (6:Int) else if dup=true then 5 else 0)≠0
   then (if (if (!nb)=true then (6:Int) else if dup=true then 5 else 0)=0 then (if q then (3:Int) else 0) else if (!nb)=true then (6:Int) else if dup=true then 5 else 0) else if bad=true then 7 else 0:=by
 by_cases hq:q
 · have hp:=hpq.2 hq
   cases nb <;> cases dup <;> simp [hp,hq]
 have hp:¬ p:=fun h=>hq (hpq.1 h)
 cases nb <;> cases dup <;> simp [hp,hq]
theorem cpF_eq {n:Nat} {cs:List Cp} {i:Nat} (h:i < cs.length):cpF n cs i=cpK (cpG n cs[i].1 (nmC cs i) cs[i].2) cs[i].2 cs[i].2.length:=by
 unfold cpF cpE cpK cpG freE
 rw [getD_at h,List.any_map,List.take_length]
 exact cp_aux _ _ _ _ _ (by omega)
theorem cpK_succ {e:Int} {xs:List Int} {k:Nat} (h:k < xs.length) (h0:cpK e xs k=0):cpK e xs (k+1)=if inB xs[k] 0 2=true then 0 else 7:=by
 unfold cpK at h0 ⊢
 by_cases he:e=0
 · have hne:¬ e≠0:=fun h=>h he
   rw [if_neg hne] at h0 ⊢
   have hp:(xs.take k).any (outB 0 2)=false:=by
    cases hq:(xs.take k).any (outB 0 2) with
    | true=>rw [hq] at h0; simp at h0
    | false=>rfl
   rw [take_succ' h,List.any_append,hp,inB_out]
   simp
   cases outB 0 2 xs[k] <;> rfl
 rw [if_pos he] at h0; exact absurd h0 he
theorem cpK_last {e:Int} {xs:List Int} {k:Nat} (_h:k≤xs.length) (h0:cpK e xs k≠0):cpK e xs k=cpK e xs xs.length:=by
 unfold cpK at h0 ⊢
 by_cases he:e=0
 · have hne:¬ e≠0:=fun h=>h he
   rw [if_neg hne] at h0
   rw [if_neg hne,if_neg hne]
   cases hq:(xs.take k).any (outB 0 2) with
   | false=>rw [hq] at h0; simp at h0
   | true =>
    have:(xs.take xs.length).any (outB 0 2)=true:=by
     rw [List.take_length]
     obtain ⟨x,hx,hb⟩:=List.any_eq_true.1 hq
     exact List.any_eq_true.2 ⟨x,List.mem_of_mem_take hx,hb⟩
    rw [this]
 rw [if_pos he,if_pos he]
theorem c17 (gl:Gl) (p:Int) (ls:List Lf) (cs:List Cp) (hL:LensS ls cs) (hN:LensN ls cs):PCalls PR gl 17 [.agg [vI p,lfsV ls,cpsV cs]] fun r=>r=.tup [vI (chk p ls cs).1,vI (chk p ls cs).2.1,vI (chk p ls cs).2.2]:=by
 refine fnW_sound (par_ok gl) Tryd.func17 ?_
 conv=>whnf
 refine byC (c72 gl _ _ _) op72 ?_
 conv=>whnf
 refine bcase_iff.2 ⟨fun h1=>?_,fun h1=>?_⟩
 · have g1:[p].any (outB 0 1000000)=true:=by rw [any_in]; exact h1
   conv=>whnf
   unfold chk
   rw [if_pos g1]
 have g1:[p].any (outB 0 1000000)=false:=by rw [any_in]; exact h1
 conv=>whnf
 refine byC (c72 gl _ _ _) op72 ?_
 conv=>whnf
 refine bcase_iff.2 ⟨fun h3=>?_,fun h3=>?_⟩
 · have g3:[(ls.length:Int)].any (outB 1 6)=true:=by rw [any_in]; exact h3
   conv=>whnf
   unfold chk
   rw [g1,if_neg (by simp)]
   unfold chk1
   rw [if_pos g3]
 have g3:[(ls.length:Int)].any (outB 1 6)=false:=by rw [any_in]; exact h3
 have hn6:=(any_one.1 g3).2
 conv=>whnf
 refine ⟨⟨98,[],[5]⟩,?_⟩
 refine LoopW_ind _ (fun i:Nat=>(({ tmps:=[υ,.own 1 [],υ,υ,υ,.sl (S:=S) U.str (nmL ls i) (some 5),vI i,υ,υ,υ,υ,υ,υ,υ,υ,υ,υ,υ,υ,υ,υ,υ,υ,υ,υ,υ,υ,υ,υ,υ,υ,υ,υ,υ,υ,υ,υ,υ,υ,υ,υ,υ,υ,υ,υ,υ,υ,υ,υ,υ,υ,υ,υ,υ,υ,υ,υ,υ,υ,υ,υ,υ,υ,υ,υ,υ,υ,υ,υ,υ,υ,υ,υ,υ,υ,υ,υ,υ,υ,υ,υ,υ,υ,υ,υ,υ,υ,υ,υ,υ,υ,υ,υ,υ,υ,υ,υ,υ,υ,υ,υ,υ,υ,υ,υ,υ,υ,υ,υ,υ,υ,υ,υ],seg:=[(1,.cells (setC p ls cs)),(5,.row U.str false)],up:=[] }:St S))) (fun i:Nat=>(i≤ls.length∧∀ j,j < i→lfF ls j=0)) (fun i:Nat=>(ls.length - i)) () ?_ 0 ⟨Nat.zero_le _,fun j h=>absurd h (Nat.not_lt_zero j)⟩
 intro i hinv Z1 hZ1
 obtain ⟨hi,hd⟩:=hinv
 conv=>whnf
 refine bcase_iff.2 ⟨fun h7=>?_,fun h7=>?_⟩
 · have hlt:i < ls.length:=by have:=of_decide_eq_true h7; omega
   have hw:IntKind.i64.wrap ((i:Int)+1)=((i+1:Nat):Int):=wrap_nat (by omega)
   conv=>whnf
   have hlf:=lfF_eq hlt
   have hnl:(nmL ls i).length=i:=by simp; omega
   refine ⟨_,getI_nat hlt,?_⟩
   conv=>whnf
   refine byC (c73 gl _ (hN.1 _ (List.getElem_mem hlt)) _ (by omega)) op73 ?_
   conv=>whnf
   refine bcase_iff.2 ⟨fun h10=>?_,fun h10=>?_⟩
   · have h10:freE ls[i].1 (nmL ls i)=0:=eq_of_beq (show (freE ls[i].1 (nmL ls i)==0)=true from h10)
     rw [if_pos h10] at hlf
     conv=>whnf
     refine byC (c74 gl p ls cs (by omega) i hlt) op74 ?_
     conv=>whnf
     refine bcase_iff.2 ⟨fun h12=>?_,fun h12=>?_⟩
     · have h12:lfF ls i≠0:=by rw [hlf]; simpa using h12
       conv=>whnf
       unfold chk
       rw [g1,if_neg (by simp)]
       unfold chk1
       rw [g3,if_neg (by simp),firstR_at hlt hd h12,if_pos h12,hlf]
     have h12:lfF ls i=0:=by rw [hlf]; simpa using h12
     conv=>whnf
     refine ⟨_,getI_nat hlt,?_⟩
     conv=>whnf
     refine ⟨_,rfl,?_⟩
     conv=>whnf
     refine ⟨lim (by simp; omega),?_⟩
     conv=>whnf
     refine ⟨⟨98,[52,53],[]⟩,?_⟩
     conv=>whnf
     rw [hw]
     have hz:=hZ1 (i+1) ⟨hlt,up_succ hd h12⟩ (by omega)
     rw [show nmL ls (i+1)=nmL ls i++[ls[i].1] from by unfold nmL; rw [take_succ' hlt,List.map_append]; rfl] at hz
     exact hz
   have h10:freE ls[i].1 (nmL ls i)≠0:=fun e=>by have h10:(freE ls[i].1 (nmL ls i)==0)=false:=h10; rw [e] at h10; cases h10
   rw [if_neg h10] at hlf
   conv=>whnf
   refine bcase_iff.2 ⟨fun h12=>?_,fun h12=>?_⟩
   · have h12:lfF ls i≠0:=by rw [hlf]; simpa using h12
     conv=>whnf
     unfold chk
     rw [g1,if_neg (by simp)]
     unfold chk1
     rw [g3,if_neg (by simp),firstR_at hlt hd h12,if_pos h12,hlf]
   have h12:lfF ls i=0:=by rw [hlf]; simpa using h12
   conv=>whnf
   refine ⟨_,getI_nat hlt,?_⟩
   conv=>whnf
   refine ⟨_,rfl,?_⟩
   conv=>whnf
   refine ⟨lim (by simp; omega),?_⟩
   conv=>whnf
   refine ⟨⟨98,[52,53],[]⟩,?_⟩
   conv=>whnf
   rw [hw]
   have hz:=hZ1 (i+1) ⟨hlt,up_succ hd h12⟩ (by omega)
   rw [show nmL ls (i+1)=nmL ls i++[ls[i].1] from by unfold nmL; rw [take_succ' hlt,List.map_append]; rfl] at hz
   exact hz
 have hge:i=ls.length:=by have:=of_decide_eq_false h7; omega
 conv=>whnf
 rw [hge] at hd
 conv=>whnf
 refine byC (c72 gl _ _ _) op72 ?_
 conv=>whnf
 refine bcase_iff.2 ⟨fun h15=>?_,fun h15=>?_⟩
 · have g15:[(cs.length:Int)].any (outB 1 4)=true:=by rw [any_in]; exact h15
   conv=>whnf
   unfold chk
   rw [g1,if_neg (by simp)]
   unfold chk1
   rw [g3,if_neg (by simp),firstR_no hd,if_neg (by simp)]
   unfold chk2
   rw [if_pos g15]
 have g15:[(cs.length:Int)].any (outB 1 4)=false:=by rw [any_in]; exact h15
 have hm4:=(any_one.1 g15).2
 conv=>whnf
 refine ⟨⟨290,[5],[900005]⟩,?_⟩
 refine LoopW_ind _ (fun i:Nat=>(({ tmps:=[υ,.own 1 [],υ,υ,υ,.sl (S:=S) U.str (nmC cs i) (some 900005),υ,υ,vI i,υ,υ,υ,υ,υ,υ,υ,υ,υ,υ,υ,υ,υ,υ,υ,υ,υ,υ,υ,υ,υ,υ,υ,υ,υ,υ,υ,υ,υ,υ,υ,υ,υ,υ,υ,υ,υ,υ,υ,υ,υ,υ,υ,υ,υ,υ,υ,υ,υ,υ,υ,υ,υ,υ,υ,υ,υ,υ,υ,υ,υ,υ,υ,υ,υ,υ,υ,υ,υ,υ,υ,υ,υ,υ,υ,υ,υ,υ,υ,υ,υ,υ,υ,υ,υ,υ,υ,υ,υ,υ,υ,υ,υ,υ,υ,υ,υ,υ,υ,υ,υ,υ,υ,υ],seg:=[(1,.cells (setC p ls cs)),(900005,.row U.str false)],up:=[] }:St S))) (fun i:Nat=>(i≤cs.length∧∀ j,j < i→cpF ls.length cs j=0)) (fun i:Nat=>(cs.length - i)) () ?_ 0 ⟨Nat.zero_le _,fun j h=>absurd h (Nat.not_lt_zero j)⟩
 intro i hinv Z2 hZ2
 obtain ⟨hi,hdc⟩:=hinv
 conv=>whnf
 refine bcase_iff.2 ⟨fun h19=>?_,fun h19=>?_⟩
 · have hlc:i < cs.length:=by have:=of_decide_eq_true h19; omega
   have hwc:IntKind.i64.wrap ((i:Int)+1)=((i+1:Nat):Int):=wrap_nat (by omega)
   conv=>whnf
   have hcf:=cpF_eq (n:=ls.length) hlc
   have hnl:(nmC cs i).length=i:=by simp; omega
   have hxl:=hL.2 _ (List.getElem_mem hlc)
   refine ⟨_,getI_nat hlc,?_⟩
   conv=>whnf
   refine byC (c73 gl _ (hN.2 _ (List.getElem_mem hlc)) _ (by omega)) op73 ?_
   conv=>whnf
   refine bcase_iff.2 ⟨fun g23_2=>?_,fun g23_2=>?_⟩
   · have g23:freE cs[i].1 (nmC cs i)=0:=eq_of_beq (show (freE cs[i].1 (nmC cs i)==0)=true from g23_2)
     conv=>whnf
     refine bcase_iff.2 ⟨fun h23=>?_,fun h23=>?_⟩
     · have h23:(cs[i].2.length:Int)≠(ls.length:Int):=by have h:((cs[i].2.length:Int) != (ls.length:Int))=true:=h23; simpa using h
       have hG:(3:Int)=cpK (cpG ls.length cs[i].1 (nmC cs i) cs[i].2) cs[i].2 0:=by unfold cpK cpG; rw [if_pos g23,if_pos h23,if_pos (by decide)]
       conv=>whnf
       rw [hG]
       refine ⟨⟨3874,[2009],[2009]⟩,?_⟩
       refine LoopW_ind _ (fun k:Nat=>(({ tmps:=[υ,.own 1 [],υ,υ,υ,.sl (S:=S) U.str (nmC cs i) (some 900005),υ,υ,vI i,.own 9 [],vI (cpK (cpG ls.length cs[i].1 (nmC cs i) cs[i].2) cs[i].2 k),vI k,υ,υ,υ,υ,υ,υ,υ,υ,υ,υ,υ,υ,υ,υ,υ,υ,υ,υ,υ,υ,υ,υ,υ,υ,υ,υ,υ,υ,υ,υ,υ,υ,υ,υ,υ,υ,υ,υ,υ,υ,υ,υ,υ,υ,υ,υ,υ,υ,υ,υ,υ,υ,υ,υ,υ,υ,υ,υ,υ,υ,υ,υ,υ,υ,υ,υ,υ,υ,υ,υ,υ,υ,υ,υ,υ,υ,υ,υ,υ,υ,υ,υ,υ,υ,υ,υ,υ,υ,υ,υ,υ,υ,υ,υ,υ,υ,υ,υ,υ,υ,υ],seg:=[(1,.cells (setC p ls cs)),(9,.cells (cpC cs[i])),(900005,.row U.str false)],up:=[] }:St S))) (fun k:Nat=>(k≤cs[i].2.length)) (fun k:Nat=>(cs[i].2.length - k)) () ?_ 0 (Nat.zero_le _)
       intro k hk Z3 hZ3
       conv=>whnf
       refine bcase_iff.2 ⟨fun g26_5=>?_,fun g26_5=>?_⟩
       · have hkl:k < cs[i].2.length:=by have:=of_decide_eq_true g26_5; omega
         have hwk:IntKind.i64.wrap ((k:Int)+1)=((k+1:Nat):Int):=wrap_nat (by omega)
         conv=>whnf
         refine bcase_iff.2 ⟨fun h26=>?_,fun h26=>?_⟩
         · have h26:cpK (cpG ls.length cs[i].1 (nmC cs i) cs[i].2) cs[i].2 k=0:=eq_of_beq (show (cpK (cpG ls.length cs[i].1 (nmC cs i) cs[i].2) cs[i].2 k==0)=true from h26)
           have hks:=cpK_succ hkl h26
           conv=>whnf
           refine ⟨_,getI_nat hkl,?_⟩
           conv=>whnf
           refine byC (c72 gl _ _ _) op72 ?_
           conv=>whnf
           refine bcase_iff.2 ⟨fun h28=>?_,fun h28=>?_⟩
           · have h28:inB cs[i].2[k] 0 2=false:=by have h:(!inB cs[i].2[k] 0 2)=true:=h28; simpa using h
             rw [h28,if_neg (by simp)] at hks
             conv=>whnf
             refine ⟨⟨3874,[],[]⟩,?_⟩
             conv=>whnf
             rw [hwk]
             have hz:=hZ3 (k+1) hkl (by omega)
             rw [hks] at hz
             exact hz
           have h28:inB cs[i].2[k] 0 2=true:=by have h:(!inB cs[i].2[k] 0 2)=false:=h28; simpa using h
           rw [h28,if_pos rfl] at hks
           conv=>whnf
           refine ⟨⟨3874,[],[]⟩,?_⟩
           conv=>whnf
           rw [hwk,h26]
           have hz:=hZ3 (k+1) hkl (by omega)
           rw [hks] at hz
           exact hz
         have h26:cpK (cpG ls.length cs[i].1 (nmC cs i) cs[i].2) cs[i].2 k≠0:=fun e=>by have h:(cpK (cpG ls.length cs[i].1 (nmC cs i) cs[i].2) cs[i].2 k==0)=false:=h26; rw [e] at h; cases h
         rw [cpK_last hk h26,←hcf]
         conv=>whnf
         refine bcase_iff.2 ⟨fun h30=>?_,fun h30=>?_⟩
         · have h30:cpF ls.length cs i≠0:=by simpa using h30
           conv=>whnf
           first | rw [←hG] | skip
           unfold chk
           rw [g1,if_neg (by simp)]
           unfold chk1
           rw [g3,if_neg (by simp),firstR_no hd,if_neg (by simp)]
           unfold chk2
           rw [g15,if_neg (by simp),firstR_at hlc hdc h30,if_pos h30]
           all_goals rfl
         have h30:cpF ls.length cs i=0:=by simpa using h30
         conv=>whnf
         refine ⟨_,rfl,?_⟩
         conv=>whnf
         refine ⟨lim (by simp; omega),?_⟩
         conv=>whnf
         refine ⟨⟨290,[9,111,112,1009,2009,3009,4009],[]⟩,?_⟩
         conv=>whnf
         rw [hwc]
         have hz:=hZ2 (i+1) ⟨hlc,up_succ hdc h30⟩ (by omega)
         rw [show nmC cs (i+1)=nmC cs i++[cs[i].1] from by unfold nmC; rw [take_succ' hlc,List.map_append]; rfl] at hz
         exact hz
       have hkl:k=cs[i].2.length:=by have:=of_decide_eq_false g26_5; omega
       rw [hkl,←hcf]
       conv=>whnf
       refine bcase_iff.2 ⟨fun h30=>?_,fun h30=>?_⟩
       · have h30:cpF ls.length cs i≠0:=by simpa using h30
         conv=>whnf
         first | rw [←hG] | skip
         unfold chk
         rw [g1,if_neg (by simp)]
         unfold chk1
         rw [g3,if_neg (by simp),firstR_no hd,if_neg (by simp)]
         unfold chk2
         rw [g15,if_neg (by simp),firstR_at hlc hdc h30,if_pos h30]
         all_goals rfl
       have h30:cpF ls.length cs i=0:=by simpa using h30
       conv=>whnf
       refine ⟨_,rfl,?_⟩
       conv=>whnf
       refine ⟨lim (by simp; omega),?_⟩
       conv=>whnf
       refine ⟨⟨290,[9,111,112,1009,2009,3009,4009],[]⟩,?_⟩
       conv=>whnf
       rw [hwc]
       have hz:=hZ2 (i+1) ⟨hlc,up_succ hdc h30⟩ (by omega)
       rw [show nmC cs (i+1)=nmC cs i++[cs[i].1] from by unfold nmC; rw [take_succ' hlc,List.map_append]; rfl] at hz
       exact hz
     have h23:¬ (cs[i].2.length:Int)≠(ls.length:Int):=by have h:((cs[i].2.length:Int) != (ls.length:Int))=false:=h23; simpa using h
     have hG:(freE cs[i].1 (nmC cs i):Int)=cpK (cpG ls.length cs[i].1 (nmC cs i) cs[i].2) cs[i].2 0:=by unfold cpK cpG; rw [if_pos g23,if_neg h23,if_neg (by decide),g23]; rfl
     conv=>whnf
     rw [hG]
     refine ⟨⟨3874,[2009],[2009]⟩,?_⟩
     refine LoopW_ind _ (fun k:Nat=>(({ tmps:=[υ,.own 1 [],υ,υ,υ,.sl (S:=S) U.str (nmC cs i) (some 900005),υ,υ,vI i,.own 9 [],vI (cpK (cpG ls.length cs[i].1 (nmC cs i) cs[i].2) cs[i].2 k),vI k,υ,υ,υ,υ,υ,υ,υ,υ,υ,υ,υ,υ,υ,υ,υ,υ,υ,υ,υ,υ,υ,υ,υ,υ,υ,υ,υ,υ,υ,υ,υ,υ,υ,υ,υ,υ,υ,υ,υ,υ,υ,υ,υ,υ,υ,υ,υ,υ,υ,υ,υ,υ,υ,υ,υ,υ,υ,υ,υ,υ,υ,υ,υ,υ,υ,υ,υ,υ,υ,υ,υ,υ,υ,υ,υ,υ,υ,υ,υ,υ,υ,υ,υ,υ,υ,υ,υ,υ,υ,υ,υ,υ,υ,υ,υ,υ,υ,υ,υ,υ,υ],seg:=[(1,.cells (setC p ls cs)),(9,.cells (cpC cs[i])),(900005,.row U.str false)],up:=[] }:St S))) (fun k:Nat=>(k≤cs[i].2.length)) (fun k:Nat=>(cs[i].2.length - k)) () ?_ 0 (Nat.zero_le _)
     intro k hk Z3 hZ3
     conv=>whnf
     refine bcase_iff.2 ⟨fun g26_5=>?_,fun g26_5=>?_⟩
     · have hkl:k < cs[i].2.length:=by have:=of_decide_eq_true g26_5; omega
       have hwk:IntKind.i64.wrap ((k:Int)+1)=((k+1:Nat):Int):=wrap_nat (by omega)
       conv=>whnf
       refine bcase_iff.2 ⟨fun h26=>?_,fun h26=>?_⟩
       · have h26:cpK (cpG ls.length cs[i].1 (nmC cs i) cs[i].2) cs[i].2 k=0:=eq_of_beq (show (cpK (cpG ls.length cs[i].1 (nmC cs i) cs[i].2) cs[i].2 k==0)=true from h26)
         have hks:=cpK_succ hkl h26
         conv=>whnf
         refine ⟨_,getI_nat hkl,?_⟩
         conv=>whnf
         refine byC (c72 gl _ _ _) op72 ?_
         conv=>whnf
         refine bcase_iff.2 ⟨fun h28=>?_,fun h28=>?_⟩
         · have h28:inB cs[i].2[k] 0 2=false:=by have h:(!inB cs[i].2[k] 0 2)=true:=h28; simpa using h
           rw [h28,if_neg (by simp)] at hks
           conv=>whnf
           refine ⟨⟨3874,[],[]⟩,?_⟩
           conv=>whnf
           rw [hwk]
           have hz:=hZ3 (k+1) hkl (by omega)
           rw [hks] at hz
           exact hz
         have h28:inB cs[i].2[k] 0 2=true:=by have h:(!inB cs[i].2[k] 0 2)=false:=h28; simpa using h
         rw [h28,if_pos rfl] at hks
         conv=>whnf
         refine ⟨⟨3874,[],[]⟩,?_⟩
         conv=>whnf
         rw [hwk,h26]
         have hz:=hZ3 (k+1) hkl (by omega)
         rw [hks] at hz
         exact hz
       have h26:cpK (cpG ls.length cs[i].1 (nmC cs i) cs[i].2) cs[i].2 k≠0:=fun e=>by have h:(cpK (cpG ls.length cs[i].1 (nmC cs i) cs[i].2) cs[i].2 k==0)=false:=h26; rw [e] at h; cases h
       rw [cpK_last hk h26,←hcf]
       conv=>whnf
       refine bcase_iff.2 ⟨fun h30=>?_,fun h30=>?_⟩
       · have h30:cpF ls.length cs i≠0:=by simpa using h30
         conv=>whnf
         first | rw [←hG] | skip
         unfold chk
         rw [g1,if_neg (by simp)]
         unfold chk1
         rw [g3,if_neg (by simp),firstR_no hd,if_neg (by simp)]
         unfold chk2
         rw [g15,if_neg (by simp),firstR_at hlc hdc h30,if_pos h30]
         all_goals rfl
       have h30:cpF ls.length cs i=0:=by simpa using h30
       conv=>whnf
       refine ⟨_,rfl,?_⟩
       conv=>whnf
       refine ⟨lim (by simp; omega),?_⟩
       conv=>whnf
       refine ⟨⟨290,[9,111,112,1009,2009,3009,4009],[]⟩,?_⟩
       conv=>whnf
       rw [hwc]
       have hz:=hZ2 (i+1) ⟨hlc,up_succ hdc h30⟩ (by omega)
       rw [show nmC cs (i+1)=nmC cs i++[cs[i].1] from by unfold nmC; rw [take_succ' hlc,List.map_append]; rfl] at hz
       exact hz
     have hkl:k=cs[i].2.length:=by have:=of_decide_eq_false g26_5; omega
     rw [hkl,←hcf]
     conv=>whnf
     refine bcase_iff.2 ⟨fun h30=>?_,fun h30=>?_⟩
     · have h30:cpF ls.length cs i≠0:=by simpa using h30
       conv=>whnf
       first | rw [←hG] | skip
       unfold chk
       rw [g1,if_neg (by simp)]
       unfold chk1
       rw [g3,if_neg (by simp),firstR_no hd,if_neg (by simp)]
       unfold chk2
       rw [g15,if_neg (by simp),firstR_at hlc hdc h30,if_pos h30]
       all_goals rfl
     have h30:cpF ls.length cs i=0:=by simpa using h30
     conv=>whnf
     refine ⟨_,rfl,?_⟩
     conv=>whnf
     refine ⟨lim (by simp; omega),?_⟩
     conv=>whnf
     refine ⟨⟨290,[9,111,112,1009,2009,3009,4009],[]⟩,?_⟩
     conv=>whnf
     rw [hwc]
     have hz:=hZ2 (i+1) ⟨hlc,up_succ hdc h30⟩ (by omega)
     rw [show nmC cs (i+1)=nmC cs i++[cs[i].1] from by unfold nmC; rw [take_succ' hlc,List.map_append]; rfl] at hz
     exact hz
   have g23:freE cs[i].1 (nmC cs i)≠0:=fun e=>by have g:(freE cs[i].1 (nmC cs i)==0)=false:=g23_2; rw [e] at g; cases g
   have hG:freE cs[i].1 (nmC cs i)=cpK (cpG ls.length cs[i].1 (nmC cs i) cs[i].2) cs[i].2 0:=by unfold cpK cpG; rw [if_neg g23,if_pos g23]
   conv=>whnf
   rw [hG]
   refine ⟨⟨3874,[2009],[2009]⟩,?_⟩
   refine LoopW_ind _ (fun k:Nat=>(({ tmps:=[υ,.own 1 [],υ,υ,υ,.sl (S:=S) U.str (nmC cs i) (some 900005),υ,υ,vI i,.own 9 [],vI (cpK (cpG ls.length cs[i].1 (nmC cs i) cs[i].2) cs[i].2 k),vI k,υ,υ,υ,υ,υ,υ,υ,υ,υ,υ,υ,υ,υ,υ,υ,υ,υ,υ,υ,υ,υ,υ,υ,υ,υ,υ,υ,υ,υ,υ,υ,υ,υ,υ,υ,υ,υ,υ,υ,υ,υ,υ,υ,υ,υ,υ,υ,υ,υ,υ,υ,υ,υ,υ,υ,υ,υ,υ,υ,υ,υ,υ,υ,υ,υ,υ,υ,υ,υ,υ,υ,υ,υ,υ,υ,υ,υ,υ,υ,υ,υ,υ,υ,υ,υ,υ,υ,υ,υ,υ,υ,υ,υ,υ,υ,υ,υ,υ,υ,υ,υ],seg:=[(1,.cells (setC p ls cs)),(9,.cells (cpC cs[i])),(900005,.row U.str false)],up:=[] }:St S))) (fun k:Nat=>(k≤cs[i].2.length)) (fun k:Nat=>(cs[i].2.length - k)) () ?_ 0 (Nat.zero_le _)
   intro k hk Z3 hZ3
   conv=>whnf
   refine bcase_iff.2 ⟨fun g26_5=>?_,fun g26_5=>?_⟩
   · have hkl:k < cs[i].2.length:=by have:=of_decide_eq_true g26_5; omega
     have hwk:IntKind.i64.wrap ((k:Int)+1)=((k+1:Nat):Int):=wrap_nat (by omega)
     conv=>whnf
     refine bcase_iff.2 ⟨fun h26=>?_,fun h26=>?_⟩
     · have h26:cpK (cpG ls.length cs[i].1 (nmC cs i) cs[i].2) cs[i].2 k=0:=eq_of_beq (show (cpK (cpG ls.length cs[i].1 (nmC cs i) cs[i].2) cs[i].2 k==0)=true from h26)
       have hks:=cpK_succ hkl h26
       conv=>whnf
       refine ⟨_,getI_nat hkl,?_⟩
       conv=>whnf
       refine byC (c72 gl _ _ _) op72 ?_
       conv=>whnf
       refine bcase_iff.2 ⟨fun h28=>?_,fun h28=>?_⟩
       · have h28:inB cs[i].2[k] 0 2=false:=by have h:(!inB cs[i].2[k] 0 2)=true:=h28; simpa using h
         rw [h28,if_neg (by simp)] at hks
         conv=>whnf
         refine ⟨⟨3874,[],[]⟩,?_⟩
         conv=>whnf
         rw [hwk]
         have hz:=hZ3 (k+1) hkl (by omega)
         rw [hks] at hz
         exact hz
       have h28:inB cs[i].2[k] 0 2=true:=by have h:(!inB cs[i].2[k] 0 2)=false:=h28; simpa using h
       rw [h28,if_pos rfl] at hks
       conv=>whnf
       refine ⟨⟨3874,[],[]⟩,?_⟩
       conv=>whnf
       rw [hwk,h26]
       have hz:=hZ3 (k+1) hkl (by omega)
       rw [hks] at hz
       exact hz
     have h26:cpK (cpG ls.length cs[i].1 (nmC cs i) cs[i].2) cs[i].2 k≠0:=fun e=>by have h:(cpK (cpG ls.length cs[i].1 (nmC cs i) cs[i].2) cs[i].2 k==0)=false:=h26; rw [e] at h; cases h
     rw [cpK_last hk h26,←hcf]
     conv=>whnf
     refine bcase_iff.2 ⟨fun h30=>?_,fun h30=>?_⟩
     · have h30:cpF ls.length cs i≠0:=by simpa using h30
       conv=>whnf
       first | rw [←hG] | skip
       unfold chk
       rw [g1,if_neg (by simp)]
       unfold chk1
       rw [g3,if_neg (by simp),firstR_no hd,if_neg (by simp)]
       unfold chk2
       rw [g15,if_neg (by simp),firstR_at hlc hdc h30,if_pos h30]
       all_goals rfl
     have h30:cpF ls.length cs i=0:=by simpa using h30
     conv=>whnf
     refine ⟨_,rfl,?_⟩
     conv=>whnf
     refine ⟨lim (by simp; omega),?_⟩
     conv=>whnf
     refine ⟨⟨290,[9,111,112,1009,2009,3009,4009],[]⟩,?_⟩
     conv=>whnf
     rw [hwc]
     have hz:=hZ2 (i+1) ⟨hlc,up_succ hdc h30⟩ (by omega)
     rw [show nmC cs (i+1)=nmC cs i++[cs[i].1] from by unfold nmC; rw [take_succ' hlc,List.map_append]; rfl] at hz
     exact hz
   have hkl:k=cs[i].2.length:=by have:=of_decide_eq_false g26_5; omega
   rw [hkl,←hcf]
   conv=>whnf
   refine bcase_iff.2 ⟨fun h30=>?_,fun h30=>?_⟩
   · have h30:cpF ls.length cs i≠0:=by simpa using h30
     conv=>whnf
     first | rw [←hG] | skip
     unfold chk
     rw [g1,if_neg (by simp)]
     unfold chk1
     rw [g3,if_neg (by simp),firstR_no hd,if_neg (by simp)]
     unfold chk2
     rw [g15,if_neg (by simp),firstR_at hlc hdc h30,if_pos h30]
     all_goals rfl
   have h30:cpF ls.length cs i=0:=by simpa using h30
   conv=>whnf
   refine ⟨_,rfl,?_⟩
   conv=>whnf
   refine ⟨lim (by simp; omega),?_⟩
   conv=>whnf
   refine ⟨⟨290,[9,111,112,1009,2009,3009,4009],[]⟩,?_⟩
   conv=>whnf
   rw [hwc]
   have hz:=hZ2 (i+1) ⟨hlc,up_succ hdc h30⟩ (by omega)
   rw [show nmC cs (i+1)=nmC cs i++[cs[i].1] from by unfold nmC; rw [take_succ' hlc,List.map_append]; rfl] at hz
   exact hz
 have hgc:i=cs.length:=by have:=of_decide_eq_false h19; omega
 conv=>whnf
 rw [hgc] at hdc
 unfold chk
 rw [g1,if_neg (by simp)]
 unfold chk1
 rw [g3,if_neg (by simp),firstR_no hd,if_neg (by simp)]
 unfold chk2
 rw [g15,if_neg (by simp),firstR_no hdc,if_neg (by simp)]
theorem op17:Opens PR 17:=⟨_,Tryd.func17,rfl,rfl⟩
theorem c45 (gl:Gl) (p:Int) (ls:List Lf) (cs:List Cp) (hL:LensS ls cs) (hN:LensN ls cs):PCalls PR gl 45 [.agg [vI p,lfsV ls,cpsV cs]] fun r=>r=vB (chE p ls cs==0):=by
 refine fnW_sound (par_ok gl) Tryd.func45 ?_
 conv=>whnf
 refine byC (c17 gl p ls cs hL hN) op17 ?_
 conv=>whnf
theorem op45:Opens PR 45:=⟨_,Tryd.func45,rfl,rfl⟩
end Go.Ab.MkF
namespace Go.Ab.MkF
open Go Go.Ab Go.Ab.Pln Go.Proofs
set_option maxHeartbeats 1000000
set_option maxRecDepth 100000
theorem beqT {a b:Int} (h:(a==b)=true):a=b:=eq_of_beq h
theorem beqF {a b:Int} (h:(a==b)=false):a≠b:=fun e=>by rw [e] at h; simp at h
def kdU (l:List Int) (k:Nat):Int:=if k≤2 then 1 else kindI l
theorem cntI_small (l:List Int) (k:Int):cntI l k≤l.length:=List.length_filter_le _ _
def hvN (cs:List Cp) (l:Nat) (k:Int) (i:Nat):Nat:=((List.range i).filter fun c=>hasI cs c l==k).length
theorem hvN_succ (cs:List Cp) (l:Nat) (k:Int) (i:Nat):hvN cs l k (i+1)=hvN cs l k i+if (hasI cs i l==k)=true then 1 else 0:=by
 unfold hvN
 rw [List.range_succ,List.filter_append,List.length_append,List.filter_cons,List.filter_nil]
 cases hasI cs i l==k <;> rfl
theorem hvN_le (cs:List Cp) (l:Nat) (k:Int) (i:Nat):hvN cs l k i≤i:=by
 have:=List.length_filter_le (fun c=>hasI cs c l==k) (List.range i)
 rwa [List.length_range] at this
abbrev hvA (cs:List Cp) (l:Nat) (k:Int):Nat:=hvN cs l k cs.length
theorem hvA_ones {cs:List Cp} (h4:cs.length≤4) (l:Nat) (k:Int):onesN (havN cs l k)=hvA cs l k:=by
 have h1:=bitsL_bitsO (c:=cs.length) (by omega) (fun i=>hasI cs i l==k)
 have hlt:=havN_lt h4 l k
 have h2:(bitsL (havN cs l k)).length=onesN (havN cs l k):=by rw [bitsL_below (c:=8) (by omega) (by omega)]; rfl
 rw [←h2]
 unfold havN
 rw [h1]
 rfl
def scaU (cs:List Cp) (k:Int):Nat→Nat
 | 0=>0
 | l+1=>if l=0 then 0 else if hvA cs l k < hvA cs (scaU cs k l) k then l else scaU cs k l
theorem scaU_lt (cs:List Cp) (k:Int):∀ l,scaU cs k (l+1)≤l
 | 0=>by simp [scaU]
 | l+1=>by
  have ih:=scaU_lt cs k l
  show (if l+1=0 then 0 else if hvA cs (l+1) k < hvA cs (scaU cs k (l+1)) k then l+1 else scaU cs k (l+1))≤l+1
  rw [if_neg (by omega)]
  split <;> omega
theorem most_sca {cs:List Cp} (h4:cs.length≤4) (k:Int):∀ l,mostU cs k (l+1)=(hvA cs (scaU cs k (l+1)) k,scaU cs k (l+1))
 | 0=>by
  show (if onesN (havN cs 0 k) < cs.length+1 then (onesN (havN cs 0 k),0) else (cs.length+1,0))=(hvA cs 0 k,0)
  have:=hvN_le cs 0 k cs.length
  rw [hvA_ones h4,if_pos (by unfold hvA; omega)]
 | l+1=>by
  have ih:=most_sca h4 k l
  show (if onesN (havN cs (l+1) k) < (mostU cs k (l+1)).1 then (onesN (havN cs (l+1) k),l+1) else mostU cs k (l+1))=_
  have hs:scaU cs k (l+1+1)=if hvA cs (l+1) k < hvA cs (scaU cs k (l+1)) k then l+1 else scaU cs k (l+1):=by
   show (if l+1=0 then 0 else _)=_
   rw [if_neg (by omega)]
  rw [hvA_ones h4,ih,hs]
  show (if hvA cs (l+1) k < hvA cs (scaU cs k (l+1)) k then _ else _)=_
  split <;> rfl
theorem c94 (gl:Gl) (l:List Int) (hl:l.length≤9223372036854775807) (n:Int):PCalls PR gl 94 [vL l,vI n] fun r=>r=vI ((cntI l n:Nat):Int):=by
 refine fnW_sound (parH_ok gl) Tryd.func94 ?_
 conv=>whnf
 refine ⟨?_⟩
 conv=>whnf
 refine ⟨?_⟩
 conv=>whnf
 refine ⟨?_⟩
 conv=>whnf
 refine ⟨⟨99,[],[]⟩,?_⟩
 refine LoopW_ind _ (fun i:Nat=>(({ tmps:=[vL l,vI n,υ,υ,υ,vI ((cntI (l.take i) n:Nat):Int),vI i,υ,υ,υ,υ,υ,υ,υ,υ,υ,υ,υ,υ,υ,υ,υ],seg:=[],up:=[] }:St S))) (fun i:Nat=>(i≤l.length)) (fun i:Nat=>(l.length - i)) () ?_ 0 (Nat.zero_le _)
 intro i hi Z1 hZ1
 conv=>whnf
 refine ⟨?_⟩
 conv=>whnf
 refine bcase_iff.2 ⟨fun h3=>?_,fun h3=>?_⟩
 · have hlt:i < l.length:=by have:=of_decide_eq_true h3; omega
   have hw:IntKind.i64.wrap ((i:Int)+1)=((i+1:Nat):Int):=wrap_nat (by omega)
   have hcs:=cntI_succ hlt n
   have hcl:=cntI_small (l.take i) n
   rw [List.length_take] at hcl
   conv=>whnf
   refine ⟨?_⟩
   conv=>whnf
   refine ⟨_,getI_nat hlt,?_⟩
   conv=>whnf
   refine bcase_iff.2 ⟨fun h5=>?_,fun h5=>?_⟩
   · rw [if_pos (beqT h5)] at hcs
     have hw2:IntKind.i64.wrap (((cntI (l.take i) n:Nat):Int)+1)=((cntI (l.take (i+1)) n:Nat):Int):=by rw [hcs]; exact wrap_nat (by omega)
     conv=>whnf
     refine ⟨?_⟩
     conv=>whnf
     refine ⟨?_⟩
     conv=>whnf
     refine ⟨⟨99,[],[]⟩,?_⟩
     conv=>whnf
     rw [hw,hw2]
     exact hZ1 (i+1) hlt (by omega)
   rw [if_neg (beqF h5)] at hcs
   conv=>whnf
   refine ⟨?_⟩
   conv=>whnf
   refine ⟨⟨99,[],[]⟩,?_⟩
   conv=>whnf
   rw [hw,←hcs]
   exact hZ1 (i+1) hlt (by omega)
 have hge:i=l.length:=by have:=of_decide_eq_false h3; omega
 conv=>whnf
 refine ⟨?_⟩
 conv=>whnf
 rw [hge,List.take_length]
theorem op94:Opens PR 94:=⟨_,Tryd.func94,rfl,rfl⟩
end Go.Ab.MkF
namespace Go.Ab.MkF
open Go Go.Ab Go.Ab.Pln
theorem cntI_cons (x:Int) (r:List Int) (k:Int):cntI (x :: r) k=(if x=k then 1 else 0)+cntI r k:=by
 unfold cntI
 rw [List.filter_cons]
 by_cases h:x=k
 · rw [if_pos h,if_pos (by simpa using h),List.length_cons]; omega
 rw [if_neg h,if_neg (by simpa using h)]; omega
theorem hostL_mem:∀ (m:Nat) (lf pre:List Int),lf.length=3→(∀ k,k < 3→0≤lf.getD k 0)→lf.getD 0 0+lf.getD 1 0+lf.getD 2 0=m→∀ q,(q∈hostL m lf pre ↔
  ∃ r,q=pre++r∧r.length=m∧(∀ x∈r,x=0∨x=1∨x=2)∧∀ k:Nat,k < 3→(cntI r (k:Int):Int)=lf.getD k 0)
 | 0,lf,pre,hl,h0,hs,q=>by
  simp only [hostL,List.mem_singleton]
  constructor
  · rintro rfl
    refine ⟨[],by simp,rfl,(fun x hx=>by cases hx),fun k hk=>?_⟩
    have a0:=h0 0 (by omega)
    have a1:=h0 1 (by omega)
    have a2:=h0 2 (by omega)
    show ((0:Nat):Int)=_
    match k,hk with
    | 0,_=>omega
    | 1,_=>omega
    | 2,_=>omega
  rintro ⟨r,rfl,hr,_⟩
  rw [List.length_eq_zero_iff.1 hr,List.append_nil]
 | m + 1,lf,pre,hl,h0,hs,q=>by
  simp only [hostL,List.mem_flatMap,List.mem_range]
  have hset:∀ k j,k < 3→(lf.set k (lf.getD k 0 - 1)).getD j 0=if k=j then lf.getD k 0 - 1 else lf.getD j 0:=fun k j hk=>by
   by_cases e:k=j
   · subst e; rw [getD_set_self (by omega),if_pos rfl]
   rw [getD_set_ne e,if_neg e]
  have ih:=fun k (hk:k < 3) (hne:lf.getD k 0≠0)=>hostL_mem m (lf.set k (lf.getD k 0 - 1)) (pre++[(k:Int)]) (by rw [List.length_set]; exact hl) (fun j hj=>by
    rw [hset k j hk]; have:=h0 j hj; have:=h0 k hk; split <;> omega) (by
    rw [hset k 0 hk,hset k 1 hk,hset k 2 hk]
    match k,hk with
    | 0,_=>rw [if_pos rfl,if_neg (by decide),if_neg (by decide)]; omega
    | 1,_=>rw [if_neg (by decide),if_pos rfl,if_neg (by decide)]; omega
    | 2,_=>rw [if_neg (by decide),if_neg (by decide),if_pos rfl]; omega) q
  constructor
  · rintro ⟨k,hk,hq⟩
    by_cases hne:lf.getD k 0=0
    · rw [if_pos hne] at hq; cases hq
    rw [if_neg hne,ih k hk hne] at hq
    obtain ⟨r,rfl,hr,hx,hc⟩:=hq
    refine ⟨(k:Int) :: r,by simp,by simp [hr],fun x hx'=>?_,fun j hj=>?_⟩
    · rcases List.mem_cons.1 hx' with rfl | hx'
      · omega
      exact hx x hx'
    have:=hc j hj
    rw [hset k j hk] at this
    rw [cntI_cons]
    by_cases e:k=j
    · subst e; rw [if_pos rfl] at this ⊢; omega
    rw [if_neg e] at this; rw [if_neg (by omega)]; omega
  rintro ⟨r,rfl,hr,hx,hc⟩
  match r,hr with
  | x :: r,hr =>
   have hx0:=hx x List.mem_cons_self
   obtain ⟨k,hk,rfl⟩:∃ k:Nat,k < 3∧x=(k:Int):=⟨x.toNat,by omega,by omega⟩
   have hck:=hc k hk
   rw [cntI_cons,if_pos rfl] at hck
   have hne:lf.getD k 0≠0:=by omega
   refine ⟨k,hk,?_⟩
   rw [if_neg hne,ih k hk hne]
   refine ⟨r,by simp,by simpa using hr,fun y hy=>hx y (List.mem_cons_of_mem _ hy),fun j hj=>?_⟩
   have:=hc j hj
   rw [cntI_cons] at this
   rw [hset k j hk]
   by_cases e:k=j
   · subst e; rw [if_pos rfl] at this ⊢; omega
   rw [if_neg (by omega)] at this; rw [if_neg e]; omega
theorem cntI_all:∀ (r:List Int),(∀ x∈r,x=0∨x=1∨x=2)→cntI r 0+cntI r 1+cntI r 2=r.length
 | [],_=>rfl
 | x :: r,h=>by
  have ih:=cntI_all r fun y hy=>h y (List.mem_cons_of_mem _ hy)
  rw [cntI_cons,cntI_cons,cntI_cons,List.length_cons]
  rcases h x List.mem_cons_self with rfl | rfl | rfl <;> simp <;> omega
theorem most_le {cs:List Cp} (h4:cs.length≤4) (k:Int):∀ L l,l < L→(mostU cs k L).1≤hvA cs l k
 | 0,_,h=>absurd h (Nat.not_lt_zero _)
 | L+1,l,h=>by
  have hs:mostU cs k (L+1)=if onesN (havN cs L k) < (mostU cs k L).1 then (onesN (havN cs L k),L) else mostU cs k L:=rfl
  rw [hs,hvA_ones h4]
  rcases Nat.lt_or_eq_of_le (Nat.le_of_lt_succ h) with h1 | rfl
  · have ih:=most_le h4 k L l h1
    split
    · show hvA cs L k≤_; omega
    exact ih
  split
  · exact Nat.le_refl _
  omega
theorem most_at {cs:List Cp} (h4:cs.length≤4) (k:Int) {L:Nat} (hL:1≤L):∃ l,l < L∧(mostU cs k L).1=hvA cs l k:=by
 have:=most_sca h4 k (L - 1)
 rw [show L - 1+1=L by omega] at this
 have hl:=scaU_lt cs k (L - 1)
 rw [show L - 1+1=L by omega] at hl
 exact ⟨scaU cs k L,by omega,by rw [this]⟩
theorem hvN_two (cs:List Cp) (l:Nat) {k k':Int} (hk:k≠k'):∀ i,hvN cs l k i+hvN cs l k' i≤i
 | 0=>Nat.le_refl _
 | i+1=>by
  have ih:=hvN_two cs l hk i
  rw [hvN_succ,hvN_succ]
  by_cases h:hasI cs i l=k
  · rw [if_pos (by simpa using h),if_neg (by rw [h]; simpa using hk)]; omega
  rw [if_neg (by simpa using h)]; split <;> omega
theorem most_two {ls:List Lf} {cs:List Cp} (h4:cs.length≤4) (hn:1≤ls.length):(mostN ls cs 1).1+(mostN ls cs 2).1≤cs.length:=by
 have h1:=most_le h4 1 ls.length 0 (by omega)
 have h2:=most_le h4 2 ls.length 0 (by omega)
 have h3:hvA cs 0 1+hvA cs 0 2≤cs.length:=hvN_two cs 0 (show (1:Int)≠2 by decide) cs.length
 unfold mostN
 omega
structure HostOk (ls:List Lf) (cs:List Cp) (h:List Int):Prop where
 len:h.length=cs.length
 kind:∀ x∈h,x=0∨x=1∨x=2
 one:cntI h 1=(mostN ls cs 1).1
 two:cntI h 2=(mostN ls cs 2).1
theorem hostA_mem {ls:List Lf} {cs:List Cp} (h4:cs.length≤4) (hn:1≤ls.length) {h:List Int}:h∈hostA ls cs↔HostOk ls cs h:=by
 have h2:=most_two h4 hn
 have hlf:leftU ls cs 3=[(cs.length:Int) - (mostN ls cs 1).1 - (mostN ls cs 2).1,((mostN ls cs 1).1:Int),((mostN ls cs 2).1:Int)]:=rfl
 unfold hostA
 rw [hostL_mem cs.length (leftU ls cs 3) [] (leftU_len _ _ _) (fun k hk=>by
   rw [hlf]
   match k,hk with
   | 0,_=>show 0≤(cs.length:Int) - _ - _; omega
   | 1,_=>show (0:Int)≤((mostN ls cs 1).1:Int); omega
   | 2,_=>show (0:Int)≤((mostN ls cs 2).1:Int); omega) (by
   rw [hlf]
   show (cs.length:Int) - _ - _+((mostN ls cs 1).1:Int)+((mostN ls cs 2).1:Int)=_
   omega) h]
 constructor
 · rintro ⟨r,hrr,hr,hx,hc⟩
   rw [List.nil_append] at hrr
   subst hrr
   rw [hlf] at hc
   refine ⟨hr,hx,?_,?_⟩
   · have:=hc 1 (by omega)
     have this:(cntI h 1:Int)=((mostN ls cs 1).1:Int):=this
     omega
   have:=hc 2 (by omega)
   have this:(cntI h 2:Int)=((mostN ls cs 2).1:Int):=this
   omega
 rintro ⟨h1,hx,hc1,hc2⟩
 have ha:=cntI_all h hx
 refine ⟨h,rfl,h1,hx,fun k hk=>?_⟩
 rw [hlf]
 match k,hk with
 | 0,_=>show (cntI h 0:Int)=(cs.length:Int) - _ - _; omega
 | 1,_=>show (cntI h 1:Int)=_; rw [hc1]; rfl
 | 2,_=>show (cntI h 2:Int)=_; rw [hc2]; rfl
theorem pad_get {h:List Int} (c:Nat):(pad4 h).getD c 0=h.getD c 0:=by
 rcases Nat.lt_or_ge c h.length with hc | hc
 · rw [getD_at (by rw [List.length_append]; omega),getD_at hc,List.getElem_append_left hc]
 rw [List.getD_eq_getElem?_getD,List.getD_eq_getElem?_getD,List.getElem?_eq_none hc,List.getElem?_append_right hc]
 rcases Nat.lt_or_ge (c - h.length) (4 - h.length) with h2 | h2
 · rw [List.getElem?_replicate,if_pos h2]; rfl
 rw [List.getElem?_replicate,if_neg (by omega)]
theorem HostOk.nn {ls:List Lf} {cs:List Cp} {h:List Int} (hh:HostOk ls cs h) (c:Nat):0≤(pad4 h).getD c 0∧(pad4 h).getD c 0≤2:=by
 rw [pad_get]
 rcases Nat.lt_or_ge c h.length with hc | hc
 · rw [getD_at hc]; have:=hh.kind _ (List.getElem_mem hc); omega
 rw [List.getD_eq_getElem?_getD,List.getElem?_eq_none hc]; decide
def tbOf (f:Nat→Nat→Int):Tb:=(List.range 4).map fun c=>(List.range 6).map fun l=>f c l
theorem tbOf_ok (f:Nat→Nat→Int):Tb46 (tbOf f):=⟨rfl,fun c hc=>by
 unfold tbOf
 rw [getD_at (xs:=(List.range 4).map fun c=>(List.range 6).map fun l=>f c l) (i:=c) (by simp; exact hc)]
 simp⟩
theorem tbOf_get {f:Nat→Nat→Int} {c l:Nat} (hc:c < 4) (hl:l < 6):get2 (tbOf f) c l=f c l:=by
 unfold get2 tbOf
 rw [getD_at (xs:=(List.range 4).map fun c=>(List.range 6).map fun l=>f c l) (i:=c) (by simp; exact hc),List.getElem_map,getD_at (by simp; exact hl)]
 simp
theorem tbOf_out {f:Nat→Nat→Int} {c l:Nat} (h:¬ (c < 4∧l < 6)):get2 (tbOf f) c l=0:=by
 unfold get2 tbOf
 rcases Nat.lt_or_ge c 4 with hc | hc
 · rw [getD_at (xs:=(List.range 4).map fun c=>(List.range 6).map fun l=>f c l) (i:=c) (by simp; exact hc),List.getElem_map,List.getD_eq_getElem?_getD,List.getElem?_eq_none]
   · rfl
   simp; omega
 rw [List.getD_eq_getElem?_getD (l:=List.map _ _),List.getElem?_eq_none (by simp; omega)]; rfl
def needL (cs:List Cp) (H:List Int) (l:Nat) (k:Int):List Nat:=(List.range cs.length).filter fun c=>H.getD c 0==k&&hasI cs c l != k
def freeL (cs:List Cp) (H:List Int) (l:Nat) (k:Int):List Nat:=(List.range cs.length).filter fun d=>hasI cs d l==k&&H.getD d 0 != k
theorem range_split (p q:Nat→Bool):∀ i,((List.range i).filter fun c=>p c&&!q c).length+((List.range i).filter fun c=>p c&&q c).length=((List.range i).filter p).length
 | 0=>rfl
 | i+1=>by
  have ih:=range_split p q i
  simp only [List.range_succ,List.filter_append,List.length_append,List.filter_cons,List.filter_nil]
  cases p i <;> cases q i <;> simp <;> omega
theorem cnt_host (H:List Int) (k:Int):∀ i,i≤H.length→((List.range i).filter fun c=>H.getD c 0==k).length=cntI (H.take i) k
 | 0,_=>rfl
 | i+1,h=>by
  rw [List.range_succ,List.filter_append,List.length_append,cnt_host H k i (by omega),cntI_succ (by omega),List.filter_cons,List.filter_nil,getD_at (by omega:i < H.length)]
  by_cases e:H[i]=k
  · rw [if_pos e,if_pos (by simpa using e)]; rfl
  rw [if_neg e,if_neg (by simpa using e)]; rfl
theorem need_free {ls:List Lf} {cs:List Cp} (h4:cs.length≤4) {h:List Int} (hh:HostOk ls cs h) {l:Nat} (hl:l < ls.length) {k:Int} (hk:k=1∨k=2):(needL cs (pad4 h) l k).length≤(freeL cs (pad4 h) l k).length:=by
 have e1:=range_split (fun c=>(pad4 h).getD c 0==k) (fun c=>hasI cs c l==k) cs.length
 have e2:=range_split (fun c=>hasI cs c l==k) (fun c=>(pad4 h).getD c 0==k) cs.length
 have e3:((List.range cs.length).filter fun c=>(pad4 h).getD c 0==k&&hasI cs c l==k).length=((List.range cs.length).filter fun c=>hasI cs c l==k&&(pad4 h).getD c 0==k).length:=by
  congr 1
  apply List.filter_congr
  intro c _
  rw [Bool.and_comm]
 have e4:((List.range cs.length).filter fun c=>(pad4 h).getD c 0==k).length=cntI h k:=by
  have:((List.range cs.length).filter fun c=>(pad4 h).getD c 0==k)=(List.range cs.length).filter fun c=>h.getD c 0==k:=by
   apply List.filter_congr
   intro c _
   rw [pad_get]
  rw [this,cnt_host h k _ (by rw [hh.len]; exact Nat.le_refl _),←hh.len,List.take_length]
 have e5:(mostN ls cs k).1≤hvA cs l k:=most_le h4 k ls.length l hl
 have e6:cntI h k=(mostN ls cs k).1:=by rcases hk with rfl | rfl; exact hh.one; exact hh.two
 unfold needL freeL
 unfold hvA hvN at e5
 have e7:((List.range cs.length).filter fun c=>(pad4 h).getD c 0==k&&hasI cs c l != k)=(List.range cs.length).filter fun c=>(pad4 h).getD c 0==k&&!(hasI cs c l==k):=rfl
 have e8:((List.range cs.length).filter fun c=>hasI cs c l==k&&(pad4 h).getD c 0 != k)=(List.range cs.length).filter fun c=>hasI cs c l==k&&!((pad4 h).getD c 0==k):=rfl
 rw [e7,e8]
 omega
def fromI (cs:List Cp) (H:List Int) (c l:Nat):Nat:=if hasI cs c l=H.getD c 0 then c else (freeL cs H l (H.getD c 0)).getD ((needL cs H l (H.getD c 0)).idxOf c) 0
theorem from_don {ls:List Lf} {cs:List Cp} (h4:cs.length≤4) {h:List Int} (hh:HostOk ls cs h) {c l:Nat} (hc:c < cs.length) (hl:l < ls.length) (h0:(pad4 h).getD c 0≠0) (hne:hasI cs c l≠(pad4 h).getD c 0) :
  (needL cs (pad4 h) l ((pad4 h).getD c 0)).idxOf c < (freeL cs (pad4 h) l ((pad4 h).getD c 0)).length∧c∈needL cs (pad4 h) l ((pad4 h).getD c 0)∧fromI cs (pad4 h) c l∈freeL cs (pad4 h) l ((pad4 h).getD c 0):=by
 have hn:=hh.nn c
 have hle:=need_free h4 hh hl (k:=(pad4 h).getD c 0) (by omega)
 have hm:c∈needL cs (pad4 h) l ((pad4 h).getD c 0):=by
  unfold needL
  rw [List.mem_filter,List.mem_range]
  exact ⟨hc,by simpa using hne⟩
 have hi:=List.idxOf_lt_length_of_mem hm
 refine ⟨by omega,hm,?_⟩
 unfold fromI
 rw [if_neg hne,getD_at (xs:=freeL cs (pad4 h) l ((pad4 h).getD c 0)) (by omega)]
 exact List.getElem_mem _
theorem free_mem {cs:List Cp} {H:List Int} {l d:Nat} {k:Int}:d∈freeL cs H l k↔d < cs.length∧hasI cs d l=k∧H.getD d 0≠k:=by
 unfold freeL
 rw [List.mem_filter,List.mem_range,Bool.and_eq_true,beq_iff_eq,bne_iff_ne]
theorem idx_inj {l:List Nat} {a b:Nat} (ha:a∈l) (hb:b∈l) (h:l.idxOf a=l.idxOf b):a=b:=by
 have h1:=List.getElem_idxOf (List.idxOf_lt_length_of_mem ha)
 have h2:=List.getElem_idxOf (List.idxOf_lt_length_of_mem hb)
 simp only [h] at h1
 exact h1.symm.trans h2
theorem from_inj {ls:List Lf} {cs:List Cp} (h4:cs.length≤4) {h:List Int} (hh:HostOk ls cs h) {c c' l:Nat} (hc:c < cs.length) (hc':c' < cs.length) (hl:l < ls.length) (h0:(pad4 h).getD c 0≠0) (h0':(pad4 h).getD c' 0≠0) (hcc:c≠c') :
  fromI cs (pad4 h) c l≠fromI cs (pad4 h) c' l:=by
 have one:∀ {a b:Nat},b < cs.length→(pad4 h).getD b 0≠0→hasI cs a l=(pad4 h).getD a 0→hasI cs b l≠(pad4 h).getD b 0→fromI cs (pad4 h) a l≠fromI cs (pad4 h) b l:=fun {a b} hb hb0 ha hbn e=>by
  have h1:=(from_don h4 hh hb hl hb0 hbn).2.2
  rw [←e] at h1
  unfold fromI at h1
  rw [if_pos ha,free_mem] at h1
  exact h1.2.2 (by rw [←ha,h1.2.1])
 by_cases ho:hasI cs c l=(pad4 h).getD c 0
 · by_cases ho':hasI cs c' l=(pad4 h).getD c' 0
   · unfold fromI; rw [if_pos ho,if_pos ho']; exact hcc
   exact one hc' h0' ho ho'
 by_cases ho':hasI cs c' l=(pad4 h).getD c' 0
 · exact (one hc h0 ho' ho).symm
 obtain ⟨g1,g2,g3⟩:=from_don h4 hh hc hl h0 ho
 obtain ⟨g1',g2',g3'⟩:=from_don h4 hh hc' hl h0' ho'
 intro e
 by_cases hk:(pad4 h).getD c 0=(pad4 h).getD c' 0
 · unfold fromI at e
   rw [if_neg ho,if_neg ho',←hk] at e
   rw [←hk] at g1' g2'
   rw [getD_at (xs:=freeL cs (pad4 h) l ((pad4 h).getD c 0)) g1,getD_at (xs:=freeL cs (pad4 h) l ((pad4 h).getD c 0)) g1'] at e
   have hnd:(freeL cs (pad4 h) l ((pad4 h).getD c 0)).Nodup:=List.nodup_range.filter _
   have:=(List.getElem_inj hnd).1 e
   exact hcc (idx_inj g2 g2' this)
 rw [e] at g3
 exact hk ((free_mem.1 g3).2.1.symm.trans (free_mem.1 g3').2.1)
theorem plan_ex {ls:List Lf} {cs:List Cp} (h4:cs.length≤4) (hn6:ls.length≤6) {h:List Int} (hh:HostOk ls cs h):∃ Q,PlOk ls.length cs (pad4 h) Q:=by
 let tk:Nat→Nat→Bool:=fun c l=>(List.range cs.length).any fun c'=>decide ((pad4 h).getD c' 0≠0)&&fromI cs (pad4 h) c' l==c
 let f:Nat→Nat→Int:=fun c l=>if c < cs.length∧l < ls.length then (if (pad4 h).getD c 0≠0 then (fromI cs (pad4 h) c l:Int) else if hasI cs c l > 0∧tk c l=false then (c:Int) else -1) else 0
 have hg:∀ c l,get2 (tbOf f) c l=f c l:=fun c l=>by
  by_cases e:c < 4∧l < 6
  · exact tbOf_get e.1 e.2
  rw [tbOf_out e]
  show 0=if c < cs.length∧l < ls.length then _ else (0:Int)
  rw [if_neg (by omega)]
 have hin:∀ c l,c < cs.length→l < ls.length→(pad4 h).getD c 0≠0→f c l=(fromI cs (pad4 h) c l:Int):=fun c l a1 a2 a3=>by
  show (if c < cs.length∧l < ls.length then _ else _)=_
  rw [if_pos ⟨a1,a2⟩,if_pos a3]
 have hre:∀ c l,c < cs.length→l < ls.length→(pad4 h).getD c 0=0→f c l=if hasI cs c l > 0∧tk c l=false then (c:Int) else -1:=fun c l a1 a2 a3=>by
  show (if c < cs.length∧l < ls.length then _ else _)=_
  rw [if_pos ⟨a1,a2⟩,if_neg (by simpa using a3)]
 have htk:∀ c l,l < ls.length→(tk c l=false↔∀ c',c' < cs.length→(pad4 h).getD c' 0≠0→f c' l≠(c:Int)):=fun c l hl=>by
  show ((List.range cs.length).any _)=false↔_
  rw [List.any_eq_false]
  constructor
  · intro hall c' a1 a2 e
    have:=hall c' (List.mem_range.2 a1)
    rw [hin c' l a1 hl a2] at e
    rw [decide_eq_true a2,Bool.true_and,beq_iff_eq] at this
    exact this (by omega)
  intro hall c' hc'
  have hc':=List.mem_range.1 hc'
  intro hb
  rw [Bool.and_eq_true,decide_eq_true_eq,beq_iff_eq] at hb
  exact hall c' hc' hb.1 (by rw [hin c' l hc' hl hb.1,hb.2])
 refine ⟨tbOf f,tbOf_ok f,fun c x hz=>?_,fun c x a1 a2 a3 a4=>?_,fun c x a1 a2 a3 a4=>?_,fun c c' x a1 a2 a3 a4 a5 a6=>?_,fun c x a1 a2 a3 a4 a5=>?_,fun c x a1 a2 a3 a4=>?_⟩
 · rw [hg]; show (if c < cs.length∧x < ls.length then _ else (0:Int))=0; rw [if_neg hz]
 · rw [hg,hin c x a1 a2 a3]; unfold fromI; rw [if_pos a4]
 · obtain ⟨_,_,g3⟩:=from_don h4 hh a1 a2 a3 a4
   obtain ⟨b1,b2,b3⟩:=free_mem.1 g3
   exact ⟨_,b1,by rw [hg,hin c x a1 a2 a3],b2,b3⟩
 · rw [hg,hg,hin c x a1 a3 a4,hin c' x a2 a3 a5]
   have:=from_inj h4 hh a1 a2 a3 a4 a5 a6
   omega
 · rw [hg,hre c x a1 a2 a3,if_pos]
   exact ⟨a4,(htk c x a2).2 fun c' b1 b2=>by have:=a5 c' b1 b2; rwa [hg] at this⟩
 rw [hg,hre c x a1 a2 a3,if_neg]
 rintro ⟨b1,b2⟩
 exact a4 ⟨b1,fun c' c1 c2=>by rw [hg]; exact (htk c x a2).1 b2 c' c1 c2⟩
end Go.Ab.MkF
namespace Go.Ab.MkF
open Go Go.Ab Go.Ab.Pln
theorem befL_cons (x y:Int) (a b:List Int):befL (x :: a) (y :: b)=(decide (x < y)||(decide (x=y)&&befL a b)):=by
 rw [←cmpL_lt,←cmpL_lt,cmpL_cons]
 rcases Int.lt_trichotomy x y with h | rfl | h
 · rw [if_neg (by omega),if_pos h,decide_eq_true h]; rfl
 · rw [if_pos rfl]; simp
 rw [if_neg (by omega),if_neg (by omega)]; simp; omega
theorem befL_app:∀ {a b c d:List Int},a.length=b.length→befL (a++c) (b++d)=if a=b then befL c d else befL a b
 | [],[],c,d,_=>by simp
 | x :: a,y :: b,c,d,h=>by
  rw [List.cons_append,List.cons_append,befL_cons,befL_cons,befL_app (by simpa using h)]
  by_cases hxy:x=y
  · subst hxy
    by_cases hab:a=b
    · subst hab; rw [if_pos rfl,if_pos rfl]; simp
    rw [if_neg hab,if_neg (fun e=>hab (List.cons.inj e).2)]
  rw [if_neg (fun e=>hxy (List.cons.inj e).1)]
  simp [hxy]
theorem rwC_zero {n:Nat} {P Q:Tb} {c:Nat} (hl:((P.getD c []).take n).length=((Q.getD c []).take n).length):rwC n P Q c=0↔(P.getD c []).take n=(Q.getD c []).take n:=by
 unfold rwC
 constructor
 · intro h
   refine befL_total _ _ hl ?_ ?_
   · cases hb:befL ((P.getD c []).take n) ((Q.getD c []).take n) with
     | false=>rfl
     | true=>have:=(cmpL_lt' _ _).2 hb; omega
   cases hb:befL ((Q.getD c []).take n) ((P.getD c []).take n) with
   | false=>rfl
   | true=>have:=(cmpL_gt' _ _).2 hb; omega
 intro h
 rw [h]
 have h1:¬ cmpL cmpI ((Q.getD c []).take n) ((Q.getD c []).take n) < 0:=fun e=>by have:=(cmpL_lt' _ _).1 e; rw [befL_irr] at this; cases this
 have h2:¬ cmpL cmpI ((Q.getD c []).take n) ((Q.getD c []).take n) > 0:=fun e=>by have:=(cmpL_gt' _ _).1 e; rw [befL_irr] at this; cases this
 omega
def flL (n:Nat) (P:Tb):Nat→List Int
 | 0=>[]
 | m+1=>flL n P m++(P.getD m []).take n
theorem row_len {P:Tb} (h:Tb46 P) (n:Nat) {c:Nat} (hc:c < 4):((P.getD c []).take n).length=min n 6:=by rw [List.length_take,h.row c hc]
theorem flL_len {P Q:Tb} (hP:Tb46 P) (hQ:Tb46 Q) (n:Nat):∀ m,m≤4→(flL n P m).length=(flL n Q m).length
 | 0,_=>rfl
 | m+1,h=>by
  simp only [flL,List.length_append]
  rw [flL_len hP hQ n m (by omega),row_len hP n (by omega),row_len hQ n (by omega)]
theorem flL_eq {P Q:Tb} (hP:Tb46 P) (hQ:Tb46 Q) (n:Nat):∀ m,m≤4→(flL n P m=flL n Q m↔∀ j,j < m→rwC n P Q j=0)
 | 0,_=>⟨fun _ j h=>absurd h (Nat.not_lt_zero j),fun _=>rfl⟩
 | m+1,h=>by
  have ih:=flL_eq hP hQ n m (by omega)
  have hl:=flL_len hP hQ n m (by omega)
  have hr:=rwC_zero (n:=n) (P:=P) (Q:=Q) (c:=m) (by rw [row_len hP n (by omega),row_len hQ n (by omega)])
  simp only [flL]
  rw [show flL n P m++(P.getD m []).take n=flL n Q m++(Q.getD m []).take n↔flL n P m=flL n Q m∧(P.getD m []).take n=(Q.getD m []).take n from ⟨fun h=>List.append_inj h hl,fun ⟨h1,h2⟩=>by rw [h1,h2]⟩,ih,←hr]
  constructor
  · rintro ⟨h1,h2⟩ j hj
    rcases Nat.lt_or_eq_of_le (Nat.le_of_lt_succ hj) with h3 | rfl
    · exact h1 j h3
    exact h2
  exact fun h1=>⟨fun j hj=>h1 j (by omega),h1 m (by omega)⟩
theorem rowsB_bef {P Q:Tb} (hP:Tb46 P) (hQ:Tb46 Q) (n:Nat):∀ m,m≤4→rowsB n P Q m=befL (flL n P m) (flL n Q m)
 | 0,_=>rfl
 | m + 1,h=>by
  have ih:=rowsB_bef hP hQ n m (by omega)
  have he:=flL_eq hP hQ n m (by omega)
  simp only [flL]
  rw [befL_app (flL_len hP hQ n m (by omega))]
  by_cases hall:∀ j,j < m→rwC n P Q j=0
  · rw [if_pos (he.2 hall)]
    by_cases h0:rwC n P Q m=0
    · rw [rows_no (fun j hj=>by
       rcases Nat.lt_or_eq_of_le (Nat.le_of_lt_succ hj) with h3 | rfl
       · exact hall j h3
       · exact h0)]
      have:=(rwC_zero (by rw [row_len hP n (by omega),row_len hQ n (by omega)])).1 h0
      rw [this,befL_irr]
    rw [rows_hit (Nat.lt_succ_self m) hall h0]
    unfold rwC
    exact cmpL_lt _ _
  rw [if_neg (fun e=>hall (he.1 e)),←ih]
  have:∃ c,c < m∧(∀ j,j < c→rwC n P Q j=0)∧rwC n P Q c≠0:=by
   apply Classical.byContradiction
   intro hno
   apply hall
   intro j
   induction j using Nat.strongRecOn with
   | _ j ihj =>
    intro hj
    apply Classical.byContradiction
    intro h0
    exact hno ⟨j,hj,fun i hi=>ihj i hi (by omega),h0⟩
  obtain ⟨c,hc,h1,h2⟩:=this
  rw [rows_hit (show c < m+1 by omega) h1 h2,rows_hit hc h1 h2]
def keyV (n m:Nat) (v:Way):List Int:=v.2.1 :: v.2.2 :: flL n v.1 m
theorem betB_key {n m:Nat} (hm:m≤4) {v w:Way} (hv:Tb46 v.1) (hw:Tb46 w.1):betB n m v w=befL (keyV n m v) (keyV n m w):=by
 unfold betB keyV
 rw [befL_cons,befL_cons,←rowsB_bef hv hw n m hm]
 by_cases h1:v.2.1=w.2.1
 · rw [if_neg (by simpa using h1),decide_eq_true h1,decide_eq_false (by omega:¬ v.2.1 < w.2.1)]
   by_cases h2:v.2.2=w.2.2
   · rw [if_neg (by simpa using h2),decide_eq_true h2,decide_eq_false (by omega:¬ v.2.2 < w.2.2)]; rfl
   rw [if_pos (by simpa using h2),decide_eq_false h2]; simp
 rw [if_pos (by simpa using h1),decide_eq_false h1]; simp
theorem keyW_len {n m:Nat} (hm:m≤4) {v w:Way} (hv:Tb46 v.1) (hw:Tb46 w.1):(keyV n m v).length=(keyV n m w).length:=by
 unfold keyV; rw [List.length_cons,List.length_cons,List.length_cons,List.length_cons,flL_len hv hw n m hm]
def stepB (n m:Nat) (w v:Way):Way:=if betB n m v w=true then v else w
theorem foldB {n m:Nat} (hm:m≤4):∀ (l:List Way) (w:Way),(∀ v∈l,Tb46 v.1)→Tb46 w.1→(l.foldl (stepB n m) w=w∨l.foldl (stepB n m) w∈l)∧Tb46 (l.foldl (stepB n m) w).1 ∧
  befL (keyV n m w) (keyV n m (l.foldl (stepB n m) w))=false∧∀ v∈l,befL (keyV n m v) (keyV n m (l.foldl (stepB n m) w))=false
 | [],w,_,hw=>⟨.inl rfl,hw,befL_irr _,fun v hv=>by cases hv⟩
 | a :: l,w,hl,hw=>by
  have ha:=hl a List.mem_cons_self
  have hs:Tb46 (stepB n m w a).1:=by unfold stepB; split <;> assumption
  obtain ⟨h1,h2,h3,h4⟩:=foldB hm l (stepB n m w a) (fun v hv=>hl v (List.mem_cons_of_mem _ hv)) hs
  rw [List.foldl_cons]
  generalize hb:l.foldl (stepB n m) (stepB n m w a)=b at h1 h2 h3 h4
  have neg:∀ x:Way,Tb46 x.1→befL (keyV n m x) (keyV n m (stepB n m w a))=false→befL (keyV n m x) (keyV n m b)=false:=fun x hx hn=>by
   cases hq:befL (keyV n m x) (keyV n m b) with
   | false=>rfl
   | true =>
    cases hr:befL (keyV n m b) (keyV n m (stepB n m w a)) with
    | true=>rw [befL_trans _ _ _ hq hr] at hn; cases hn
    | false =>
     have:=befL_total _ _ (keyW_len hm hs h2) h3 hr
     rw [←this,hn] at hq; cases hq
  refine ⟨?_,h2,neg w hw ?_,fun v hv=>?_⟩
  · rcases h1 with h1 | h1
    · unfold stepB at h1
      split at h1
      · exact .inr (by rw [h1]; exact List.mem_cons_self)
      exact .inl h1
    exact .inr (List.mem_cons_of_mem _ h1)
  · unfold stepB
    split
    · rename_i hc
      rw [betB_key hm ha hw] at hc
      cases hq:befL (keyV n m w) (keyV n m a) with
      | false=>rfl
      | true=>have:=befL_trans _ _ _ hq hc; rw [befL_irr] at this; cases this
    exact befL_irr _
  rcases List.mem_cons.1 hv with rfl | hv
  · refine neg v ha ?_
    unfold stepB
    split
    · exact befL_irr _
    rename_i hc
    rw [betB_key hm ha hw] at hc
    simpa using hc
  exact h4 v hv
end Go.Ab.MkF
namespace Go.Ab.MkF
open Go Go.Ab Go.Ab.Pln
def mvR (Q:Tb) (c:Nat):Nat→Nat
 | 0=>0
 | l+1=>mvR Q c l+if get2 Q c l≠(c:Int)∧get2 Q c l≠-1 then 1 else 0
def mvU (n:Nat) (Q:Tb):Nat→Nat
 | 0=>0
 | c+1=>mvU n Q c+mvR Q c n
theorem PlOk.move {n:Nat} {cs:List Cp} {H:List Int} {Q:Tb} (h:PlOk n cs H Q) (hH:∀ c,0≤H.getD c 0) {c l:Nat} (hc:c < cs.length) (hl:l < n):(get2 Q c l≠(c:Int)∧get2 Q c l≠-1)↔(decide (H.getD c 0 > 0)&&H.getD c 0 != hasI cs c l)=true:=by
 rw [Bool.and_eq_true,decide_eq_true_eq,bne_iff_ne]
 have:=hH c
 by_cases h0:H.getD c 0=0
 · constructor
   · rintro ⟨h1,h2⟩
     exfalso
     by_cases hk:hasI cs c l > 0∧∀ c',c' < cs.length→H.getD c' 0≠0→get2 Q c' l≠(c:Int)
     · exact h1 (h.keep c l hc hl h0 hk.1 hk.2)
     exact h2 (h.none c l hc hl h0 hk)
   rintro ⟨h1,_⟩; omega
 by_cases ho:hasI cs c l=H.getD c 0
 · have:=h.own c l hc hl h0 ho
   exact ⟨fun ⟨h1,_⟩=>absurd this h1,fun ⟨_,h2⟩=>absurd ho.symm h2⟩
 obtain ⟨d,h1,h2,h3,h4⟩:=h.don c l hc hl h0 ho
 refine ⟨fun _=>⟨by omega,fun e=>ho e.symm⟩,fun _=>⟨fun e=>?_,by omega⟩⟩
 obtain rfl:d=c:=by omega
 exact ho h3
theorem PlOk.row {p:Int} {ls:List Lf} {cs:List Cp} (hV:Valid p ls cs) {H:List Int} {Q:Tb} (h:PlOk ls.length cs H Q) (hH:∀ c,0≤H.getD c 0) {c:Nat} (hc:c < cs.length):∀ l,l≤ls.length→mvR Q c l=lkN (H.getD c 0) ((cs.getD c cp0).2.take l)
 | 0,_=>rfl
 | l+1,hl=>by
  have hlen:=hV.len hc
  have ih:=h.row hV hH hc l (by omega)
  have hm:=h.move hH hc (l:=l) (by omega)
  simp only [mvR]
  rw [lkN_succ (by omega),ih]
  have hg:(cs.getD c cp0).2[l]'(by omega)=hasI cs c l:=by unfold hasI; rw [getD_at (by omega:l < (cs.getD c cp0).2.length)]
  rw [hg]
  by_cases e:(decide (H.getD c 0 > 0)&&H.getD c 0 != hasI cs c l)=true
  · rw [if_pos e,if_pos (hm.2 e)]
  rw [if_neg e,if_neg fun q=>e (hm.1 q)]
theorem PlOk.moved {p:Int} {ls:List Lf} {cs:List Cp} (hV:Valid p ls cs) {H:List Int} {Q:Tb} (h:PlOk ls.length cs H Q) (hH:∀ c,0≤H.getD c 0):∀ c,c≤cs.length→lackU cs H c=mvU ls.length Q c
 | 0,_=>rfl
 | c+1,hc=>by
  simp only [lackU,mvU]
  rw [h.moved hV hH c (by omega),h.row hV hH (by omega) _ (Nat.le_refl _),←hV.len (show c < cs.length by omega),List.take_length]
def waysH (ls:List Lf) (cs:List Cp) (h:List Int):List Way:=(planA ls.length cs (pad4 h)).map (wayQ ls cs (lackN cs (pad4 h)))
def allW (ls:List Lf) (cs:List Cp):List Way:=(hostA ls cs).flatMap (waysH ls cs)
abbrev w0:Way:=(z46,25,0)
theorem foldl_flat' {α β γ:Type} (f:α→β→α) (g:γ→List β):∀ (l:List γ) (s:α),(l.flatMap g).foldl f s=l.foldl (fun s x=>(g x).foldl f s) s
 | [],_=>rfl
 | a :: l,s=>by rw [List.flatMap_cons,List.foldl_append,List.foldl_cons,foldl_flat' f g l]
section
variable {p:Int} {ls:List Lf} {cs:List Cp}
theorem ways_mem (hV:Valid p ls cs) {h:List Int} (hh:HostOk ls cs h) {v:Way}:v∈waysH ls cs h↔∃ Q,PlOk ls.length cs (pad4 h) Q∧v=wayQ ls cs (lackN cs (pad4 h)) Q:=by
 unfold waysH
 rw [List.mem_map]
 constructor
 · rintro ⟨Q,hq,rfl⟩; exact ⟨Q,(planA_mem hV.m1 hV.m4 hV.n6 (fun c=>(hh.nn c).1)).1 hq,rfl⟩
 rintro ⟨Q,hq,rfl⟩; exact ⟨Q,(planA_mem hV.m1 hV.m4 hV.n6 (fun c=>(hh.nn c).1)).2 hq,rfl⟩
def WayIn (ls:List Lf) (cs:List Cp) (w:Way):Prop:=w=w0∨∃ h Q,HostOk ls cs h∧PlOk ls.length cs (pad4 h) Q∧w=wayQ ls cs (lackN cs (pad4 h)) Q
theorem WayIn.t {w:Way} (h:WayIn ls cs w):Tb46 w.1:=by
 rcases h with rfl | ⟨_,Q,_,hq,rfl⟩
 · exact z46_ok
 exact hq.t
theorem lack_24 (hV:Valid p ls cs) (H:List Int):lackN cs H≤24:=by
 have:=lackU_le hV H cs.length (Nat.le_refl _)
 have:=hV.m4
 unfold lackN
 omega
theorem upd_step (hV:Valid p ls cs) {w:Way} (hw:WayIn ls cs w) {h:List Int} (hh:HostOk ls cs h) {v:Way} (hv:v∈waysH ls cs h):updW ls.length cs.length w v=stepB ls.length cs.length w v:=by
 obtain ⟨Q,hq,rfl⟩:=(ways_mem hV hh).1 hv
 have hl:=lack_24 hV (pad4 h)
 unfold updW stepB
 rcases hw with rfl | ⟨h',Q',hh',hq',rfl⟩
 · have hb:betB ls.length cs.length (wayQ ls cs (lackN cs (pad4 h)) Q) w0=true:=by
    unfold betB
    have hlt:((lackN cs (pad4 h):Nat):Int) < 25:=by omega
    show (if (((lackN cs (pad4 h):Nat):Int) != 25)=true then decide (((lackN cs (pad4 h):Nat):Int) < 25) else _)=true
    rw [if_pos (by simp; omega),decide_eq_true hlt]
   rw [if_pos hb,if_pos]
   rw [Bool.or_eq_true]
   right
   exact decide_eq_true (show (25:Int) > ((lackN cs (pad4 h):Nat):Int) by omega)
 by_cases e:Q=Q'
 · subst e
   have hm:=hq.moved hV (fun c=>(hh.nn c).1) cs.length (Nat.le_refl _)
   have hm':=hq'.moved hV (fun c=>(hh'.nn c).1) cs.length (Nat.le_refl _)
   have heq:wayQ ls cs (lackN cs (pad4 h)) Q=wayQ ls cs (lackN cs (pad4 h')) Q:=by
    unfold lackN; rw [hm,hm']
   rw [heq]
   split <;> split <;> rfl
 have hne:((wayQ ls cs (lackN cs (pad4 h)) Q).1 != (wayQ ls cs (lackN cs (pad4 h')) Q').1)=true:=by
  show (Q != Q')=true
  simpa using e
 rw [hne,Bool.true_and]
 by_cases hb:betB ls.length cs.length (wayQ ls cs (lackN cs (pad4 h)) Q) (wayQ ls cs (lackN cs (pad4 h')) Q')=true
 · rw [hb,Bool.true_or,if_pos rfl]
 rw [if_neg hb,if_neg]
 rw [Bool.or_eq_true,not_or]
 refine ⟨hb,fun hd=>hb ?_⟩
 have hd:=of_decide_eq_true hd
 unfold betB
 rw [if_pos (by simp; omega),decide_eq_true hd]
theorem step_in (hV:Valid p ls cs) {w:Way} (hw:WayIn ls cs w) {h:List Int} (hh:HostOk ls cs h) {v:Way} (hv:v∈waysH ls cs h):WayIn ls cs (stepB ls.length cs.length w v):=by
 unfold stepB
 split
 · obtain ⟨Q,hq,rfl⟩:=(ways_mem hV hh).1 hv
   exact .inr ⟨h,Q,hh,hq,rfl⟩
 exact hw
theorem fold_step (hV:Valid p ls cs) {h:List Int} (hh:HostOk ls cs h):∀ (l:List Way) (w:Way),WayIn ls cs w→(∀ v∈l,v∈waysH ls cs h)→l.foldl (updW ls.length cs.length) w=l.foldl (stepB ls.length cs.length) w∧WayIn ls cs (l.foldl (stepB ls.length cs.length) w)
 | [],w,hw,_=>⟨rfl,hw⟩
 | v :: l,w,hw,hl=>by
  have hv:=hl v List.mem_cons_self
  rw [List.foldl_cons,List.foldl_cons,upd_step hV hw hh hv]
  exact fold_step hV hh l _ (step_in hV hw hh hv) fun u hu=>hl u (List.mem_cons_of_mem _ hu)
theorem round_step (hV:Valid p ls cs) {w:Way} (hw:WayIn ls cs w) {h:List Int} (hh:HostOk ls cs h):roundW ls cs w h=(waysH ls cs h).foldl (stepB ls.length cs.length) w∧WayIn ls cs (roundW ls cs w h):=by
 have hf:=fold_step hV hh (waysH ls cs h) w hw fun v hv=>hv
 have he:(waysH ls cs h).foldl (updW ls.length cs.length) w=(planA ls.length cs (pad4 h)).foldl (fun w q=>updW ls.length cs.length w (wayQ ls cs (lackN cs (pad4 h)) q)) w:=by
  unfold waysH; rw [List.foldl_map]
 unfold roundW
 by_cases hc:((lackN cs (pad4 h):Nat):Int)≤w.2.1
 · rw [if_pos hc,←he,hf.1]; exact ⟨rfl,hf.2⟩
 rw [if_neg hc]
 have hsame:∀ l:List Way,(∀ v∈l,v∈waysH ls cs h)→l.foldl (stepB ls.length cs.length) w=w:=by
  intro l
  induction l with
  | nil=>exact fun _=>rfl
  | cons v l ih =>
   intro hl
   rw [List.foldl_cons]
   have:stepB ls.length cs.length w v=w:=by
    obtain ⟨Q,hq,rfl⟩:=(ways_mem hV hh).1 (hl v List.mem_cons_self)
    unfold stepB betB
    have h2:(wayQ ls cs (lackN cs (pad4 h)) Q).2.1=((lackN cs (pad4 h):Nat):Int):=rfl
    rw [h2,if_pos (show (((lackN cs (pad4 h):Nat):Int) != w.2.1)=true by simp; omega),decide_eq_false (by omega:¬ ((lackN cs (pad4 h):Nat):Int) < w.2.1)]
    rfl
   rw [this]
   exact ih fun u hu=>hl u (List.mem_cons_of_mem _ hu)
 rw [hsame _ fun v hv=>hv]
 exact ⟨rfl,hw⟩
theorem best_all (hV:Valid p ls cs):bestW ls cs=(allW ls cs).foldl (stepB ls.length cs.length) w0:=by
 unfold bestW allW
 rw [foldl_flat']
 have key:∀ (l:List (List Int)) (w:Way),WayIn ls cs w→(∀ h∈l,HostOk ls cs h)→l.foldl (roundW ls cs) w=l.foldl (fun s x=>(waysH ls cs x).foldl (stepB ls.length cs.length) s) w:=by
  intro l
  induction l with
  | nil=>exact fun _ _ _=>rfl
  | cons h l ih =>
   intro w hw hl
   obtain ⟨h1,h2⟩:=round_step hV hw (hl h List.mem_cons_self)
   rw [List.foldl_cons,List.foldl_cons,←h1]
   exact ih _ h2 fun x hx=>hl x (List.mem_cons_of_mem _ hx)
 exact key _ _ (.inl rfl) fun h hh=>(hostA_mem hV.m4 hV.n1).1 hh
theorem host_ex (hV:Valid p ls cs):∃ h,HostOk ls cs h:=by
 have h2:=most_two (ls:=ls) hV.m4 hV.n1
 refine ⟨List.replicate (mostN ls cs 1).1 1++(List.replicate (mostN ls cs 2).1 2++List.replicate (cs.length - (mostN ls cs 1).1 - (mostN ls cs 2).1) 0),?_,fun x hx=>?_,?_,?_⟩
 · simp; omega
 · simp only [List.mem_append,List.mem_replicate] at hx
   omega
 · unfold cntI; simp [List.filter_append]
 unfold cntI; simp [List.filter_append]
theorem best_spec (hV:Valid p ls cs):∃ h Q,HostOk ls cs h∧PlOk ls.length cs (pad4 h) Q∧bestW ls cs=wayQ ls cs (lackN cs (pad4 h)) Q ∧
  ∀ h' Q',HostOk ls cs h'→PlOk ls.length cs (pad4 h') Q'→befL (keyV ls.length cs.length (wayQ ls cs (lackN cs (pad4 h')) Q')) (keyV ls.length cs.length (bestW ls cs))=false:=by
 have hall:∀ v,v∈allW ls cs↔∃ h Q,HostOk ls cs h∧PlOk ls.length cs (pad4 h) Q∧v=wayQ ls cs (lackN cs (pad4 h)) Q:=fun v=>by
  unfold allW
  rw [List.mem_flatMap]
  constructor
  · rintro ⟨h,h1,h2⟩
    have hh:=(hostA_mem hV.m4 hV.n1).1 h1
    obtain ⟨Q,hq,he⟩:=(ways_mem hV hh).1 h2
    exact ⟨h,Q,hh,hq,he⟩
  rintro ⟨h,Q,hh,hq,he⟩
  exact ⟨h,(hostA_mem hV.m4 hV.n1).2 hh,(ways_mem hV hh).2 ⟨Q,hq,he⟩⟩
 obtain ⟨h1,_,h3,h4⟩:=foldB (n:=ls.length) hV.m4 (allW ls cs) w0 (fun v hv=>by
  obtain ⟨_,Q,_,hq,rfl⟩:=(hall v).1 hv; exact hq.t) z46_ok
 rw [←best_all hV] at h1 h3 h4
 obtain ⟨h0,hh0⟩:=host_ex hV
 obtain ⟨Q0,hq0⟩:=plan_ex hV.m4 hV.n6 hh0
 have hle:=h4 _ ((hall _).2 ⟨h0,Q0,hh0,hq0,rfl⟩)
 rcases h1 with h1 | h1
 · exfalso
   rw [h1] at hle
   unfold keyV at hle
   rw [befL_cons] at hle
   have hl:=lack_24 hV (pad4 h0)
   have:((lackN cs (pad4 h0):Nat):Int) < 25:=by omega
   rw [show decide ((wayQ ls cs (lackN cs (pad4 h0)) Q0).2.1 < w0.2.1)=true from decide_eq_true this] at hle
   cases hle
 obtain ⟨h,Q,hh,hq,he⟩:=(hall _).1 h1
 exact ⟨h,Q,hh,hq,he,fun h' Q' hh' hq'=>h4 _ ((hall _).2 ⟨h',Q',hh',hq',rfl⟩)⟩
end
end Go.Ab.MkF
namespace Go.Ab.MkF
open Go Go.Ab Go.Ab.Pln Go.Proofs
set_option maxRecDepth 100000
def give (cs:List Cp) (a b:Nat) (k:Int):List Cp:=cs.set a ((cs.getD a cp0).1,(cs.getD a cp0).2.set b k)
theorem give_len (cs:List Cp) (a b:Nat) (k:Int):(give cs a b k).length=cs.length:=by simp [give]
theorem give_at {cs:List Cp} {a b:Nat} {k:Int} (ha:a < cs.length):(give cs a b k).getD a cp0=(cs[a].1,cs[a].2.set b k):=by
 unfold give; rw [getD_set_self ha,getD_at ha]
theorem give_ne {cs:List Cp} {a b c:Nat} {k:Int} (h:a≠c):(give cs a b k).getD c cp0=cs.getD c cp0:=by
 unfold give; rw [getD_set_ne h]
theorem give_names (cs:List Cp) (a b:Nat) (k:Int):(give cs a b k).map (fun x=>x.1)=cs.map fun x=>x.1:=by
 apply List.ext_getElem (by simp [give])
 intro i h1 h2
 simp only [give,List.getElem_map,List.getElem_set]
 by_cases e:a=i
 · subst e
   have ha:a < cs.length:=by simpa using h2
   rw [if_pos rfl,getD_at ha]
 rw [if_neg e]
theorem cpF_zero {n:Nat} {cs:List Cp} {i:Nat} (hi:i < cs.length) (h1:nameB cs[i].1=true) (h2:((cs.take i).any fun y=>strEq y.1 cs[i].1)=false) (h3:cs[i].2.length=n) (h4:∀ x∈cs[i].2,0≤x∧x≤2):cpF n cs i=0:=by
 unfold cpF cpE
 rw [getD_at hi,h1,h2,if_neg (by simp),if_neg (by simp),if_neg (by simpa using h3),if_neg]
 intro h
 obtain ⟨x,hx,hb⟩:=List.any_eq_true.1 h
 have:=h4 x hx
 unfold outB at hb
 rw [Bool.or_eq_true,decide_eq_true_eq,decide_eq_true_eq] at hb
 omega
theorem any_names (l:List Cp) (w:ByteArray):(l.any fun y=>strEq y.1 w)=(l.map fun x=>x.1).any fun y=>strEq y w:=by rw [List.any_map]; rfl
theorem Valid.give {p:Int} {ls:List Lf} {cs:List Cp} (h:Valid p ls cs) {a b:Nat} {k:Int} (ha:a < cs.length) (hk:0≤k∧k≤2):Valid p ls (give cs a b k):=by
 have hl:=give_len cs a b k
 refine ⟨h.price,h.n1,h.n6,h.leaf,by rw [hl]; exact h.m1,by rw [hl]; exact h.m4,fun i hi=>?_⟩
 have hi':i < cs.length:=by rw [←hl]; exact hi
 obtain ⟨h1,h2,h3,h4⟩:=h.cp hi'
 have hn:(Go.Ab.MkF.give cs a b k)[i].1=cs[i].1:=by
  have e:=List.getElem_of_eq (give_names cs a b k) (i:=i) (by simpa using hi)
  simpa using e
 have hp:(((Go.Ab.MkF.give cs a b k).take i).any fun y=>strEq y.1 (Go.Ab.MkF.give cs a b k)[i].1)=false:=by
  rw [any_names,List.map_take,give_names,hn,←List.map_take,←any_names]; exact h4
 have hg:(Go.Ab.MkF.give cs a b k)[i]=(Go.Ab.MkF.give cs a b k).getD i cp0:=(getD_at hi).symm
 refine cpF_zero hi (by rw [hn]; exact h1) hp ?_ fun x hx=>?_
 · by_cases e:a=i
   · subst e; rw [hg,give_at ha]; simpa using h2
   rw [hg,give_ne e,getD_at hi']; exact h2
 by_cases e:a=i
 · subst e
   rw [hg,give_at ha] at hx
   rcases List.mem_or_eq_of_mem_set hx with hx | rfl
   · exact h3 x hx
   exact hk
 rw [hg,give_ne e,getD_at hi'] at hx; exact h3 x hx
end Go.Ab.MkF
namespace Go.Ab.MkF
open Go Go.Ab Go.Ab.Pln
theorem Valid.names {p:Int} {ls:List Lf} {cs:List Cp} (hV:Valid p ls cs):cs.Pairwise fun x y=>strEq x.1 y.1=false:=by
 rw [List.pairwise_iff_getElem]
 intro i j hi hj hij
 have:=(hV.cp hj).2.2.2
 rw [List.any_eq_false] at this
 have:=this cs[i] (by
  rw [List.mem_iff_getElem]
  exact ⟨i,by rw [List.length_take]; omega,by rw [List.getElem_take]⟩)
 simpa using this
theorem valid_copies {p:Int} {ls:List Lf} {cs cs':List Cp} (hV:Valid p ls cs) (h1:1≤cs'.length) (h4:cs'.length≤4) (hn:∀ x∈cs',nameB x.1=true) (hd:cs'.Pairwise fun x y=>strEq x.1 y.1=false)
  (hl:∀ x∈cs',x.2.length=ls.length) (hr:∀ x∈cs',∀ k∈x.2,0≤k∧k≤2):Valid p ls cs':=by
 refine ⟨hV.price,hV.n1,hV.n6,hV.leaf,h1,h4,fun i hi=>?_⟩
 have hm:=List.getElem_mem hi
 refine cpF_zero hi (hn _ hm) ?_ (hl _ hm) (hr _ hm)
 rw [List.any_eq_false]
 intro x hx
 obtain ⟨j,hj,rfl⟩:=List.getElem_of_mem hx
 rw [List.length_take] at hj
 rw [List.getElem_take]
 have:=List.pairwise_iff_getElem.1 hd j i (by omega) hi (by omega)
 rw [this]; simp
def exK (k:Int):Int:=if k > 0 then 3 - k else k
def exgC (cs:List Cp):List Cp:=cs.map fun x=>(x.1,x.2.map exK)
theorem has_in {p:Int} {ls:List Lf} {cs:List Cp} (hV:Valid p ls cs) (c l:Nat):0≤hasI cs c l∧hasI cs c l≤2:=by
 unfold hasI
 rcases Nat.lt_or_ge c cs.length with hc | hc
 · rcases Nat.lt_or_ge l (cs.getD c cp0).2.length with hl | hl
   · have h1:=(hV.cp hc).2.2.1
     rw [←getD_at (d:=cp0) hc] at h1
     rw [getD_at hl]
     exact h1 _ (List.getElem_mem hl)
   rw [List.getD_eq_getElem?_getD (l:=(cs.getD c cp0).2),List.getElem?_eq_none hl]; decide
 rw [List.getD_eq_getElem?_getD (l:=cs),List.getElem?_eq_none hc]
 show 0≤([]:List Int).getD l 0∧_
 simp
end Go.Ab.MkF
namespace Go.Ab.MkF
open Go Go.Ab Go.Ab.Pln
def sm (f:Nat→Nat):Nat→Nat
 | 0=>0
 | i+1=>sm f i+f i
theorem sm_eq {f g:Nat→Nat}:∀ {m:Nat},(∀ c,c < m→f c=g c)→sm f m=sm g m
 | 0,_=>rfl
 | m+1,h=>by show sm f m+f m=sm g m+g m; rw [sm_eq fun c hc=>h c (by omega),h m (by omega)]
theorem mvU_sm (n:Nat) (Q:Tb):∀ m,mvU n Q m=sm (fun c=>mvR Q c n) m
 | 0=>rfl
 | m+1=>by show mvU n Q m+mvR Q m n=_; rw [mvU_sm n Q m]; rfl
theorem mvR_sm (Q:Tb) (c:Nat):∀ n,mvR Q c n=sm (fun l=>if get2 Q c l≠(c:Int)∧get2 Q c l≠-1 then 1 else 0) n
 | 0=>rfl
 | n+1=>by show mvR Q c n+_=_; rw [mvR_sm Q c n]; rfl
theorem cutU_sm (ls:List Lf) (cs:List Cp) (A:Tb):∀ m,cutU ls cs A m=sm (fun c=>cutR ls cs A c ls.length) m
 | 0=>rfl
 | m+1=>by show cutU ls cs A m+_=_; rw [cutU_sm ls cs A m]; rfl
theorem cutR_sm (ls:List Lf) (cs:List Cp) (A:Tb) (c:Nat):∀ n,cutR ls cs A c n=sm (fun l=>if cutB ls cs A c l=true then 1 else 0) n
 | 0=>rfl
 | n+1=>by show cutR ls cs A c n+_=_; rw [cutR_sm ls cs A c n]; rfl
theorem hvN_sm (cs:List Cp) (l:Nat) (k:Int):∀ m,hvN cs l k m=sm (fun c=>if (hasI cs c l==k)=true then 1 else 0) m
 | 0=>rfl
 | m+1=>by rw [hvN_succ,hvN_sm cs l k m]; rfl
theorem PlOk.range {n:Nat} {cs:List Cp} {H:List Int} {Q:Tb} (h:PlOk n cs H Q) {c x:Nat} (hc:c < cs.length) (hx:x < n):-1≤get2 Q c x∧get2 Q c x < cs.length:=by
 by_cases h0:H.getD c 0=0
 · by_cases hk:hasI cs c x > 0∧∀ c',c' < cs.length→H.getD c' 0≠0→get2 Q c' x≠(c:Int)
   · rw [h.keep c x hc hx h0 hk.1 hk.2]; omega
   rw [h.none c x hc hx h0 hk]; omega
 by_cases ho:hasI cs c x=H.getD c 0
 · rw [h.own c x hc hx h0 ho]; omega
 obtain ⟨d,h1,h2,_,_⟩:=h.don c x hc hx h0 ho
 rw [h2]; omega
theorem PlOk.free {n:Nat} {cs:List Cp} {H:List Int} {Q:Tb} (h:PlOk n cs H Q) {c x:Nat} (hc:c < cs.length) (hx:x < n) (h0:H.getD c 0=0):get2 Q c x=-1∨(get2 Q c x=c∧∀ c',c' < cs.length→H.getD c' 0≠0→get2 Q c' x≠(c:Int)):=by
 by_cases hk:hasI cs c x > 0∧∀ c',c' < cs.length→H.getD c' 0≠0→get2 Q c' x≠(c:Int)
 · exact .inr ⟨h.keep c x hc hx h0 hk.1 hk.2,hk.2⟩
 exact .inl (h.none c x hc hx h0 hk)
theorem PlOk.once {n:Nat} {cs:List Cp} {H:List Int} {Q:Tb} (h:PlOk n cs H Q) {c c' x:Nat} (hc:c < cs.length) (hc':c' < cs.length) (hx:x < n) (hn:get2 Q c x≠-1) (he:get2 Q c x=get2 Q c' x):c=c':=by
 by_cases e:c=c'
 · exact e
 exfalso
 by_cases h0:H.getD c 0=0
 · rcases h.free hc hx h0 with h1 | ⟨h1,h2⟩
   · exact hn h1
   by_cases h0':H.getD c' 0=0
   · rcases h.free hc' hx h0' with h3 | ⟨h3,_⟩ <;> omega
   exact h2 c' hc' h0' (by omega)
 by_cases h0':H.getD c' 0=0
 · rcases h.free hc' hx h0' with h3 | ⟨h3,h4⟩
   · omega
   exact h4 c hc h0 (by omega)
 exact h.inj c c' x hc hc' hx h0 h0' e he
theorem outR_get {A:Tb} (hA:Tb46 A) {c:Nat} (hc:c < 4) {c' x:Nat}:∀ l,l≤6→get2 (outR A c l) c' x=if c=c'∧x < l then -1 else get2 A c' x
 | 0,_=>by rw [if_neg (by omega)]; rfl
 | l+1,hl=>by
  show get2 (set2 (outR A c l) c l (-1)) c' x=_
  rw [get2_set2 (outR_ok hA c l) hc (by omega),outR_get hA hc l (by omega)]
  split <;> split <;> (try split) <;> first | rfl | omega
theorem outU_get {n:Nat} (hn:n≤6) {c' x:Nat} (hx:x < n):∀ m,m≤4→c' < m→get2 (outU n m) c' x=-1
 | 0,_,h=>by omega
 | m+1,hm,h=>by
  show get2 (outR (outU n m) m n) c' x=-1
  rw [outR_get (outU_ok n m) (by omega) n hn]
  by_cases e:m=c'
  · rw [if_pos ⟨e,hx⟩]
  rw [if_neg fun q=>e q.1]; exact outU_get hn hx m (by omega) (by omega)
def AtP (Q A:Tb) (m n:Nat) (Z:Nat→Nat→Prop):Prop:=Tb46 A∧∀ k x,k < m→x < n→(∀ c,c < m→Z c x→get2 Q c x=(k:Int)→get2 A k x=(c:Int))∧((∀ c,c < m→Z c x→get2 Q c x≠(k:Int))→get2 A k x=-1)
theorem AtP.mono {Q A:Tb} {m n:Nat} {Z W:Nat→Nat→Prop} (h:AtP Q A m n Z) (e:∀ c x,c < m→x < n→(Z c x↔W c x)):AtP Q A m n W :=
 ⟨h.1,fun k x hk hx=>⟨fun c hc hw=>(h.2 k x hk hx).1 c hc ((e c x hc hx).2 hw),fun hw=>(h.2 k x hk hx).2 fun c hc hz=>hw c hc ((e c x hc hx).1 hz)⟩⟩
section
variable {p:Int} {ls:List Lf} {cs:List Cp} {H:List Int} {Q:Tb}
theorem atR_get (hV:Valid p ls cs) (h:PlOk ls.length cs H Q) {A:Tb} {c:Nat} (hc:c < cs.length) (h0:AtP Q A cs.length ls.length fun c' _=>c' < c) :
  ∀ l,l≤ls.length→AtP Q (atR Q A c l) cs.length ls.length fun c' x=>c' < c∨(c'=c∧x < l)
 | 0,_=>h0.mono fun _ _ _ _=>by omega
 | l + 1,hl=>by
  have ih:=atR_get hV h hc h0 l (by omega)
  have hr:=h.range hc (x:=l) (by omega)
  have h4:=hV.m4
  have h6:=hV.n6
  simp only [atR]
  by_cases e:get2 Q c l≠-1
  · rw [if_pos e]
    refine ⟨ih.1.set2 _ _ _,fun k x hk hx=>?_⟩
    rw [get2_set2 ih.1 (by omega) (by omega)]
    obtain ⟨i1,i2⟩:=ih.2 k x hk hx
    by_cases e2:(get2 Q c l).toNat=k∧l=x
    · rw [if_pos e2]
      obtain ⟨e3,rfl⟩:=e2
      refine ⟨fun d hd _ hq=>?_,fun hq=>absurd (by omega:get2 Q c l=(k:Int)) (hq c hc (.inr ⟨rfl,by omega⟩))⟩
      have:=h.once hc hd (by omega) e (by omega)
      rw [this]
    rw [if_neg e2]
    refine ⟨fun d hd hz hq=>?_,fun hq=>i2 fun d hd hz=>hq d hd (by omega)⟩
    rcases hz with hz | ⟨rfl,hz⟩
    · exact i1 d hd (.inl hz) hq
    by_cases e4:x=l
    · subst e4; exact absurd ⟨by omega,rfl⟩ e2
    exact i1 _ hd (.inr ⟨rfl,by omega⟩) hq
  rw [if_neg e]
  refine ⟨ih.1,fun k x hk hx=>?_⟩
  obtain ⟨i1,i2⟩:=ih.2 k x hk hx
  refine ⟨fun d hd hz hq=>?_,fun hq=>i2 fun d hd hz=>hq d hd (by omega)⟩
  rcases hz with hz | ⟨rfl,hz⟩
  · exact i1 d hd (.inl hz) hq
  by_cases e4:x=l
  · subst e4; exfalso; omega
  exact i1 _ hd (.inr ⟨rfl,by omega⟩) hq
theorem atU_get (hV:Valid p ls cs) (h:PlOk ls.length cs H Q):∀ c,c≤cs.length→AtP Q (atU Q ls.length cs.length c) cs.length ls.length fun c' _=>c' < c
 | 0,_=>⟨outU_ok _ _,fun k x hk hx=>⟨fun c _ hc=>absurd hc (Nat.not_lt_zero c),fun _=>outU_get hV.n6 hx _ hV.m4 hk⟩⟩
 | c+1,hc=>(atR_get hV h (by omega) (atU_get hV h c (by omega)) ls.length (Nat.le_refl _)).mono fun _ _ _ _=>by omega
theorem atA_get (hV:Valid p ls cs) (h:PlOk ls.length cs H Q) {k x:Nat} (hk:k < cs.length) (hx:x < ls.length):(∀ c,c < cs.length→get2 Q c x=(k:Int)→get2 (atA ls cs Q) k x=(c:Int))∧((∀ c,c < cs.length→get2 Q c x≠(k:Int))→get2 (atA ls cs Q) k x=-1):=by
 have:=(atU_get hV h cs.length (Nat.le_refl _)).2 k x hk hx
 exact ⟨fun c hc=>this.1 c hc hc,fun hq=>this.2 fun c hc _=>hq c hc⟩
end
def rvI (m:Nat) (d:Int):Int:=if d=-1 then -1 else (m:Int) - 1 - d
def rvT (m n:Nat) (Q:Tb):Tb:=tbOf fun c x=>if c < m∧x < n then rvI m (get2 Q (m - 1 - c) x) else 0
section
variable {p:Int} {ls:List Lf} {cs:List Cp} {h:List Int} {Q:Tb}
end
end Go.Ab.MkF
namespace Go.Ab.MkF
open Go Go.Ab Go.Ab.Pln Go.Proofs
set_option maxHeartbeats 1000000
set_option maxRecDepth 100000
def EntR (cs:List Cp) (A:Tb) (c l:Nat):Prop:=get2 A c l=-1∨(0≤get2 A c l∧get2 A c l < cs.length∧hasI cs (get2 A c l).toNat l≠0∧∀ d,d < c→get2 A d l≠get2 A c l)
def RowR (ls:List Lf) (cs:List Cp) (A:Tb) (c:Nat):Prop:=(A.getD c []).length=ls.length∧∀ l,l < ls.length→EntR cs A c l
def RightR (ls:List Lf) (cs:List Cp) (A:Tb):Prop:=A.length=cs.length∧∀ c,c < cs.length→RowR ls cs A c
open Classical in
noncomputable def rightB (ls:List Lf) (cs:List Cp) (A:Tb):Bool:=decide (RightR ls cs A)
theorem right_no {ls:List Lf} {cs:List Cp} {A:Tb} (h:¬ RightR ls cs A):rightB ls cs A=false:=by unfold rightB; exact @decide_eq_false _ (Classical.propDecidable _) h
theorem right_yes {ls:List Lf} {cs:List Cp} {A:Tb} (h:RightR ls cs A):rightB ls cs A=true:=by unfold rightB; exact @decide_eq_true _ (Classical.propDecidable _) h
theorem get2_at {A:Tb} {c l:Nat} (hc:c < A.length) (hl:l < (A[c]).length):get2 A c l=A[c][l]:=by unfold get2; rw [getD_at hc,getD_at hl]
theorem up_all {P:Nat→Prop} {n:Nat} (h:∀ i,i < n→P i) (hn:P n):∀ i,i < n+1→P i:=fun i hi=>by
 rcases Nat.lt_succ_iff_lt_or_eq.1 hi with h1 | h1
 · exact h i h1
 rw [h1]; exact hn
theorem getI_at2 {α:Type} {xs:List α} {j:Int} {n:Nat} (e:j=(n:Int)) (h:n < xs.length):getI xs j=some xs[n]:=by rw [e]; exact getI_nat h
theorem c46 (gl:Gl) (p:Int) (ls:List Lf) (cs:List Cp) (hV:Valid p ls cs) (A:List (List Int)) (hA:A.length≤9223372036854775807):PCalls PR gl 46 [.agg [vI p,lfsV ls,cpsV cs],intsV A] fun r=>r=vB (rightB ls cs A):=by
 refine fnW_sound (parH_ok gl) Tryd.func46 ?_
 conv=>whnf
 refine ⟨?_⟩
 conv=>whnf
 refine ⟨?_⟩
 conv=>whnf
 refine bcase_iff.2 ⟨fun h1=>?_,fun h1=>?_⟩
 · have h1:A.length≠cs.length:=by have h:((A.length:Int) != (cs.length:Int))=true:=h1; simp at h; omega
   conv=>whnf
   refine ⟨?_⟩
   conv=>whnf
   exact congrArg vB (right_no fun q=>h1 q.1).symm
 have h1:A.length=cs.length:=by have h:((A.length:Int) != (cs.length:Int))=false:=h1; simp at h; omega
 have hm4:=hV.m4
 have hn6:=hV.n6
 conv=>whnf
 refine ⟨?_⟩
 conv=>whnf
 refine ⟨⟨38,[],[]⟩,?_⟩
 refine LoopW_ind _ (fun c:Nat=>(({ tmps:=[υ,intsV A,.own 2 [],υ,υ,vI c,υ,υ,υ,υ,υ,υ,υ,υ,υ,υ,υ,υ,υ,υ,υ,υ,υ,υ,υ,υ,υ,υ,υ,υ,υ,υ,υ,υ,υ,υ,υ,υ,υ,υ,υ,υ,υ,υ,υ,υ,υ,υ,υ,υ,υ,υ,υ,υ,υ,υ,υ,υ,υ,υ,υ,υ,υ,υ,υ,υ,υ,υ,υ,υ,υ,υ,υ,υ,υ,υ,υ,υ,υ,υ,υ,υ,υ],seg:=[(2,.cells [vI p,lfsV ls,cpsV cs])],up:=[] }:St S))) (fun c:Nat=>(c≤A.length∧∀ i,i < c→RowR ls cs A i)) (fun c:Nat=>(A.length - c)) () ?_ 0 ⟨Nat.zero_le _,fun j h=>absurd h (Nat.not_lt_zero j)⟩
 intro c hinv Z1 hZ1
 obtain ⟨hc,hdc⟩:=hinv
 conv=>whnf
 refine ⟨?_⟩
 conv=>whnf
 refine bcase_iff.2 ⟨fun h4=>?_,fun h4=>?_⟩
 · have hlc:c < A.length:=by have:=of_decide_eq_true h4; omega
   have hwc:IntKind.i64.wrap ((c:Int)+1)=((c+1:Nat):Int):=wrap_nat (by omega)
   conv=>whnf
   refine ⟨[0,1,2,3,4,5,6,7,8],[],[],[],⟨9671406556917033397649407,[],[]⟩,by decide +kernel,?_⟩
   conv=>whnf
   refine ⟨_,getI_nat hlc,?_⟩
   conv=>whnf
   refine bcase_iff.2 ⟨fun h6=>?_,fun h6=>?_⟩
   · have h6:A[c].length≠ls.length:=by have h:((A[c].length:Int) != (ls.length:Int))=true:=h6; simp at h; omega
     conv=>whnf
     refine ⟨?_⟩
     conv=>whnf
     exact congrArg vB (right_no fun q=>h6 (by have:=(q.2 c (by omega)).1; rw [getD_at hlc] at this; exact this)).symm
   have h6:A[c].length=ls.length:=by have h:((A[c].length:Int) != (ls.length:Int))=false:=h6; simp at h; omega
   conv=>whnf
   refine ⟨?_⟩
   conv=>whnf
   refine ⟨⟨102,[],[]⟩,?_⟩
   refine LoopW_ind _ (fun l:Nat=>(({ tmps:=[υ,intsV A,.own 2 [],υ,υ,vI c,vI l,υ,υ,υ,υ,υ,υ,υ,υ,υ,υ,υ,υ,υ,υ,υ,υ,υ,υ,υ,υ,υ,υ,υ,υ,υ,υ,υ,υ,υ,υ,υ,υ,υ,υ,υ,υ,υ,υ,υ,υ,υ,υ,υ,υ,υ,υ,υ,υ,υ,υ,υ,υ,υ,υ,υ,υ,υ,υ,υ,υ,υ,υ,υ,υ,υ,υ,υ,υ,υ,υ,υ,υ,υ,υ,υ,υ],seg:=[(2,.cells [vI p,lfsV ls,cpsV cs])],up:=[] }:St S))) (fun l:Nat=>(l≤ls.length∧∀ i,i < l→EntR cs A c i)) (fun l:Nat=>(ls.length - l)) () ?_ 0 ⟨Nat.zero_le _,fun j h=>absurd h (Nat.not_lt_zero j)⟩
   intro l hinv Z2 hZ2
   obtain ⟨hl,hdl⟩:=hinv
   conv=>whnf
   refine ⟨?_⟩
   conv=>whnf
   refine ⟨_,getI_nat hlc,?_⟩
   conv=>whnf
   refine bcase_iff.2 ⟨fun h9=>?_,fun h9=>?_⟩
   · have hll:l < ls.length:=by have:=of_decide_eq_true h9; omega
     have hwl:IntKind.i64.wrap ((l:Int)+1)=((l+1:Nat):Int):=wrap_nat (by omega)
     have hlr:l < A[c].length:=by omega
     have hg:=get2_at hlc hlr
     conv=>whnf
     refine ⟨?_⟩
     conv=>whnf
     refine ⟨_,getI_nat hlc,?_⟩
     conv=>whnf
     refine ⟨_,getI_nat hlr,?_⟩
     conv=>whnf
     refine ⟨?_⟩
     conv=>whnf
     refine bcase_iff.2 ⟨fun h12=>?_,fun h12=>?_⟩
     · have h12:get2 A c l=-1:=by rw [hg]; exact eq_of_beq (show (A[c][l]==-1)=true from h12)
       conv=>whnf
       refine ⟨?_⟩
       conv=>whnf
       refine ⟨⟨102,[],[]⟩,?_⟩
       conv=>whnf
       rw [hwl]
       exact hZ2 (l+1) ⟨hll,up_all hdl (.inl h12)⟩ (by omega)
     have h12:get2 A c l≠-1:=fun e=>by have h:(A[c][l]==-1)=false:=h12; rw [←hg,e] at h; cases h
     conv=>whnf
     refine ⟨?_⟩
     conv=>whnf
     refine bcase_iff.2 ⟨fun g13_2=>?_,fun g13_2=>?_⟩
     · have g2:get2 A c l < 0:=by rw [hg]; exact of_decide_eq_true g13_2
       have hno:¬ RightR ls cs A:=fun q=>by
        rcases (q.2 c (by omega)).2 l hll with e | ⟨_,_,_,_⟩
        · exact h12 e
        omega
       conv=>whnf
       refine ⟨?_⟩
       conv=>whnf
       exact congrArg vB (right_no hno).symm
     have g2:¬ get2 A c l < 0:=by rw [hg]; exact of_decide_eq_false g13_2
     conv=>whnf
     refine bcase_iff.2 ⟨fun g13_9=>?_,fun g13_9=>?_⟩
     · have g9:get2 A c l≥cs.length:=by rw [hg]; exact of_decide_eq_true g13_9
       have hno:¬ RightR ls cs A:=fun q=>by
        rcases (q.2 c (by omega)).2 l hll with e | ⟨_,_,_,_⟩
        · exact h12 e
        omega
       conv=>whnf
       refine ⟨?_⟩
       conv=>whnf
       exact congrArg vB (right_no hno).symm
     have g9:¬ get2 A c l≥cs.length:=by rw [hg]; exact of_decide_eq_false g13_9
     obtain ⟨d0,hd0⟩:∃ d0:Nat,get2 A c l=(d0:Int):=⟨(get2 A c l).toNat,by omega⟩
     have hdl0:d0 < cs.length:=by omega
     have hcd:=(hV.cp hdl0).2.1
     have hld:l < cs[d0].2.length:=by omega
     have hxd:A[c][l]=(d0:Int):=by rw [←hg,hd0]
     have hhs:hasI cs d0 l=cs[d0].2[l]:=by unfold hasI; rw [getD_at hdl0,getD_at hld]
     conv=>whnf
     refine ⟨_,getI_at2 hxd hdl0,?_⟩
     conv=>whnf
     refine ⟨_,getI_nat hld,?_⟩
     conv=>whnf
     refine bcase_iff.2 ⟨fun h13=>?_,fun h13=>?_⟩
     · have hno:¬ RightR ls cs A:=fun q=>by
        rcases (q.2 c (by omega)).2 l hll with e | ⟨_,_,e3,_⟩
        · exact h12 e
        · exact e3 (by rw [hd0,Int.toNat_natCast,hhs]; exact eq_of_beq (show (cs[d0].2[l]==0)=true from h13))
       conv=>whnf
       refine ⟨?_⟩
       conv=>whnf
       exact congrArg vB (right_no hno).symm
     have h13:hasI cs d0 l≠0:=fun e=>by have h:(cs[d0].2[l]==0)=false:=h13; rw [←hhs,e] at h; cases h
     conv=>whnf
     refine ⟨?_⟩
     conv=>whnf
     refine ⟨⟨486,[],[]⟩,?_⟩
     refine LoopW_ind _ (fun d:Nat=>(({ tmps:=[υ,intsV A,.own 2 [],υ,υ,vI c,vI l,vI A[c][l],vI d,υ,υ,υ,υ,υ,υ,υ,υ,υ,υ,υ,υ,υ,υ,υ,υ,υ,υ,υ,υ,υ,υ,υ,υ,υ,υ,υ,υ,υ,υ,υ,υ,υ,υ,υ,υ,υ,υ,υ,υ,υ,υ,υ,υ,υ,υ,υ,υ,υ,υ,υ,υ,υ,υ,υ,υ,υ,υ,υ,υ,υ,υ,υ,υ,υ,υ,υ,υ,υ,υ,υ,υ,υ,υ],seg:=[(2,.cells [vI p,lfsV ls,cpsV cs])],up:=[] }:St S))) (fun d:Nat=>(d≤c∧∀ i,i < d→get2 A i l≠get2 A c l)) (fun d:Nat=>(c - d)) () ?_ 0 ⟨Nat.zero_le _,fun j h=>absurd h (Nat.not_lt_zero j)⟩
     intro d hinv Z3 hZ3
     obtain ⟨hd,hdd⟩:=hinv
     conv=>whnf
     refine ⟨?_⟩
     conv=>whnf
     refine bcase_iff.2 ⟨fun h16=>?_,fun h16=>?_⟩
     · have hlt:d < c:=by have:=of_decide_eq_true h16; omega
       have hwd:IntKind.i64.wrap ((d:Int)+1)=((d+1:Nat):Int):=wrap_nat (by omega)
       have hdA:d < A.length:=by omega
       have hrd:l < A[d].length:=by have:=(hdc d hlt).1; rw [getD_at hdA] at this; omega
       have hg2:=get2_at hdA hrd
       conv=>whnf
       refine ⟨?_⟩
       conv=>whnf
       refine ⟨_,getI_nat hdA,?_⟩
       conv=>whnf
       refine ⟨_,getI_nat hrd,?_⟩
       conv=>whnf
       refine bcase_iff.2 ⟨fun h18=>?_,fun h18=>?_⟩
       · have h18:get2 A d l=get2 A c l:=by rw [hg,hg2]; exact eq_of_beq (show (A[d][l]==A[c][l])=true from h18)
         have hno:¬ RightR ls cs A:=fun q=>by
          rcases (q.2 c (by omega)).2 l hll with e | ⟨_,_,_,e4⟩
          · exact h12 e
          exact e4 d hlt h18
         conv=>whnf
         refine ⟨?_⟩
         conv=>whnf
         exact congrArg vB (right_no hno).symm
       have h18:get2 A d l≠get2 A c l:=fun e=>by have h:(A[d][l]==A[c][l])=false:=h18; rw [←hg,←hg2,e] at h; simp at h
       conv=>whnf
       refine ⟨?_⟩
       conv=>whnf
       refine ⟨⟨486,[],[]⟩,?_⟩
       conv=>whnf
       rw [hwd]
       exact hZ3 (d+1) ⟨hlt,up_all hdd h18⟩ (by omega)
     have hgd:d=c:=by have:=of_decide_eq_false h16; omega
     conv=>whnf
     refine ⟨?_⟩
     conv=>whnf
     refine ⟨⟨102,[],[]⟩,?_⟩
     conv=>whnf
     rw [hwl]
     exact hZ2 (l+1) ⟨hll,up_all hdl (.inr ⟨by omega,by omega,by rw [hd0,Int.toNat_natCast]; exact h13,by rw [hgd] at hdd; exact hdd⟩)⟩ (by omega)
   have hgl:l=ls.length:=by have:=of_decide_eq_false h9; omega
   conv=>whnf
   refine ⟨?_⟩
   conv=>whnf
   refine ⟨⟨38,[],[]⟩,?_⟩
   conv=>whnf
   rw [hwc]
   exact hZ1 (c+1) ⟨hlc,up_all hdc ⟨by rw [getD_at hlc]; exact h6,by rw [hgl] at hdl; exact hdl⟩⟩ (by omega)
 have hgc:c=A.length:=by have:=of_decide_eq_false h4; omega
 conv=>whnf
 refine ⟨?_⟩
 conv=>whnf
 exact congrArg vB (right_yes ⟨h1,fun i hi=>hdc i (by omega)⟩).symm
theorem op46:Opens PR 46:=⟨_,Tryd.func46,rfl,rfl⟩
end Go.Ab.MkF
namespace Go.Ab.MkF
open Go Go.Ab Go.Ab.Pln Go.Proofs
set_option maxHeartbeats 1000000
set_option maxRecDepth 100000
def aftK (cs:List Cp) (A:Tb) (c l:Nat):Int:=if get2 A c l=-1 then 0 else hasI cs (get2 A c l).toNat l
def aftC (ls:List Lf) (cs:List Cp) (A:Tb) (c:Nat):Cp:=((cs.getD c cp0).1,(List.range ls.length).map (aftK cs A c))
def aftL (ls:List Lf) (cs:List Cp) (A:Tb):List Cp:=(List.range cs.length).map (aftC ls cs A)
theorem rm9 {α:Type} (f:Nat→α) (i:Nat):(List.range (i+1)).map f=(List.range i).map f++[f i]:=by rw [List.range_succ,List.map_append]; rfl
theorem c48 (gl:Gl) (p:Int) (ls:List Lf) (cs:List Cp) (hV:Valid p ls cs) (A:List (List Int)) (hR:RightR ls cs A):PCalls PR gl 48 [.agg [vI p,lfsV ls,cpsV cs],intsV A] fun r=>r=.agg [vI p,lfsV ls,cpsV (aftL ls cs A)]:=by
 have hm4:=hV.m4
 have hn6:=hV.n6
 refine fnW_sound (parH_ok gl) Tryd.func48 ?_
 conv=>whnf
 refine ⟨?_⟩
 conv=>whnf
 refine ⟨?_⟩
 conv=>whnf
 refine ⟨?_⟩
 conv=>whnf
 refine ⟨⟨118,[],[5,2004,3004]⟩,?_⟩
 refine LoopW_ind _ (fun i:Nat=>(({ tmps:=[υ,intsV A,.own 2 [],υ,.own 4 [],.sl (S:=S) U.copy ((List.range i).map (aftC ls cs A)) (some 5),vI i,υ,υ,υ,υ,υ,υ,υ,υ,υ,υ,υ,υ,υ,υ,υ,υ,υ,υ,υ,υ,υ,υ,υ,υ,υ,υ,υ,υ,υ,υ,υ,υ,υ,υ,υ,υ,υ,υ,υ,υ,υ,υ,υ,υ,υ,υ,υ,υ,υ,υ,υ,υ,υ,υ,υ,υ,υ,υ,υ,υ],seg:=[(2,.cells [vI p,lfsV ls,cpsV cs]),(4,.cells [vI 0,.sl (S:=S) U.leaf [] (some 2004),.sl (S:=S) U.copy [] (some 3004)]),(5,.row U.copy false),(2004,.row U.leaf false),(3004,.row U.copy false)],up:=[] }:St S))) (fun i:Nat=>(i≤cs.length)) (fun i:Nat=>(cs.length - i)) () ?_ 0 (Nat.zero_le _)
 intro i hi Z1 hZ1
 conv=>whnf
 refine ⟨?_⟩
 conv=>whnf
 refine bcase_iff.2 ⟨fun h3=>?_,fun h3=>?_⟩
 · have hlt:i < cs.length:=by have:=of_decide_eq_true h3; omega
   have hw:IntKind.i64.wrap ((i:Int)+1)=((i+1:Nat):Int):=wrap_nat (by omega)
   have hiA:i < A.length:=by rw [hR.1]; exact hlt
   have hrow:=hR.2 i hlt
   have hrl:A[i].length=ls.length:=by have:=hrow.1; rw [getD_at hiA] at this; exact this
   have hal:((List.range i).map (aftC ls cs A)).length=i:=by simp
   conv=>whnf
   refine ⟨?_⟩
   conv=>whnf
   refine ⟨_,getI_nat hlt,?_⟩
   conv=>whnf
   refine ⟨?_⟩
   conv=>whnf
   refine ⟨⟨502,[2007],[2007,902007]⟩,?_⟩
   refine LoopW_ind _ (fun l:Nat=>(({ tmps:=[υ,intsV A,.own 2 [],υ,.own 4 [],.sl (S:=S) U.copy ((List.range i).map (aftC ls cs A)) (some 5),vI i,.own 7 [],vI l,υ,υ,υ,υ,υ,υ,υ,υ,υ,υ,υ,υ,υ,υ,υ,υ,υ,υ,υ,υ,υ,υ,υ,υ,υ,υ,υ,υ,υ,υ,υ,υ,υ,υ,υ,υ,υ,υ,υ,υ,υ,υ,υ,υ,υ,υ,υ,υ,υ,υ,υ,υ,υ,υ,υ,υ,υ,υ],seg:=[(2,.cells [vI p,lfsV ls,cpsV cs]),(4,.cells [vI 0,.sl (S:=S) U.leaf [] (some 2004),.sl (S:=S) U.copy [] (some 3004)]),(5,.row U.copy false),(7,.cells [.str cs[i].1,.sl (S:=S) U.int ((List.range l).map (aftK cs A i)) (some 902007)]),(2004,.row U.leaf false),(3004,.row U.copy false),(902007,.row U.int false)],up:=[] }:St S))) (fun l:Nat=>(l≤ls.length)) (fun l:Nat=>(ls.length - l)) () ?_ 0 (Nat.zero_le _)
   intro l hl Z2 hZ2
   conv=>whnf
   refine ⟨?_⟩
   conv=>whnf
   refine bcase_iff.2 ⟨fun h7=>?_,fun h7=>?_⟩
   · have hll:l < ls.length:=by have:=of_decide_eq_true h7; omega
     have hwl:IntKind.i64.wrap ((l:Int)+1)=((l+1:Nat):Int):=wrap_nat (by omega)
     have hlr:l < A[i].length:=by omega
     have hg:=get2_at hiA hlr
     have hl3:((List.range l).map (aftK cs A i)).length=l:=by simp
     conv=>whnf
     refine ⟨?_⟩
     conv=>whnf
     refine ⟨?_⟩
     conv=>whnf
     refine ⟨_,getI_nat hiA,?_⟩
     conv=>whnf
     refine ⟨_,getI_nat hlr,?_⟩
     conv=>whnf
     refine bcase_iff.2 ⟨fun h10=>?_,fun h10=>?_⟩
     · have h10:get2 A i l≠-1:=by rw [hg]; have h:(A[i][l] != -1)=true:=h10; simpa using h
       obtain ⟨d,hd,hdl⟩:∃ d:Nat,get2 A i l=(d:Int)∧d < cs.length:=by
        rcases hrow.2 l hll with e | ⟨e1,e2,_,_⟩
        · exact absurd e h10
        exact ⟨(get2 A i l).toNat,by omega,by omega⟩
       have hcd:=(hV.cp hdl).2.1
       have hld:l < cs[d].2.length:=by omega
       have hxd:A[i][l]=(d:Int):=by rw [←hg,hd]
       have hk:cs[d].2[l]=aftK cs A i l:=by unfold aftK; rw [if_neg h10,hd,Int.toNat_natCast]; unfold hasI; rw [getD_at hdl,getD_at hld]
       conv=>whnf
       refine ⟨[0,1,2,3,4,5,6,7,8,9,10,11,12,13,14,15],[],[],[],⟨147573952589676412927,[],[]⟩,by decide +kernel,?_⟩
       conv=>whnf
       refine ⟨_,getI_nat hiA,?_⟩
       conv=>whnf
       refine ⟨_,getI_nat hlr,?_⟩
       conv=>whnf
       refine ⟨_,getI_at2 hxd hdl,?_⟩
       conv=>whnf
       refine ⟨_,getI_nat hld,?_⟩
       conv=>whnf
       refine ⟨?_⟩
       conv=>whnf
       refine ⟨_,rfl,?_⟩
       conv=>whnf
       refine ⟨lim (by show ((List.range l).map (aftK cs A i)).length+1≤_; omega),?_⟩
       conv=>whnf
       refine ⟨?_⟩
       conv=>whnf
       refine ⟨⟨502,[57,58],[]⟩,?_⟩
       conv=>whnf
       rw [hwl]
       have hz:=hZ2 (l+1) hll (by omega)
       rw [rm9,←hk] at hz
       exact hz
     have h10:get2 A i l=-1:=by rw [hg]; have h:(A[i][l] != -1)=false:=h10; simpa using h
     have hk:(0:Int)=aftK cs A i l:=by unfold aftK; rw [if_pos h10]
     conv=>whnf
     refine ⟨?_⟩
     conv=>whnf
     refine ⟨_,rfl,?_⟩
     conv=>whnf
     refine ⟨lim (by show ((List.range l).map (aftK cs A i)).length+1≤_; omega),?_⟩
     conv=>whnf
     refine ⟨?_⟩
     conv=>whnf
     refine ⟨⟨502,[57,58],[]⟩,?_⟩
     conv=>whnf
     rw [hwl]
     have hz:=hZ2 (l+1) hll (by omega)
     rw [rm9,←hk] at hz
     exact hz
   have hgl:l=ls.length:=by have:=of_decide_eq_false h7; omega
   rw [hgl]
   conv=>whnf
   refine ⟨?_⟩
   conv=>whnf
   refine ⟨_,rfl,?_⟩
   conv=>whnf
   refine ⟨lim (by show ((List.range i).map (aftC ls cs A)).length+1≤_; omega),?_⟩
   conv=>whnf
   refine ⟨?_⟩
   conv=>whnf
   refine ⟨⟨118,[7,57,58,62,63,1007,2007,3007,4007,902007],[]⟩,?_⟩
   conv=>whnf
   rw [hw]
   have hz:=hZ1 (i+1) hlt (by omega)
   rw [rm9,show aftC ls cs A i=(cs[i].1,(List.range ls.length).map (aftK cs A i)) from by unfold aftC; rw [getD_at hlt]] at hz
   exact hz
 have hge:i=cs.length:=by have:=of_decide_eq_false h3; omega
 conv=>whnf
 refine ⟨?_⟩
 conv=>whnf
 refine ⟨?_⟩
 conv=>whnf
 rw [hge]
 rfl
theorem op48:Opens PR 48:=⟨_,Tryd.func48,rfl,rfl⟩
end Go.Ab.MkF
namespace Go.Ab.MkF
open Go Go.Ab Go.Ab.Pln
section
variable {p:Int} {ls:List Lf} {cs:List Cp} {h:List Int} {Q A:Tb}
structure SamT (ls:List Lf) (cs:List Cp) (A Q:Tb):Prop where
 len:A.length=cs.length
 row:∀ c,c < cs.length→(A.getD c []).length=ls.length
 same:∀ c x,c < cs.length→x < ls.length→get2 A c x=get2 Q c x
theorem rows_same (hV:Valid p ls cs) (ht:Tb46 Q) (a b:Int):SamT ls cs (rowsW (Q,a,b) ls.length cs.length) Q:=by
 have h4:=hV.m4
 have h6:=hV.n6
 have hr:∀ c,c < cs.length→(rowsW (Q,a,b) ls.length cs.length).getD c []=(Q.getD c []).take ls.length:=fun c hc=>by
  unfold rowsW
  rw [getD_at (by rw [List.length_map,List.length_range]; exact hc),List.getElem_map,List.getElem_range]
 refine ⟨by unfold rowsW; rw [List.length_map,List.length_range],fun c hc=>by rw [hr c hc,row_len ht _ (by omega)]; omega,fun c x hc hx=>?_⟩
 unfold get2
 rw [hr c hc]
 have hl:=ht.row c (by omega)
 rw [List.getD_eq_getElem?_getD,List.getD_eq_getElem?_getD (l:=Q.getD c []),List.getElem?_take,if_pos hx]
theorem PlOk.hasT (_hV:Valid p ls cs) (hh:HostOk ls cs h) (hq:PlOk ls.length cs (pad4 h) Q) {c x:Nat} (hc:c < cs.length) (hx:x < ls.length):get2 Q c x=-1∧(pad4 h).getD c 0=0∨∃ d:Nat,get2 Q c x=d∧d < cs.length∧hasI cs d x > 0∧((pad4 h).getD c 0≠0→hasI cs d x=(pad4 h).getD c 0):=by
 have hn:=hh.nn c
 by_cases h0:(pad4 h).getD c 0=0
 · by_cases hk:hasI cs c x > 0∧∀ c',c' < cs.length→(pad4 h).getD c' 0≠0→get2 Q c' x≠(c:Int)
   · exact .inr ⟨c,hq.keep c x hc hx h0 hk.1 hk.2,hc,hk.1,fun e=>absurd h0 e⟩
   exact .inl ⟨hq.none c x hc hx h0 hk,h0⟩
 by_cases ho:hasI cs c x=(pad4 h).getD c 0
 · exact .inr ⟨c,hq.own c x hc hx h0 ho,hc,by omega,fun _=>ho⟩
 obtain ⟨d,h1,h2,h3,_⟩:=hq.don c x hc hx h0 ho
 exact .inr ⟨d,h2,h1,by omega,fun _=>h3⟩
theorem best_right (hV:Valid p ls cs) (hh:HostOk ls cs h) (hq:PlOk ls.length cs (pad4 h) Q) (hs:SamT ls cs A Q):RightR ls cs A:=by
 refine ⟨hs.len,fun c hc=>⟨hs.row c hc,fun l hl=>?_⟩⟩
 unfold EntR
 rw [hs.same c l hc hl]
 rcases hq.hasT hV hh hc hl with ⟨e,_⟩ | ⟨d,e,hd,hp,_⟩
 · exact .inl e
 refine .inr ⟨by omega,by omega,by rw [e,Int.toNat_natCast]; omega,fun d' hd' he=>?_⟩
 rw [hs.same d' l (by omega) hl] at he
 have:=hq.once hc (c':=d') (by omega) hl (by omega) he.symm
 omega
theorem aft_len:(aftL ls cs A).length=cs.length:=by unfold aftL; rw [List.length_map,List.length_range]
theorem aft_at {c:Nat} (hc:c < cs.length):(aftL ls cs A)[c]'(by rw [aft_len]; exact hc)=aftC ls cs A c:=by unfold aftL; rw [List.getElem_map,List.getElem_range]
theorem aft_has {c l:Nat} (hc:c < cs.length) (hl:l < ls.length):hasI (aftL ls cs A) c l=aftK cs A c l:=by
 unfold hasI
 rw [getD_at (xs:=aftL ls cs A) (i:=c) (by rw [aft_len]; exact hc),aft_at hc]
 show ((List.range ls.length).map (aftK cs A c)).getD l 0=_
 rw [getD_at (by rw [List.length_map,List.length_range]; exact hl),List.getElem_map,List.getElem_range]
theorem aftK_in (hV:Valid p ls cs) (c l:Nat):0≤aftK cs A c l∧aftK cs A c l≤2:=by
 unfold aftK
 split
 · decide
 exact has_in hV _ _
theorem aft_valid (hV:Valid p ls cs):Valid p ls (aftL ls cs A):=by
 have hx:∀ x∈aftL ls cs A,∃ c,c < cs.length∧x=aftC ls cs A c:=fun x hx=>by
  obtain ⟨c,hc,rfl⟩:=List.mem_map.1 hx; exact ⟨c,List.mem_range.1 hc,rfl⟩
 refine valid_copies hV (by rw [aft_len]; exact hV.m1) (by rw [aft_len]; exact hV.m4) (fun x h=>?_) ?_ (fun x h=>?_) (fun x h k hk=>?_)
 · obtain ⟨c,hc,rfl⟩:=hx x h
   show nameB (cs.getD c cp0).1=true
   rw [getD_at hc]; exact (hV.cp hc).1
 · rw [List.pairwise_iff_getElem]
   intro i j hi hj hij
   rw [aft_len] at hi hj
   rw [aft_at hi,aft_at hj]
   show strEq (cs.getD i cp0).1 (cs.getD j cp0).1=false
   rw [getD_at hi,getD_at hj]
   exact List.pairwise_iff_getElem.1 hV.names i j hi hj hij
 · obtain ⟨c,hc,rfl⟩:=hx x h
   show ((List.range ls.length).map _).length=_
   rw [List.length_map,List.length_range]
 obtain ⟨c,hc,rfl⟩:=hx x h
 obtain ⟨l,_,rfl⟩:=List.mem_map.1 hk
 exact aftK_in hV c l
theorem cntI_sm (h:List Int) (k:Int):∀ i,i≤h.length→cntI (h.take i) k=sm (fun c=>if h.getD c 0=k then 1 else 0) i
 | 0,_=>rfl
 | i+1,hi=>by
  rw [cntI_succ (by omega),cntI_sm h k i (by omega)]
  show _=sm _ i+(if h.getD i 0=k then 1 else 0)
  rw [getD_at (by omega)]
  split <;> rfl
theorem sm_le {f g:Nat→Nat}:∀ {m:Nat},(∀ c,c < m→f c≤g c)→sm f m≤sm g m
 | 0,_=>Nat.le_refl _
 | m+1,h=>Nat.add_le_add (sm_le fun c hc=>h c (by omega)) (h m (by omega))
end
end Go.Ab.MkF
namespace Go.Ab.MkF
open Go Go.Ab Go.Ab.Pln Go.Proofs
set_option maxHeartbeats 1000000
set_option maxRecDepth 100000
def movR (A:Tb) (c:Nat):Nat→Nat
 | 0=>0
 | l+1=>movR A c l+if get2 A c l≠(c:Int)∧get2 A c l≠-1 then 1 else 0
def movU (A:Tb):Nat→Nat
 | 0=>0
 | c+1=>movU A c+movR A c (A.getD c []).length
theorem movR_le (A:Tb) (c:Nat):∀ l,movR A c l≤l
 | 0=>Nat.le_refl _
 | l+1=>by have:=movR_le A c l; simp only [movR]; split <;> omega
theorem movU_le {A:Tb} (hx:∀ c,(A.getD c []).length≤1000):∀ c,movU A c≤1000 * c
 | 0=>Nat.le_refl _
 | c+1=>by have h1:=movU_le hx c; have h2:=movR_le A c (A.getD c []).length; have h3:=hx c; simp only [movU]; omega
theorem c49 (gl:Gl) (A:List (List Int)) (hA:A.length≤1000) (hx:∀ c,(A.getD c []).length≤1000):PCalls PR gl 49 [intsV A] fun r=>r=vI (movU A A.length:Nat):=by
 refine fnW_sound (parH_ok gl) Tryd.func49 ?_
 conv=>whnf
 refine ⟨?_⟩
 conv=>whnf
 refine ⟨?_⟩
 conv=>whnf
 refine ⟨?_⟩
 conv=>whnf
 refine ⟨⟨25,[],[]⟩,?_⟩
 refine LoopW_ind _ (fun c:Nat=>(({ tmps:=[intsV A,υ,υ,vI (movU A c:Nat),vI c,υ,υ,υ,υ,υ,υ,υ,υ,υ,υ,υ,υ,υ,υ,υ,υ,υ,υ,υ,υ,υ,υ,υ,υ,υ,υ,υ,υ,υ,υ,υ,υ,υ,υ,υ,υ,υ,υ],seg:=[],up:=[] }:St S))) (fun c:Nat=>(c≤A.length)) (fun c:Nat=>(A.length - c)) () ?_ 0 (Nat.zero_le _)
 intro c hc Z1 hZ1
 conv=>whnf
 refine ⟨?_⟩
 conv=>whnf
 refine bcase_iff.2 ⟨fun h3=>?_,fun h3=>?_⟩
 · have hlc:c < A.length:=by have:=of_decide_eq_true h3; omega
   have hwc:IntKind.i64.wrap ((c:Int)+1)=((c+1:Nat):Int):=wrap_nat (by omega)
   conv=>whnf
   refine ⟨?_⟩
   conv=>whnf
   refine ⟨⟨57,[],[]⟩,?_⟩
   refine LoopW_ind _ (fun l:Nat=>(({ tmps:=[intsV A,υ,υ,vI (movU A c+movR A c l:Nat),vI c,vI l,υ,υ,υ,υ,υ,υ,υ,υ,υ,υ,υ,υ,υ,υ,υ,υ,υ,υ,υ,υ,υ,υ,υ,υ,υ,υ,υ,υ,υ,υ,υ,υ,υ,υ,υ,υ,υ],seg:=[],up:=[] }:St S))) (fun l:Nat=>(l≤A[c].length)) (fun l:Nat=>(A[c].length - l)) () ?_ 0 (Nat.zero_le _)
   intro l hl Z2 hZ2
   conv=>whnf
   refine ⟨?_⟩
   conv=>whnf
   refine ⟨_,getI_nat hlc,?_⟩
   conv=>whnf
   refine bcase_iff.2 ⟨fun h6=>?_,fun h6=>?_⟩
   · have hll:l < A[c].length:=by have:=of_decide_eq_true h6; omega
     have b0:=hx c
     rw [getD_at hlc] at b0
     have hwl:IntKind.i64.wrap ((l:Int)+1)=((l+1:Nat):Int):=wrap_nat (by omega)
     conv=>whnf
     refine ⟨?_⟩
     conv=>whnf
     refine ⟨_,getI_nat hlc,?_⟩
     conv=>whnf
     refine ⟨_,getI_nat hll,?_⟩
     conv=>whnf
     refine bcase_iff.2 ⟨fun g8_9=>?_,fun g8_9=>?_⟩
     · have hg:=get2_at hlc hll
       have g9:get2 A c l≠(c:Int):=by rw [hg]; have h:(A[c][l] != (c:Int))=true:=g8_9; simpa using h
       conv=>whnf
       refine ⟨_,getI_nat hlc,?_⟩
       conv=>whnf
       refine ⟨_,getI_nat hll,?_⟩
       conv=>whnf
       refine bcase_iff.2 ⟨fun h8=>?_,fun h8=>?_⟩
       · have h8:get2 A c l≠-1:=by rw [hg]; have h:(A[c][l] != -1)=true:=h8; simpa using h
         have hm:movR A c (l+1)=movR A c l+1:=by simp only [movR]; rw [if_pos ⟨g9,h8⟩]
         have b1:=movU_le hx c
         have b2:=movR_le A c l
         have b3:=hx c
         rw [getD_at hlc] at b3
         have hwn:IntKind.i64.wrap (((movU A c+movR A c l:Nat):Int)+1)=((movU A c+movR A c l+1:Nat):Int):=wrap_nat (by omega)
         conv=>whnf
         refine ⟨?_⟩
         conv=>whnf
         refine ⟨?_⟩
         conv=>whnf
         refine ⟨⟨57,[],[]⟩,?_⟩
         conv=>whnf
         rw [hwl,hwn]
         have hz:=hZ2 (l+1) hll (by omega)
         rw [hm,←Nat.add_assoc] at hz
         exact hz
       have h8:get2 A c l=-1:=by rw [hg]; have h:(A[c][l] != -1)=false:=h8; simpa using h
       have hm:movR A c (l+1)=movR A c l:=by simp only [movR]; rw [if_neg fun q=>q.2 h8]; rfl
       conv=>whnf
       refine ⟨?_⟩
       conv=>whnf
       refine ⟨⟨57,[],[]⟩,?_⟩
       conv=>whnf
       rw [hwl]
       have hz:=hZ2 (l+1) hll (by omega)
       rw [hm] at hz
       exact hz
     have hg:=get2_at hlc hll
     have g9:get2 A c l=(c:Int):=by rw [hg]; have h:(A[c][l] != (c:Int))=false:=g8_9; simpa using h
     conv=>whnf
     refine ⟨?_⟩
     conv=>whnf
     refine ⟨⟨57,[],[]⟩,?_⟩
     conv=>whnf
     rw [hwl]
     have hz:=hZ2 (l+1) hll (by omega)
     rw [show movR A c (l+1)=movR A c l from by simp only [movR]; rw [if_neg fun q=>q.1 g9]; rfl] at hz
     exact hz
   have hgl:l=A[c].length:=by have:=of_decide_eq_false h6; omega
   conv=>whnf
   refine ⟨?_⟩
   conv=>whnf
   refine ⟨⟨25,[],[]⟩,?_⟩
   conv=>whnf
   rw [hwc,hgl]
   have hz:=hZ1 (c+1) hlc (by omega)
   rw [show movU A (c+1)=movU A c+movR A c A[c].length from by simp only [movU]; rw [getD_at hlc]] at hz
   exact hz
 have hgc:c=A.length:=by have:=of_decide_eq_false h3; omega
 conv=>whnf
 refine ⟨?_⟩
 conv=>whnf
 rw [hgc]
theorem op49:Opens PR 49:=⟨_,Tryd.func49,rfl,rfl⟩
end Go.Ab.MkF
namespace Go.Ab.MkF
open Go Go.Ab Go.Ab.Pln Go.Proofs
set_option maxHeartbeats 1000000
set_option maxRecDepth 100000
def whK (n:Nat) (cs:List Cp) (c k:Nat):Nat:=if cntI (cs.getD c cp0).2 (k:Int)=n then 1 else 0
def whlK (n:Nat) (cs:List Cp) (c:Nat):Nat→Nat
 | 0=>0
 | k+1=>whlK n cs c k+whK n cs c (k+1)
def whlU (n:Nat) (cs:List Cp):Nat→Nat
 | 0=>0
 | c+1=>whlU n cs c+whlK n cs c 2
theorem whlK_le (n:Nat) (cs:List Cp) (c:Nat):∀ k,whlK n cs c k≤k
 | 0=>Nat.le_refl _
 | k+1=>by have:=whlK_le n cs c k; simp only [whlK,whK]; split <;> omega
theorem whlU_le (n:Nat) (cs:List Cp):∀ c,whlU n cs c≤2 * c
 | 0=>Nat.le_refl _
 | c+1=>by have h1:=whlU_le n cs c; have h2:=whlK_le n cs c 2; simp only [whlU]; omega
theorem c47 (gl:Gl) (p:Int) (ls:List Lf) (cs:List Cp) (hL:LensS ls cs) (h4:cs.length≤1000):PCalls PR gl 47 [.agg [vI p,lfsV ls,cpsV cs]] fun r=>r=vI (whlU ls.length cs cs.length:Nat):=by
 refine fnW_sound (parH_ok gl) Tryd.func47 ?_
 conv=>whnf
 refine ⟨?_⟩
 conv=>whnf
 refine ⟨?_⟩
 conv=>whnf
 refine ⟨?_⟩
 conv=>whnf
 refine ⟨⟨26,[],[]⟩,?_⟩
 refine LoopW_ind _ (fun c:Nat=>(({ tmps:=[υ,.own 1 [],υ,vI (whlU ls.length cs c:Nat),vI c,υ,υ,υ,υ,υ,υ,υ,υ,υ,υ,υ,υ,υ,υ,υ,υ,υ,υ,υ,υ,υ,υ,υ,υ,υ,υ,υ],seg:=[(1,.cells [vI p,lfsV ls,cpsV cs])],up:=[] }:St S))) (fun c:Nat=>(c≤cs.length)) (fun c:Nat=>(cs.length - c)) () ?_ 0 (Nat.zero_le _)
 intro c hc Z1 hZ1
 conv=>whnf
 refine ⟨?_⟩
 conv=>whnf
 refine bcase_iff.2 ⟨fun h3=>?_,fun h3=>?_⟩
 · have hlc:c < cs.length:=by have:=of_decide_eq_true h3; omega
   have hwc:IntKind.i64.wrap ((c:Int)+1)=((c+1:Nat):Int):=wrap_nat (by omega)
   conv=>whnf
   refine ⟨?_⟩
   conv=>whnf
   refine ⟨⟨58,[],[]⟩,?_⟩
   refine LoopW_ind _ (fun k:Nat=>(({ tmps:=[υ,.own 1 [],υ,vI (whlU ls.length cs c+whlK ls.length cs c k:Nat),vI c,vI (k+1:Nat),υ,υ,υ,υ,υ,υ,υ,υ,υ,υ,υ,υ,υ,υ,υ,υ,υ,υ,υ,υ,υ,υ,υ,υ,υ,υ],seg:=[(1,.cells [vI p,lfsV ls,cpsV cs])],up:=[] }:St S))) (fun k:Nat=>(k≤2)) (fun k:Nat=>(2 - k)) () ?_ 0 (Nat.zero_le _)
   intro k hk Z2 hZ2
   conv=>whnf
   refine ⟨?_⟩
   conv=>whnf
   refine bcase_iff.2 ⟨fun h6=>?_,fun h6=>?_⟩
   · have hkl:k < 2:=by have:=of_decide_eq_true h6; omega
     have hwk:IntKind.i64.wrap (((k+1:Nat):Int)+1)=((k+1+1:Nat):Int):=wrap_nat (by omega)
     have hxl:=hL.2 _ (List.getElem_mem hlc)
     have b1:=whlU_le ls.length cs c
     have b2:=whlK_le ls.length cs c k
     have hwn:IntKind.i64.wrap (((whlU ls.length cs c+whlK ls.length cs c k:Nat):Int)+1)=((whlU ls.length cs c+whlK ls.length cs c k+1:Nat):Int):=wrap_nat (by omega)
     conv=>whnf
     refine ⟨[0,1,2,3,4,5,6,8,9,10,7,11],[],[],[],⟨4294967295,[],[]⟩,by decide +kernel,?_⟩
     conv=>whnf
     refine ⟨_,getI_nat hlc,?_⟩
     conv=>whnf
     refine byC (c94 gl cs[c].2 hxl ((k+1:Nat):Int)) op94 ?_
     conv=>whnf
     refine bcase_iff.2 ⟨fun h8=>?_,fun h8=>?_⟩
     · have h8:cntI cs[c].2 ((k+1:Nat):Int)=ls.length:=by have h:(((cntI cs[c].2 ((k+1:Nat):Int):Nat):Int)==(ls.length:Int))=true:=h8; have:=eq_of_beq h; omega
       have hm:whlK ls.length cs c (k+1)=whlK ls.length cs c k+1:=by simp only [whlK,whK]; rw [getD_at hlc,if_pos h8]
       conv=>whnf
       refine ⟨?_⟩
       conv=>whnf
       refine ⟨?_⟩
       conv=>whnf
       refine ⟨⟨58,[],[]⟩,?_⟩
       conv=>whnf
       rw [hwk,hwn]
       have hz:=hZ2 (k+1) hkl (by omega)
       rw [hm,←Nat.add_assoc] at hz
       exact hz
     have h8:cntI cs[c].2 ((k+1:Nat):Int)≠ls.length:=fun e=>by have h:(((cntI cs[c].2 ((k+1:Nat):Int):Nat):Int)==(ls.length:Int))=false:=h8; rw [e] at h; simp at h
     have hm:whlK ls.length cs c (k+1)=whlK ls.length cs c k:=by simp only [whlK,whK]; rw [getD_at hlc,if_neg h8]; rfl
     conv=>whnf
     refine ⟨?_⟩
     conv=>whnf
     refine ⟨⟨58,[],[]⟩,?_⟩
     conv=>whnf
     rw [hwk]
     have hz:=hZ2 (k+1) hkl (by omega)
     rw [hm] at hz
     exact hz
   have hgk:k=2:=by have:=of_decide_eq_false h6; omega
   conv=>whnf
   refine ⟨?_⟩
   conv=>whnf
   refine ⟨⟨26,[],[]⟩,?_⟩
   conv=>whnf
   rw [hwc,hgk]
   exact hZ1 (c+1) hlc (by omega)
 have hgc:c=cs.length:=by have:=of_decide_eq_false h3; omega
 conv=>whnf
 refine ⟨?_⟩
 conv=>whnf
 rw [hgc]
theorem op47:Opens PR 47:=⟨_,Tryd.func47,rfl,rfl⟩
end Go.Ab.MkF
namespace Go.Ab.MkF
open Go Go.Ab Go.Ab.Pln Go.Proofs
set_option maxHeartbeats 1000000
set_option maxRecDepth 100000
def wheI (A:Tb) (c:Int) (l:Nat):Nat→Int
 | 0=>-1
 | i+1=>if wheI A c l i=-1 then (if get2 A i l=c then (i:Int) else -1) else wheI A c l i
theorem whe_no {A:Tb} {c:Int} {l:Nat}:∀ {i:Nat},(∀ j,j < i→get2 A j l≠c)→wheI A c l i=-1
 | 0,_=>rfl
 | i+1,h=>by simp only [wheI]; rw [if_pos (whe_no fun j hj=>h j (by omega)),if_neg (h i (by omega))]
theorem whe_up {A:Tb} {c:Int} {l i:Nat} (h:wheI A c l i≠-1):∀ n,wheI A c l (i+n)=wheI A c l i
 | 0=>rfl
 | n+1=>by show wheI A c l (i+n+1)=_; simp only [wheI]; rw [whe_up h n,if_neg h]
theorem whe_at {A:Tb} {c:Int} {l i n:Nat} (hi:i < n) (h:∀ j,j < i→get2 A j l≠c) (e:get2 A i l=c):wheI A c l n=i:=by
 have h1:wheI A c l (i+1)=i:=by simp only [wheI]; rw [if_pos (whe_no h),if_pos e]
 have:=whe_up (A:=A) (c:=c) (l:=l) (i:=i+1) (by rw [h1]; omega) (n - (i+1))
 rw [show i+1+(n - (i+1))=n by omega] at this
 rw [this,h1]
theorem c120 (gl:Gl) (A:List (List Int)) (hA:A.length≤1000) (c:Int) (l:Nat) (hl:∀ i,i < A.length→l < (A.getD i []).length):PCalls PR gl 120 [intsV A,vI c,vI l] fun r=>r=vI (wheI A c l A.length):=by
 refine fnW_sound (parH_ok gl) Tryd.func120 ?_
 conv=>whnf
 refine ⟨?_⟩
 conv=>whnf
 refine ⟨?_⟩
 conv=>whnf
 refine ⟨⟨135,[],[]⟩,?_⟩
 refine LoopW_ind _ (fun i:Nat=>(({ tmps:=[intsV A,vI c,vI l,υ,υ,υ,υ,vI i,υ,υ,υ,υ,υ,υ,υ,υ,υ,υ,υ,υ,υ,υ,υ,υ],seg:=[],up:=[] }:St S))) (fun i:Nat=>(i≤A.length∧∀ j,j < i→get2 A j l≠c)) (fun i:Nat=>(A.length - i)) () ?_ 0 ⟨Nat.zero_le _,fun j h=>absurd h (Nat.not_lt_zero j)⟩
 intro i hinv Z1 hZ1
 obtain ⟨hi,hd⟩:=hinv
 conv=>whnf
 refine ⟨?_⟩
 conv=>whnf
 refine bcase_iff.2 ⟨fun h2=>?_,fun h2=>?_⟩
 · have hlt:i < A.length:=by have:=of_decide_eq_true h2; omega
   have hw:IntKind.i64.wrap ((i:Int)+1)=((i+1:Nat):Int):=wrap_nat (by omega)
   conv=>whnf
   refine ⟨?_⟩
   conv=>whnf
   have hrl:l < A[i].length:=by have:=hl i hlt; rw [getD_at hlt] at this; exact this
   have hg:=get2_at hlt hrl
   refine ⟨_,getI_nat hlt,?_⟩
   conv=>whnf
   refine ⟨_,getI_nat hrl,?_⟩
   conv=>whnf
   refine bcase_iff.2 ⟨fun h4=>?_,fun h4=>?_⟩
   · have h4:get2 A i l=c:=by rw [hg]; exact eq_of_beq (show (A[i][l]==c)=true from h4)
     conv=>whnf
     refine ⟨?_⟩
     conv=>whnf
     rw [whe_at hlt hd h4]
   have h4:get2 A i l≠c:=fun e=>by have h:(A[i][l]==c)=false:=h4; rw [←hg,e] at h; simp at h
   conv=>whnf
   refine ⟨?_⟩
   conv=>whnf
   refine ⟨⟨135,[],[]⟩,?_⟩
   conv=>whnf
   rw [hw]
   exact hZ1 (i+1) ⟨hlt,up_all hd h4⟩ (by omega)
 have hge:i=A.length:=by have:=of_decide_eq_false h2; omega
 conv=>whnf
 refine ⟨?_⟩
 conv=>whnf
 rw [whe_no (by rw [←hge]; exact hd)]
theorem op120:Opens PR 120:=⟨_,Tryd.func120,rfl,rfl⟩
end Go.Ab.MkF
namespace Go.Ab.MkF
open Go Go.Ab Go.Ab.Pln
section
variable {p:Int} {ls:List Lf} {cs:List Cp} {h:List Int} {Q A:Tb}
theorem RightR.ent (hR:RightR ls cs A) {c l:Nat} (hc:c < cs.length) (hl:l < ls.length):get2 A c l=-1∨∃ d:Nat,get2 A c l=d∧d < cs.length∧hasI cs d l≠0:=by
 rcases (hR.2 c hc).2 l hl with e | ⟨e1,e2,e3,_⟩
 · exact .inl e
 exact .inr ⟨(get2 A c l).toNat,by omega,by omega,e3⟩
theorem RightR.once (hR:RightR ls cs A) {c c' l:Nat} (hc:c < cs.length) (hc':c' < cs.length) (hl:l < ls.length) (hn:get2 A c l≠-1) (he:get2 A c l=get2 A c' l):c=c':=by
 rcases Nat.lt_trichotomy c c' with g | g | g
 · rcases (hR.2 c' hc').2 l hl with e | ⟨_,_,_,e4⟩
   · omega
   exact absurd he (e4 c g)
 · exact g
 rcases (hR.2 c hc).2 l hl with e | ⟨_,_,_,e4⟩
 · exact absurd e hn
 exact absurd he.symm (e4 c' g)
theorem any_le (hR:RightR ls cs A) {k:Int} (hk:k≠0) {l:Nat} (hl:l < ls.length):hvA (aftL ls cs A) l k≤hvA cs l k:=by
 show hvN (aftL ls cs A) l k (aftL ls cs A).length≤hvN cs l k cs.length
 rw [aft_len]
 unfold hvN
 have hm:∀ c,c∈(List.range cs.length).filter (fun c=>hasI (aftL ls cs A) c l==k)→c < cs.length∧∃ d:Nat,get2 A c l=d∧d < cs.length∧hasI cs d l=k:=fun c hc=>by
  rw [List.mem_filter,List.mem_range,beq_iff_eq] at hc
  obtain ⟨hc,he⟩:=hc
  rw [aft_has hc hl] at he
  unfold aftK at he
  rcases hR.ent hc hl with e2 | ⟨d,e2,hd,_⟩
  · rw [if_pos e2] at he; exact absurd he.symm hk
  rw [if_neg (by omega),e2,Int.toNat_natCast] at he
  exact ⟨hc,d,e2,hd,he⟩
 have hlen:(((List.range cs.length).filter (fun c=>hasI (aftL ls cs A) c l==k)).map fun c=>(get2 A c l).toNat).length=((List.range cs.length).filter (fun c=>hasI (aftL ls cs A) c l==k)).length:=List.length_map _
 rw [←hlen]
 refine nodup_sub_len ?_ fun d hd=>?_
 · unfold List.Nodup
   rw [List.pairwise_map]
   refine List.Pairwise.imp_of_mem ?_ ((List.nodup_range (n:=cs.length)).filter _)
   intro a b ha hb hab e
   obtain ⟨ha,d,e1,hd,_⟩:=hm a ha
   obtain ⟨hb,d',e2,hd',_⟩:=hm b hb
   exact hab (hR.once ha hb hl (by omega) (by omega))
 obtain ⟨c,hc,rfl⟩:=List.mem_map.1 hd
 obtain ⟨_,d,e,hd,hk⟩:=hm c hc
 rw [List.mem_filter,List.mem_range,e,Int.toNat_natCast]
 exact ⟨hd,by rw [beq_iff_eq]; exact hk⟩
theorem whK_one (n:Nat) (cs:List Cp) (c k:Nat):whK n cs c k=0∨whK n cs c k=1:=by unfold whK; split <;> simp
theorem cnt_all {xs:List Int} {k:Int}:cntI xs k=xs.length↔∀ x∈xs,x=k:=by
 unfold cntI
 rw [List.length_filter_eq_length_iff]
 exact ⟨fun g x hx=>eq_of_beq (g x hx),fun g x hx=>by rw [g x hx]; exact beq_self_eq_true _⟩
theorem whK_iff {c k:Nat} (hc:c < cs.length):whK ls.length (aftL ls cs A) c k=1↔∀ l,l < ls.length→aftK cs A c l=(k:Int):=by
 have e:((aftL ls cs A).getD c cp0).2=(List.range ls.length).map (aftK cs A c):=by
  rw [getD_at (xs:=aftL ls cs A) (i:=c) (by rw [aft_len]; exact hc),aft_at hc]; rfl
 unfold whK
 rw [e]
 have hf:cntI ((List.range ls.length).map (aftK cs A c)) (k:Int)=ls.length↔∀ l,l < ls.length→aftK cs A c l=(k:Int):=by
  have g:=cnt_all (xs:=(List.range ls.length).map (aftK cs A c)) (k:=(k:Int))
  rw [List.length_map,List.length_range] at g
  rw [g]
  constructor
  · intro g l h
    exact g _ (List.mem_map.2 ⟨l,List.mem_range.2 h,rfl⟩)
  rintro g x hx
  obtain ⟨l,h1,rfl⟩:=List.mem_map.1 hx
  exact g l (List.mem_range.1 h1)
 rw [←hf]
 split
 · rename_i g; exact ⟨fun _=>g,fun _=>rfl⟩
 rename_i g; exact ⟨fun q=>absurd q (by decide),fun q=>absurd q g⟩
def wN (ls:List Lf) (cs:List Cp) (A:Tb) (k:Nat):Nat:=sm (fun c=>whK ls.length (aftL ls cs A) c k) cs.length
theorem whl_two (n:Nat) (cs:List Cp):∀ m,whlU n cs m=sm (fun c=>whK n cs c 1) m+sm (fun c=>whK n cs c 2) m
 | 0=>rfl
 | m+1=>by
  show whlU n cs m+(0+whK n cs m 1+whK n cs m 2)=(sm (fun c=>whK n cs c 1) m+whK n cs m 1)+(sm (fun c=>whK n cs c 2) m+whK n cs m 2)
  rw [whl_two n cs m]; omega
theorem whl_aft:whlU ls.length (aftL ls cs A) (aftL ls cs A).length=wN ls cs A 1+wN ls cs A 2:=by rw [aft_len]; exact whl_two _ _ _
theorem wN_le (hV:Valid p ls cs) (hR:RightR ls cs A) {k:Nat} (hk:k≠0):wN ls cs A k≤(mostN ls cs (k:Int)).1:=by
 obtain ⟨l,hl,e⟩:=most_at hV.m4 (k:Int) hV.n1
 have h1:=any_le hR (k:=(k:Int)) (by omega) hl
 have h2:wN ls cs A k≤hvA (aftL ls cs A) l (k:Int):=by
  show _≤hvN (aftL ls cs A) l (k:Int) (aftL ls cs A).length
  rw [aft_len,hvN_sm]
  refine sm_le fun c hc=>?_
  rcases whK_one ls.length (aftL ls cs A) c k with g | g
  · rw [g]; exact Nat.zero_le _
  rw [g,if_pos (by rw [aft_has hc hl,(whK_iff hc).1 g l hl]; exact beq_self_eq_true _)]
  exact Nat.le_refl _
 unfold mostN
 omega
theorem any_whole (hV:Valid p ls cs) (hR:RightR ls cs A):whlU ls.length (aftL ls cs A) (aftL ls cs A).length≤(mostN ls cs 1).1+(mostN ls cs 2).1:=by
 rw [whl_aft]
 exact Nat.add_le_add (wN_le hV hR (k:=1) (by decide)) (wN_le hV hR (k:=2) (by decide))
theorem best_ge (hV:Valid p ls cs) (hh:HostOk ls cs h) (hq:PlOk ls.length cs (pad4 h) Q) (hs:SamT ls cs A Q) {k:Nat} (hk:k≠0):cntI h (k:Int)≤wN ls cs A k:=by
 have h1:=cntI_sm h (k:Int) cs.length (by rw [hh.len]; exact Nat.le_refl _)
 rw [←hh.len,List.take_length,hh.len] at h1
 rw [h1]
 refine sm_le fun c hc=>?_
 split
 · rename_i e
   rw [(whK_iff hc).2 fun l hl=>?_]
   · exact Nat.le_refl _
   unfold aftK
   rw [hs.same c l hc hl]
   rw [←pad_get] at e
   rcases hq.hasT hV hh hc hl with ⟨_,e2⟩ | ⟨d,e2,hd,hp,h3⟩
   · omega
   rw [if_neg (by omega),e2,Int.toNat_natCast,h3 (by omega),e]
 exact Nat.zero_le _
theorem best_whole (hV:Valid p ls cs) (hh:HostOk ls cs h) (hq:PlOk ls.length cs (pad4 h) Q) (hs:SamT ls cs A Q):whlU ls.length (aftL ls cs A) (aftL ls cs A).length=(mostN ls cs 1).1+(mostN ls cs 2).1:=by
 have h1:=any_whole hV (best_right hV hh hq hs)
 have h2:cntI h 1≤wN ls cs A 1:=best_ge hV hh hq hs (k:=1) (by decide)
 have h3:cntI h 2≤wN ls cs A 2:=best_ge hV hh hq hs (k:=2) (by decide)
 have h4:=hh.one
 have h5:=hh.two
 rw [whl_aft] at h1 ⊢
 omega
theorem movR_mv (A:Tb) (c:Nat):∀ l,movR A c l=mvR A c l
 | 0=>rfl
 | l+1=>by show movR A c l+_=mvR A c l+_; rw [movR_mv A c l]
theorem movU_sm (A:Tb):∀ m,movU A m=sm (fun c=>movR A c (A.getD c []).length) m
 | 0=>rfl
 | m+1=>by show movU A m+_=sm _ m+_; rw [movU_sm A m]
theorem mov_sm {n m:Nat} (hm:A.length=m) (hr:∀ c,c < m→(A.getD c []).length=n):movU A A.length=sm (fun c=>sm (fun l=>if get2 A c l≠(c:Int)∧get2 A c l≠-1 then 1 else 0) n) m:=by
 rw [movU_sm,hm]
 exact sm_eq fun c hc=>by rw [movR_mv,hr c hc,mvR_sm]
theorem best_moved (hV:Valid p ls cs) (hh:HostOk ls cs h) (hq:PlOk ls.length cs (pad4 h) Q) (hs:SamT ls cs A Q):movU A A.length=lackN cs (pad4 h):=by
 unfold lackN
 rw [hq.moved hV (fun c=>(hh.nn c).1) _ (Nat.le_refl _),mov_sm hs.len hs.row,mvU_sm]
 refine sm_eq fun c hc=>?_
 rw [mvR_sm]
 exact sm_eq fun l hl=>by rw [hs.same c l hc hl]
def hostR (ls:List Lf) (cs:List Cp) (A:Tb):List Int:=(List.range cs.length).map fun c=>if whK ls.length (aftL ls cs A) c 1=1 then 1 else if whK ls.length (aftL ls cs A) c 2=1 then 2 else 0
theorem hostR_at {c:Nat} (hc:c < cs.length):(hostR ls cs A).getD c 0=if whK ls.length (aftL ls cs A) c 1=1 then 1 else if whK ls.length (aftL ls cs A) c 2=1 then 2 else 0:=by
 unfold hostR
 rw [getD_at (by rw [List.length_map,List.length_range]; exact hc),List.getElem_map,List.getElem_range]
theorem host_wh (hV:Valid p ls cs) {c:Nat} (hc:c < cs.length) {k:Nat} (hk:k=1∨k=2):(hostR ls cs A).getD c 0=(k:Int)↔whK ls.length (aftL ls cs A) c k=1:=by
 rw [hostR_at hc]
 have hn:¬ (whK ls.length (aftL ls cs A) c 1=1∧whK ls.length (aftL ls cs A) c 2=1):=fun ⟨a,b⟩=>by
  have h1:=(whK_iff hc).1 a 0 hV.n1
  have h2:=(whK_iff hc).1 b 0 hV.n1
  omega
 rcases hk with rfl | rfl
 · split
   · rename_i g; exact ⟨fun _=>g,fun _=>rfl⟩
   rename_i g; exact ⟨fun q=>by split at q <;> omega,fun q=>absurd q g⟩
 split
 · rename_i g; exact ⟨fun q=>by omega,fun q=>absurd ⟨g,q⟩ hn⟩
 split
 · rename_i g; exact ⟨fun _=>g,fun _=>rfl⟩
 rename_i g; exact ⟨fun q=>by omega,fun q=>absurd q g⟩
theorem hostR_cnt (hV:Valid p ls cs) {k:Nat} (hk:k=1∨k=2):cntI (hostR ls cs A) (k:Int)=wN ls cs A k:=by
 have hl:(hostR ls cs A).length=cs.length:=by unfold hostR; rw [List.length_map,List.length_range]
 have h1:=cntI_sm (hostR ls cs A) (k:Int) cs.length (by omega)
 rw [←hl,List.take_length,hl] at h1
 rw [h1]
 refine sm_eq fun c hc=>?_
 rcases whK_one ls.length (aftL ls cs A) c k with g | g
 · rw [g,if_neg fun q=>by have:=(host_wh hV hc hk).1 q; omega]
 rw [g,if_pos ((host_wh hV hc hk).2 g)]
theorem hostR_ok (hV:Valid p ls cs) (hR:RightR ls cs A) (e:whlU ls.length (aftL ls cs A) (aftL ls cs A).length=(mostN ls cs 1).1+(mostN ls cs 2).1):HostOk ls cs (hostR ls cs A):=by
 rw [whl_aft] at e
 have h1:wN ls cs A 1≤(mostN ls cs 1).1:=wN_le hV hR (k:=1) (by decide)
 have h2:wN ls cs A 2≤(mostN ls cs 2).1:=wN_le hV hR (k:=2) (by decide)
 have c1:cntI (hostR ls cs A) 1=wN ls cs A 1:=hostR_cnt hV (k:=1) (.inl rfl)
 have c2:cntI (hostR ls cs A) 2=wN ls cs A 2:=hostR_cnt hV (k:=2) (.inr rfl)
 refine ⟨by unfold hostR; rw [List.length_map,List.length_range],fun x hx=>?_,by omega,by omega⟩
 obtain ⟨c,_,rfl⟩:=List.mem_map.1 hx
 split
 · exact .inr (.inl rfl)
 split
 · exact .inr (.inr rfl)
 exact .inl rfl
theorem any_moved (hV:Valid p ls cs) (hR:RightR ls cs A) (hh:HostOk ls cs (hostR ls cs A)):lackN cs (pad4 (hostR ls cs A))≤movU A A.length:=by
 obtain ⟨Q,hq⟩:=plan_ex hV.m4 hV.n6 hh
 unfold lackN
 rw [hq.moved hV (fun c=>(hh.nn c).1) _ (Nat.le_refl _),mov_sm hR.1 (fun c hc=>(hR.2 c hc).1),mvU_sm]
 refine sm_le fun c hc=>?_
 rw [mvR_sm]
 refine sm_le fun l hl=>?_
 split
 · rename_i g
   have g:=(hq.move (fun c=>(hh.nn c).1) hc hl).1 g
   rw [Bool.and_eq_true,decide_eq_true_eq,bne_iff_ne,pad_get] at g
   have hn:=hh.nn c
   rw [pad_get] at hn
   have hk:(hostR ls cs A).getD c 0=((1:Nat):Int)∨(hostR ls cs A).getD c 0=((2:Nat):Int):=by omega
   have ha:aftK cs A c l=(hostR ls cs A).getD c 0:=by
    rcases hk with e1 | e1
    · rw [e1]; exact (whK_iff hc).1 ((host_wh hV hc (.inl rfl)).1 e1) l hl
    rw [e1]; exact (whK_iff hc).1 ((host_wh hV hc (.inr rfl)).1 e1) l hl
   rw [if_pos]
   · exact Nat.le_refl _
   unfold aftK at ha
   refine ⟨fun q=>?_,fun q=>?_⟩
   · rw [if_neg (by omega),q,Int.toNat_natCast] at ha; exact g.2 ha.symm
   rw [if_pos q] at ha; omega
 exact Nat.zero_le _
def ctB (ls:List Lf) (cs:List Cp) (A:Tb) (c l:Nat):Bool :=
 decide ((ls.getD l lf0).2.1 > (l:Int))&&(decide (hasI cs c l > 0)&&(decide (hasI cs c (ls.getD l lf0).2.1.toNat > 0)&&(wheI A c l A.length != wheI A c (ls.getD l lf0).2.1.toNat A.length)))
def ctR (ls:List Lf) (cs:List Cp) (A:Tb) (c:Nat):Nat→Nat
 | 0=>0
 | l+1=>ctR ls cs A c l+if ctB ls cs A c l=true then 1 else 0
def ctU (ls:List Lf) (cs:List Cp) (A:Tb):Nat→Nat
 | 0=>0
 | c+1=>ctU ls cs A c+ctR ls cs A c ls.length
theorem ctR_le (c:Nat):∀ l,ctR ls cs A c l≤l
 | 0=>Nat.le_refl _
 | l+1=>by have:=ctR_le c l; simp only [ctR]; split <;> omega
theorem ctU_le (h6:ls.length≤6):∀ c,ctU ls cs A c≤6 * c
 | 0=>Nat.le_refl _
 | c+1=>by have h1:=ctU_le h6 c; have h2:=ctR_le (ls:=ls) (cs:=cs) (A:=A) c ls.length; simp only [ctU]; omega
theorem ctU_sm:∀ m,ctU ls cs A m=sm (fun c=>ctR ls cs A c ls.length) m
 | 0=>rfl
 | m+1=>by show ctU ls cs A m+_=sm _ m+_; rw [ctU_sm m]
theorem ctR_sm (c:Nat):∀ n,ctR ls cs A c n=sm (fun l=>if ctB ls cs A c l=true then 1 else 0) n
 | 0=>rfl
 | n+1=>by show ctR ls cs A c n+_=sm _ n+_; rw [ctR_sm c n]
theorem whe_atA (hV:Valid p ls cs) (hq:PlOk ls.length cs (pad4 h) Q) (hs:SamT ls cs A Q) {k x:Nat} (hk:k < cs.length) (hx:x < ls.length):wheI A k x A.length=get2 (atA ls cs Q) k x:=by
 obtain ⟨i1,i2⟩:=atA_get hV hq hk hx
 by_cases e:∃ i,i < cs.length∧get2 Q i x=(k:Int)
 · obtain ⟨i,hi,he⟩:=e
   rw [i1 i hi he]
   refine whe_at (by rw [hs.len]; exact hi) (fun j hj q=>?_) (by rw [hs.same i x hi hx]; exact he)
   rw [hs.same j x (by omega) hx] at q
   have:=hq.once hi (c':=j) (by omega) hx (by omega) (he.trans q.symm)
   omega
 rw [i2 fun d hd he=>e ⟨d,hd,he⟩]
 refine whe_no fun j hj q=>e ⟨j,by rw [hs.len] at hj; exact hj,?_⟩
 rw [hs.len] at hj
 rw [←hs.same j x hj hx]; exact q
theorem best_cut (hV:Valid p ls cs) (hq:PlOk ls.length cs (pad4 h) Q) (hs:SamT ls cs A Q):ctU ls cs A cs.length=cutN ls cs Q:=by
 unfold cutN
 rw [cutU_sm,ctU_sm]
 refine sm_eq fun c hc=>?_
 rw [cutR_sm,ctR_sm]
 refine sm_eq fun x hx=>?_
 have e:ctB ls cs A c x=cutB ls cs (atA ls cs Q) c x:=by
  unfold ctB cutB
  by_cases hy:(ls.getD x lf0).2.1 > (x:Int)
  · have hl:=(hV.lf hx).2.1
    rw [getD_at hx] at hy ⊢
    have hy2:ls[x].2.1.toNat < ls.length:=by omega
    rw [whe_atA hV hq hs hc hx,whe_atA hV hq hs hc hy2]
    have a1:=has_in hV c x
    have a2:=has_in hV c ls[x].2.1.toNat
    have hm:decide (hasI cs c x * hasI cs c ls[x].2.1.toNat > 0)=(decide (hasI cs c x > 0)&&decide (hasI cs c ls[x].2.1.toNat > 0)):=by
     rw [Bool.eq_iff_iff,Bool.and_eq_true,decide_eq_true_eq,decide_eq_true_eq,decide_eq_true_eq]
     constructor
     · intro g
       rcases Int.lt_or_eq_of_le a1.1 with b | b
       · rcases Int.lt_or_eq_of_le a2.1 with d | d
         · exact ⟨b,d⟩
         rw [←d,Int.mul_zero] at g; omega
       rw [←b,Int.zero_mul] at g; omega
     rintro ⟨b,d⟩; exact Int.mul_pos b d
    rw [hm,Bool.and_assoc,Bool.and_assoc]
  rw [decide_eq_false hy]; rfl
 rw [e]
end
structure MoreP (ls:List Lf) (cs:List Cp) (A:Tb) (a b c:Int):Prop where
 right:RightR ls cs A
 wh:(whlU ls.length (aftL ls cs A) (aftL ls cs A).length:Int)=a
 mv:(movU A A.length:Int)=b
 ct:(ctU ls cs A cs.length:Int)=c
 sum:(((mostN ls cs 1).1+(mostN ls cs 2).1:Nat):Int)=a
 le:∀ B,RightR ls cs B→(whlU ls.length (aftL ls cs B) (aftL ls cs B).length:Int)≤a
 eq:∀ B,RightR ls cs B→(whlU ls.length (aftL ls cs B) (aftL ls cs B).length:Int)=a→b≤(movU B B.length:Int)
theorem more_plain {p:Int} {ls:List Lf} {cs:List Cp} (hV:Valid p ls cs):∃ A a b c,whoV p ls cs=(A,a,b,c,0)∧MoreP ls cs A a b c:=by
 obtain ⟨h,Q,hh,hq,he,hle⟩:=best_spec hV
 refine ⟨rowsW (bestW ls cs) ls.length cs.length,manyU ls cs 3,(bestW ls cs).2.1,(bestW ls cs).2.2,by unfold whoV; rw [if_pos (chk_valid.2 hV)],?_⟩
 have hs:SamT ls cs (rowsW (wayQ ls cs (lackN cs (pad4 h)) Q) ls.length cs.length) Q:=rows_same hV hq.t (lackN cs (pad4 h):Int) (cutN ls cs Q:Int)
 rw [he] at hle ⊢
 have hw:=best_whole hV hh hq hs
 refine ⟨best_right hV hh hq hs,by rw [hw]; rfl,by rw [best_moved hV hh hq hs]; rfl,by rw [best_cut hV hq hs]; rfl,rfl,fun B hB=>?_,fun B hB e=>?_⟩
 · exact Int.ofNat_le.2 (any_whole hV hB)
 have e2:whlU ls.length (aftL ls cs B) (aftL ls cs B).length=(mostN ls cs 1).1+(mostN ls cs 2).1:=Int.ofNat_inj.1 e
 have hh':=hostR_ok hV hB e2
 obtain ⟨Q',hq'⟩:=plan_ex hV.m4 hV.n6 hh'
 have g:=any_moved hV hB hh'
 have g2:=hle _ Q' hh' hq'
 unfold keyV at g2
 rw [befL_cons] at g2
 simp only [Bool.or_eq_false_iff,decide_eq_false_iff_not] at g2
 have g3:¬ ((lackN cs (pad4 (hostR ls cs B)):Int) < (lackN cs (pad4 h):Int)):=g2.1
 show (lackN cs (pad4 h):Int)≤_
 omega
end Go.Ab.MkF
namespace Go.Ab.MkF
open Go Go.Ab Go.Ab.Pln Go.Proofs
set_option maxHeartbeats 1000000
set_option maxRecDepth 100000
theorem c50 (gl:Gl) (p:Int) (ls:List Lf) (cs:List Cp) (hV:Valid p ls cs) (A:List (List Int)) (hR:RightR ls cs A):PCalls PR gl 50 [.agg [vI p,lfsV ls,cpsV cs],intsV A] fun r=>r=vI (ctU ls cs A cs.length:Nat):=by
 have hAl:=hR.1
 have hm4:=hV.m4
 have hn6:=hV.n6
 refine fnW_sound (parH_ok gl) Tryd.func50 ?_
 conv=>whnf
 refine ⟨?_⟩
 conv=>whnf
 refine ⟨?_⟩
 conv=>whnf
 refine ⟨?_⟩
 conv=>whnf
 refine ⟨⟨102,[],[]⟩,?_⟩
 refine LoopW_ind _ (fun c:Nat=>(({ tmps:=[υ,intsV A,.own 2 [],υ,υ,vI (ctU ls cs A c:Nat),vI c,υ,υ,υ,υ,υ,υ,υ,υ,υ,υ,υ,υ,υ,υ,υ,υ,υ,υ,υ,υ,υ,υ,υ,υ,υ,υ,υ,υ,υ,υ,υ,υ,υ,υ,υ,υ,υ,υ,υ,υ,υ,υ,υ,υ,υ,υ,υ,υ,υ,υ,υ,υ,υ,υ,υ,υ,υ,υ,υ,υ,υ,υ],seg:=[(2,.cells [vI p,lfsV ls,cpsV cs])],up:=[] }:St S))) (fun c:Nat=>(c≤A.length)) (fun c:Nat=>(A.length - c)) () ?_ 0 (Nat.zero_le _)
 intro c hc Z1 hZ1
 conv=>whnf
 refine ⟨?_⟩
 conv=>whnf
 refine bcase_iff.2 ⟨fun h3=>?_,fun h3=>?_⟩
 · have hlA:c < A.length:=by have:=of_decide_eq_true h3; omega
   have hwc:IntKind.i64.wrap ((c:Int)+1)=((c+1:Nat):Int):=wrap_nat (by omega)
   have hlc:c < cs.length:=by omega
   have hcp:=(hV.cp hlc).2.1
   have b1:=ctU_le (ls:=ls) (cs:=cs) (A:=A) hV.n6 c
   conv=>whnf
   refine ⟨?_⟩
   conv=>whnf
   refine ⟨⟨230,[],[]⟩,?_⟩
   refine LoopW_ind _ (fun l:Nat=>(({ tmps:=[υ,intsV A,.own 2 [],υ,υ,vI (ctU ls cs A c+ctR ls cs A c l:Nat),vI c,vI l,υ,υ,υ,υ,υ,υ,υ,υ,υ,υ,υ,υ,υ,υ,υ,υ,υ,υ,υ,υ,υ,υ,υ,υ,υ,υ,υ,υ,υ,υ,υ,υ,υ,υ,υ,υ,υ,υ,υ,υ,υ,υ,υ,υ,υ,υ,υ,υ,υ,υ,υ,υ,υ,υ,υ,υ,υ,υ,υ,υ,υ],seg:=[(2,.cells [vI p,lfsV ls,cpsV cs])],up:=[] }:St S))) (fun l:Nat=>(l≤ls.length)) (fun l:Nat=>(ls.length - l)) () ?_ 0 (Nat.zero_le _)
   intro l hl Z2 hZ2
   conv=>whnf
   refine ⟨?_⟩
   conv=>whnf
   refine bcase_iff.2 ⟨fun h6=>?_,fun h6=>?_⟩
   · have hll:l < ls.length:=by have:=of_decide_eq_true h6; omega
     have hwl:IntKind.i64.wrap ((l:Int)+1)=((l+1:Nat):Int):=wrap_nat (by omega)
     have b2:=ctR_le (ls:=ls) (cs:=cs) (A:=A) c l
     have hix:l < cs[c].2.length:=by omega
     have hg:=getD_at (d:=lf0) hll
     have hk:hasI cs c l=cs[c].2[l]:=by unfold hasI; rw [getD_at hlc,getD_at hix]
     have hmt:=(hV.lf hll).2.1
     have hwn:IntKind.i64.wrap (((ctU ls cs A c+ctR ls cs A c l:Nat):Int)+1)=((ctU ls cs A c+ctR ls cs A c l+1:Nat):Int):=wrap_nat (by omega)
     conv=>whnf
     refine ⟨?_⟩
     conv=>whnf
     refine ⟨_,getI_nat hll,?_⟩
     conv=>whnf
     refine ⟨?_⟩
     conv=>whnf
     refine bcase_iff.2 ⟨fun g9_3=>?_,fun g9_3=>?_⟩
     · have g3:(ls.getD l lf0).2.1 > (l:Int):=by rw [hg]; exact of_decide_eq_true g9_3
       obtain ⟨m0,hmx⟩:∃ m0:Nat,ls[l].2.1=(m0:Int):=⟨ls[l].2.1.toNat,by rw [hg] at g3; omega⟩
       have hm0:m0 < ls.length:=by omega
       have hmi:m0 < cs[c].2.length:=by omega
       have hmg:(ls.getD l lf0).2.1.toNat=m0:=by rw [hg,hmx]; rfl
       have hk2:hasI cs c m0=cs[c].2[m0]:=by unfold hasI; rw [getD_at hlc,getD_at hmi]
       conv=>whnf
       refine ⟨_,getI_nat hlc,?_⟩
       conv=>whnf
       refine ⟨_,getI_nat hix,?_⟩
       conv=>whnf
       refine bcase_iff.2 ⟨fun g9_15=>?_,fun g9_15=>?_⟩
       · have g15:hasI cs c l > 0:=by rw [hk]; exact of_decide_eq_true g9_15
         conv=>whnf
         refine ⟨_,getI_nat hlc,?_⟩
         conv=>whnf
         refine ⟨_,getI_at2 hmx hmi,?_⟩
         conv=>whnf
         refine bcase_iff.2 ⟨fun g9_27=>?_,fun g9_27=>?_⟩
         · have g27:hasI cs c m0 > 0:=by rw [hk2]; exact of_decide_eq_true g9_27
           have hrl:∀ x,x < ls.length→∀ i,i < A.length→x < (A.getD i []).length:=fun x hx i hi=>by rw [(hR.2 i (by have:=hR.1; omega)).1]; exact hx
           have h120:=c120 gl A (by have:=hR.1; have:=hV.m4; omega) (c:Int) m0 (hrl m0 hm0)
           rw [←hmx] at h120
           have hctb:ctB ls cs A c l=(wheI A c l A.length != wheI A c m0 A.length):=by unfold ctB; rw [hmg,decide_eq_true g3,decide_eq_true g15,decide_eq_true g27]; rfl
           conv=>whnf
           refine byC (c120 gl A (by have:=hR.1; have:=hV.m4; omega) (c:Int) l (hrl l hll)) op120 ?_
           conv=>whnf
           refine byC h120 op120 ?_
           conv=>whnf
           refine bcase_iff.2 ⟨fun h9=>?_,fun h9=>?_⟩
           · have h9t:(wheI A c l A.length != wheI A c m0 A.length)=true:=h9
             have hm:ctR ls cs A c (l+1)=ctR ls cs A c l+1:=by simp only [ctR]; rw [hctb,if_pos h9t]
             conv=>whnf
             refine ⟨?_⟩
             conv=>whnf
             refine ⟨?_⟩
             conv=>whnf
             refine ⟨⟨230,[],[]⟩,?_⟩
             conv=>whnf
             rw [hwl,hwn]
             have hz:=hZ2 (l+1) hll (by omega)
             rw [hm,←Nat.add_assoc] at hz
             exact hz
           have h9t:(wheI A c l A.length != wheI A c m0 A.length)=false:=h9
           have hm:ctR ls cs A c (l+1)=ctR ls cs A c l:=by simp only [ctR]; rw [hctb,h9t]; rfl
           conv=>whnf
           refine ⟨?_⟩
           conv=>whnf
           refine ⟨⟨230,[],[]⟩,?_⟩
           conv=>whnf
           rw [hwl]
           have hz:=hZ2 (l+1) hll (by omega)
           rw [hm] at hz
           exact hz
         have g27:¬ hasI cs c m0 > 0:=by rw [hk2]; exact of_decide_eq_false g9_27
         have hb:ctB ls cs A c l=false:=by unfold ctB; rw [hmg,decide_eq_true g3,decide_eq_true g15,decide_eq_false g27]; rfl
         have hm:ctR ls cs A c (l+1)=ctR ls cs A c l:=by simp only [ctR]; rw [hb]; rfl
         conv=>whnf
         refine ⟨?_⟩
         conv=>whnf
         refine ⟨⟨230,[],[]⟩,?_⟩
         conv=>whnf
         rw [hwl]
         have hz:=hZ2 (l+1) hll (by omega)
         rw [hm] at hz
         exact hz
       have g15:¬ hasI cs c l > 0:=by rw [hk]; exact of_decide_eq_false g9_15
       have hb:ctB ls cs A c l=false:=by unfold ctB; rw [decide_eq_true g3,decide_eq_false g15]; rfl
       have hm:ctR ls cs A c (l+1)=ctR ls cs A c l:=by simp only [ctR]; rw [hb]; rfl
       conv=>whnf
       refine ⟨?_⟩
       conv=>whnf
       refine ⟨⟨230,[],[]⟩,?_⟩
       conv=>whnf
       rw [hwl]
       have hz:=hZ2 (l+1) hll (by omega)
       rw [hm] at hz
       exact hz
     have g3:¬ (ls.getD l lf0).2.1 > (l:Int):=by rw [hg]; exact of_decide_eq_false g9_3
     have hb:ctB ls cs A c l=false:=by unfold ctB; rw [decide_eq_false g3]; rfl
     have hm:ctR ls cs A c (l+1)=ctR ls cs A c l:=by simp only [ctR]; rw [hb]; rfl
     conv=>whnf
     refine ⟨?_⟩
     conv=>whnf
     refine ⟨⟨230,[],[]⟩,?_⟩
     conv=>whnf
     rw [hwl]
     have hz:=hZ2 (l+1) hll (by omega)
     rw [hm] at hz
     exact hz
   have hgl:l=ls.length:=by have:=of_decide_eq_false h6; omega
   conv=>whnf
   refine ⟨?_⟩
   conv=>whnf
   refine ⟨⟨102,[],[]⟩,?_⟩
   conv=>whnf
   rw [hwc,hgl]
   exact hZ1 (c+1) hlA (by omega)
 have hgc:c=A.length:=by have:=of_decide_eq_false h3; omega
 conv=>whnf
 refine ⟨?_⟩
 conv=>whnf
 rw [hgc,hR.1]
theorem op50:Opens PR 50:=⟨_,Tryd.func50,rfl,rfl⟩
end Go.Ab.MkF
namespace Go.Ab.MkF
open Go Go.Ab Go.Ab.Pln
theorem bitsL_mem {n c a:Nat} (hc:c≤64) (hn:n < 2 ^ c):a∈bitsL n↔n.testBit a=true:=by
 rw [bitsL_below hc hn,List.mem_filter,List.mem_range]
 refine ⟨fun h=>h.2,fun h=>⟨?_,h⟩⟩
 rcases Nat.lt_or_ge a c with h2 | h2
 · exact h2
 rw [Nat.testBit_lt_two_pow (Nat.lt_of_lt_of_le hn (Nat.pow_le_pow_right (by omega) h2))] at h; cases h
theorem less_test (a b k:Nat):(less a b).testBit k=(a.testBit k&&!b.testBit k):=by
 unfold less
 rw [Nat.testBit_xor,Nat.testBit_and]
 cases a.testBit k <;> cases b.testBit k <;> rfl
def Acc (hs:List Sn) (s:Nat):Prop:=∀ a b,a < b→b < hs.length→s.testBit a=false→s.testBit b=false→pairH hs a b=true
abbrev leastH (hs:List Sn):Nat:=(fewH hs (2 ^ hs.length)).1
end Go.Ab.MkF
namespace Go.Ab.MkF
open Go Go.Ab Go.Ab.Pln
def okJ (hs:List Sn) (L:List Int) (j:Nat):Bool:=(List.range L.length).all fun a=>!(L.getD a 0==(j:Int))||pairH hs a L.length
def allC (hs:List Sn):Nat→Nat→List Int→List (Nat×List Int)
 | 0,t,L=>[(t,L)]
 | k+1,t,L=>(List.range (t+1)).flatMap fun j=>if okJ hs L j then allC hs k (max t (j+1)) (L++[(j:Int)]) else []
def updS (s:Int×List Int) (q:Nat×List Int):Int×List Int:=if (q.1:Int)≥s.1 then s else ((q.1:Int),q.2)
structure Lk (hs:List Sn) (T:List Nat) (L:List Int):Prop where
 ok:SrcOk L.length T
 val:∀ a,a < L.length→∃ j:Nat,j < T.length∧L.getD a 0=(j:Int)
 bit:∀ j,j < T.length→∀ a,(T.getD j 0).testBit a=true↔a < L.length∧L.getD a 0=(j:Int)
 can:∀ a b,a < b→b < L.length→L.getD a 0=L.getD b 0→pairH hs a b=true
theorem Lk.nil (hs:List Sn):Lk hs [] []:=⟨⟨Nat.le_refl _,fun x h=>absurd h (by simp)⟩,fun a h=>absurd h (Nat.not_lt_zero _),fun j h=>absurd h (Nat.not_lt_zero _),fun a b _ h=>absurd h (Nat.not_lt_zero _)⟩
theorem getD_app_lt {α:Type} {l:List α} {x d:α} {i:Nat} (h:i < l.length):(l++[x]).getD i d=l.getD i d:=by
 rw [getD_at (by simp; omega),getD_at h,List.getElem_append_left h]
theorem getD_app_at {α:Type} {l:List α} {x d:α}:(l++[x]).getD l.length d=x:=by
 rw [getD_at (by simp)]; simp
theorem getD_app {α:Type} {l:List α} {x d:α} {i:Nat} (h:i < l.length+1):(i < l.length∧(l++[x]).getD i d=l.getD i d)∨i=l.length∧(l++[x]).getD i d=x:=by
 rcases Nat.lt_or_eq_of_le (Nat.le_of_lt_succ h) with h | rfl
 · exact .inl ⟨h,getD_app_lt h⟩
 exact .inr ⟨rfl,getD_app_at⟩
theorem Lk.joinBit {hs:List Sn} {T:List Nat} {L:List Int} (h:Lk hs T L) {j:Nat} (hj:j≤T.length) (a:Nat):((sjoin T j (2 ^ L.length)).getD j 0).testBit a=true↔(a < L.length∧L.getD a 0=(j:Int))∨a=L.length:=by
 rcases Nat.lt_or_eq_of_le hj with hlt | rfl
 · rw [sjoin_lt hlt,getD_at (by simpa using hlt),List.getElem_set_self,Nat.testBit_or,Nat.testBit_two_pow,Bool.or_eq_true,←getD_at (d:=0) hlt,h.bit j hlt a,decide_eq_true_eq]
   exact ⟨fun h=>h.imp id Eq.symm,fun h=>h.imp id Eq.symm⟩
 rw [sjoin_ge,getD_app_at,Nat.testBit_two_pow,decide_eq_true_eq]
 constructor
 · exact fun h=>.inr h.symm
 rintro (⟨h1,h2⟩ | h1)
 · obtain ⟨q,hq,h3⟩:=h.val a h1
   omega
 exact h1.symm
theorem Lk.okJ {hs:List Sn} {L:List Int} {j:Nat}:okJ hs L j=true↔∀ a,a < L.length→L.getD a 0=(j:Int)→pairH hs a L.length=true:=by
 unfold Go.Ab.MkF.okJ
 rw [List.all_eq_true]
 constructor
 · intro h a ha he
   have:=h a (List.mem_range.2 ha)
   rw [he] at this
   simpa using this
 intro h a ha
 have ha:=List.mem_range.1 ha
 by_cases he:L.getD a 0=(j:Int)
 · rw [h a ha he]; simp
 rw [show (L.getD a 0==(j:Int))=false from by simpa using he]; rfl
theorem Lk.join {hs:List Sn} {T:List Nat} {L:List Int} (h:Lk hs T L) {j:Nat} (hj:j≤T.length) (ho:Go.Ab.MkF.okJ hs L j=true):Lk hs (sjoin T j (2 ^ L.length)) (L++[(j:Int)]):=by
 have hlen:(L++[(j:Int)]).length=L.length+1:=by simp
 have hT:(sjoin T j (2 ^ L.length)).length=max T.length (j+1):=by
  rcases Nat.lt_or_eq_of_le hj with hlt | rfl
  · rw [sjoin_lt hlt,List.length_set]; omega
  rw [sjoin_ge,List.length_append]; simp
 refine ⟨by rw [hlen]; exact h.ok.join hj,fun a ha=>?_,fun q hq a=>?_,fun a b hab hb he=>?_⟩
 · rw [hT]
   rw [hlen] at ha
   rcases getD_app (x:=(j:Int)) (d:=0) ha with ⟨h1,h2⟩ | ⟨_,h2⟩
   · obtain ⟨q,hq,h3⟩:=h.val a h1
     exact ⟨q,by omega,by rw [h2,h3]⟩
   exact ⟨j,by omega,h2⟩
 · rw [hlen]
   by_cases hjq:q=j
   · subst hjq
     rw [h.joinBit hj a]
     constructor
     · rintro (⟨h1,h2⟩ | rfl)
       · exact ⟨by omega,by rw [getD_app_lt h1]; exact h2⟩
       exact ⟨by omega,getD_app_at⟩
     rintro ⟨h1,h2⟩
     rcases getD_app (x:=(q:Int)) (d:=0) h1 with ⟨h3,h4⟩ | ⟨h3,_⟩
     · exact .inl ⟨h3,by rw [←h4]; exact h2⟩
     exact .inr h3
   rw [hT] at hq
   have hql:q < T.length:=by omega
   have hg:(sjoin T j (2 ^ L.length)).getD q 0=T.getD q 0:=by
    rcases Nat.lt_or_eq_of_le hj with hlt | rfl
    · rw [sjoin_lt hlt,getD_at (by simpa using hql),List.getElem_set_ne (Ne.symm hjq),getD_at hql]
    rw [sjoin_ge,getD_app_lt hql]
   rw [hg,h.bit q hql a]
   constructor
   · rintro ⟨h1,h2⟩
     exact ⟨by omega,by rw [getD_app_lt h1]; exact h2⟩
   rintro ⟨h1,h2⟩
   rcases getD_app (x:=(j:Int)) (d:=0) h1 with ⟨h3,h4⟩ | ⟨_,h4⟩
   · exact ⟨h3,by rw [←h4]; exact h2⟩
   rw [h4] at h2; omega
 rw [hlen] at hb
 rw [getD_app_lt (by omega)] at he
 rcases getD_app (x:=(j:Int)) (d:=0) hb with ⟨h3,h4⟩ | ⟨h3,h4⟩
 · exact h.can a b hab h3 (by rw [←h4]; exact he)
 subst h3
 exact Lk.okJ.1 ho a hab (by rw [he,h4])
abbrev cols (hs:List Sn):List (Nat×List Int):=allC hs hs.length 0 []
structure Col (hs:List Sn) (m:Nat) (f:Nat→Nat):Prop where
 lt:∀ a,a < hs.length→f a < m
 can:∀ a b,a < b→b < hs.length→f a=f b→pairH hs a b=true
end Go.Ab.MkF
namespace Go.Ab.MkF
open Go Go.Ab Go.Ab.Pln
theorem bits_range {n c:Nat} (hc:c≤64) (hn:n < 2 ^ c) {a:Nat} (h:a∈bitsL n):a < c:=by
 rw [bitsL_below hc hn] at h
 exact List.mem_range.1 (List.mem_filter.1 h).1
theorem has_bits {X c k:Nat} (hc:c≤64) (hX:X < 2 ^ c):((natsV (bitsL X)).any fun x=>x==(k:Int))=X.testBit k:=by
 rw [Bool.eq_iff_iff,←bitsL_mem hc hX,List.any_eq_true]
 constructor
 · rintro ⟨x,hx,he⟩
   obtain ⟨a,ha,rfl⟩:=List.mem_map.1 hx
   have:a=k:=by have:=eq_of_beq he; omega
   exact this ▸ ha
 exact fun h=>⟨(k:Int),List.mem_map.2 ⟨k,h,rfl⟩,by simp⟩
theorem restU_test (n:Nat) (l:List Nat) (k:Nat):∀ i,i≤l.length→(restU n (natsV l) i).testBit k=(decide (k < n)&&!(l.take i).contains k)
 | 0,_=>by
  show (2 ^ n - 1).testBit k=_
  rw [Nat.testBit_two_pow_sub_one]; simp
 | i+1,h=>by
  rw [restU_succ (by rw [List.length_map]; omega),less_test,restU_test n l k i (by omega),take_succ' (by omega:i < l.length)]
  simp only [List.getElem_map,Int.toNat_natCast,Nat.testBit_two_pow]
  rw [Bool.eq_iff_iff]
  simp only [Bool.and_eq_true,Bool.not_eq_true',decide_eq_true_eq,decide_eq_false_iff_not,List.contains_eq_mem,List.mem_append,List.mem_singleton,not_or]
  constructor
  · rintro ⟨⟨h1,h2⟩,h3⟩; exact ⟨h1,h2,fun e=>h3 e.symm⟩
  rintro ⟨h1,h2,h3⟩; exact ⟨⟨h1,h2⟩,fun e=>h3 e.symm⟩
abbrev mustH (hs:List Sn):Nat:=allU hs.length (setsH hs) (setsH hs).length
abbrev mayH (hs:List Sn):Nat:=someU (setsH hs) (setsH hs).length
def someL (b n:Nat):List Nat:=(List.range n).filter b.testBit
end Go.Ab.MkF
namespace Go.Ab.MkF
open Go Go.Ab Go.Ab.Pln
theorem pairX_iff {x y:Sn}:pairX x y=true↔(x.1=y.1∨x.1 * y.1=0)∧x.2.1≤y.2.2∧y.2.1≤x.2.2:=by
 unfold pairX
 simp [and_assoc]
structure Blur (x y:Sn):Prop where
 kind:y.1=x.1∨y.1=0
 lo:y.2.1≤x.2.1
 hi:x.2.2≤y.2.2
theorem Blur.pair {x y z:Sn} (h:Blur x y) (hp:pairX x z=true):pairX y z=true:=by
 rw [pairX_iff] at hp ⊢
 obtain ⟨h1,h2,h3⟩:=hp
 have:=h.lo
 have:=h.hi
 refine ⟨?_,by omega,by omega⟩
 rcases h.kind with e | e
 · rw [e]; exact h1
 rw [e]; simp
def blurV (x:Sn) (a b:Int):Sn:=(if a > b then 0 else x.1,max 1 (x.2.1 - a),min 600 (x.2.2+b))
end Go.Ab.MkF
namespace Go.Ab.MkF
open Go Go.Ab Go.Ab.Pln
def comS (hs:List Sn) (s:Int×Int×Int) (x:Nat):Int×Int×Int:=(max s.1 (hs.getD x sn0).1,max s.2.1 (hs.getD x sn0).2.1,min s.2.2 (hs.getD x sn0).2.2)
def comU (hs:List Sn) (l:List Nat) (i:Nat):Int×Int×Int:=(l.take i).foldl (comS hs) (0,1,600)
def offB (hs:List Sn) (s:Int×Int×Int) (x:Nat):Bool:=decide ((hs.getD x sn0).1 > 0)&&decide (s.1 > 0)&&((hs.getD x sn0).1 != s.1)
def offU (hs:List Sn) (l:List Nat) (i:Nat):Bool:=(List.range i).any fun k=>offB hs (comU hs l k) (l.getD k 0)
def comV (hs:List Sn) (l:List Nat):Int×Int:=if offU hs l l.length=true then (1,0) else (comU hs l l.length).2
def kinB (a b:Int):Bool:=a==b||a * b==0
def oneB (hs:List Sn) (l:List Nat):Bool:=decide ((comV hs l).1≤(comV hs l).2)
end Go.Ab.MkF
namespace Go.Ab.MkF
open Go Go.Ab Go.Ab.Pln
def restL (n:Nat) (told:List Int):List Nat:=(List.range n).filter fun k=>!(told.any fun x=>x==(k:Int))
def tolK (e:Int) (n:Nat) (told:List Int) (i:Nat):Int:=if e≠0 then e else if (told.take i).any (outB 0 ((n:Int) - 1)) then 4 else 0
def ascK (e:Int) (told:List Int) (i:Nat):Int:=if e≠0 then e else if ((List.range i).all fun j=>!ascB told j) then 0 else 2
abbrev tolE (hs:List Sn) (told:List Int):Int:=tolK (chHE hs) hs.length told told.length
structure Told (hs:List Sn) (told:List Int) (l:List Nat):Prop where
 V:ValidH hs
 eq:told=natsV l
 lt:∀ x∈l,x < hs.length
 asc:l.Pairwise (· < ·)
theorem Told.nodup {hs:List Sn} {told:List Int} {l:List Nat} (h:Told hs told l):l.Nodup:=h.asc.imp fun hab=>by omega
theorem any_nats (l:List Nat) (k:Nat):((natsV l).any fun x=>x==(k:Int))=l.contains k:=by
 rw [Bool.eq_iff_iff,List.any_eq_true,List.contains_iff_mem]
 constructor
 · rintro ⟨x,hx,he⟩
   obtain ⟨a,ha,rfl⟩:=List.mem_map.1 hx
   have:a=k:=by have:=eq_of_beq he; omega
   exact this ▸ ha
 exact fun h=>⟨(k:Int),List.mem_map.2 ⟨k,h,rfl⟩,by simp⟩
theorem Told.rest {hs:List Sn} {told:List Int} {l:List Nat} (h:Told hs told l):restL hs.length told=bitsL (restN hs told):=by
 have h8:=h.V.n8
 rw [bitsL_below (c:=hs.length) (by omega) (restN_lt hs told)]
 unfold restL
 apply List.filter_congr
 intro k hk
 rw [h.eq,any_nats]
 unfold restN
 rw [List.length_map,restU_test _ _ _ _ (Nat.le_refl _),List.take_length,decide_eq_true (List.mem_range.1 hk),Bool.true_and]
theorem Told.len {hs:List Sn} {told:List Int} {l:List Nat} (h:Told hs told l):told.length≤hs.length:=by
 rw [h.eq,List.length_map]
 have:=List.Nodup.length_le_of_subset (l₂:=List.range hs.length) h.nodup fun x hx=>List.mem_range.2 (h.lt x hx)
 simpa using this
theorem Told.all {hs:List Sn} {told:List Int} {l:List Nat} (h:Told hs told l):told.length=hs.length↔restL hs.length told=[]:=by
 have hll:told.length=l.length:=by rw [h.eq,List.length_map]
 constructor
 · intro he
   unfold restL
   rw [List.filter_eq_nil_iff]
   intro k hk hn
   rw [h.eq,any_nats] at hn
   have hk:=List.mem_range.1 hk
   have hnk:k ∉ l:=fun hm=>by rw [List.contains_iff_mem.2 hm] at hn; cases hn
   have:=List.Nodup.length_le_of_subset (l₁:=k :: l) (l₂:=List.range hs.length) (List.nodup_cons.2 ⟨hnk,h.nodup⟩) fun x hx=>by
    rcases List.mem_cons.1 hx with rfl | hx
    · exact List.mem_range.2 hk
    exact List.mem_range.2 (h.lt x hx)
   simp at this
   omega
 intro he
 have hle:=h.len
 have:=List.Nodup.length_le_of_subset (l₁:=List.range hs.length) (l₂:=l) List.nodup_range fun x hx=>by
  unfold restL at he
  rw [List.filter_eq_nil_iff] at he
  have:=he x hx
  rw [h.eq,any_nats] at this
  simpa using this
 simp at this
 omega
end Go.Ab.MkF
namespace Go.Ab.MkF
open Go Go.Ab Go.Ab.Pln
def refS (hs:List Sn) (most:Nat):Nat→Nat→List Int→Option (List Int)
 | 0,_,L=>some L
 | k+1,t,L=>(List.range (min most (t+1))).findSome? fun j=>if okJ hs L j then refS hs most k (max t (j+1)) (L++[(j:Int)]) else none
def manyN (L:List Int) (i:Nat):Nat:=((List.range i).filter fun k=>!((L.take k).any fun x=>x==L.getD k 0)).length
theorem manyN_succ (L:List Int) (i:Nat):manyN L (i+1)=manyN L i+if ((L.take i).any fun x=>x==L.getD i 0)=true then 0 else 1:=by
 unfold manyN
 rw [List.range_succ,List.filter_append,List.length_append,List.filter_cons,List.filter_nil]
 cases (L.take i).any fun x=>x==L.getD i 0 <;> rfl
theorem manyN_app (L:List Int) (x:Int):∀ i,i≤L.length→manyN (L++[x]) i=manyN L i
 | 0,_=>rfl
 | i+1,h=>by
  rw [manyN_succ,manyN_succ,manyN_app L x i (by omega),List.take_append_of_le_length (by omega),getD_app_lt (by omega)]
structure Rg (hs:List Sn) (t:Nat) (L:List Int):Prop where
 val:∀ a,a < L.length→∃ j:Nat,j < t∧L.getD a 0=(j:Int)
 onto:∀ j,j < t→∃ a,a < L.length∧L.getD a 0=(j:Int)
 can:∀ a b,a < b→b < L.length→L.getD a 0=L.getD b 0→pairH hs a b=true
 many:manyN L L.length=t
 le:t≤L.length
theorem Rg.nil (hs:List Sn):Rg hs 0 []:=⟨fun _ h=>absurd h (Nat.not_lt_zero _),fun _ h=>absurd h (Nat.not_lt_zero _),fun _ _ _ h=>absurd h (Nat.not_lt_zero _),rfl,Nat.le_refl _⟩
theorem Rg.add {hs:List Sn} {t:Nat} {L:List Int} (h:Rg hs t L) {j:Nat} (hj:j≤t) (ho:okJ hs L j=true):Rg hs (max t (j+1)) (L++[(j:Int)]):=by
 have hlen:(L++[(j:Int)]).length=L.length+1:=by simp
 refine ⟨fun a ha=>?_,fun q hq=>?_,fun a b hab hb he=>?_,?_,by rw [hlen]; have:=h.le; omega⟩
 · rw [hlen] at ha
   rcases getD_app (x:=(j:Int)) (d:=0) ha with ⟨h1,h2⟩ | ⟨_,h2⟩
   · obtain ⟨q,hq,h3⟩:=h.val a h1
     exact ⟨q,by omega,by rw [h2,h3]⟩
   exact ⟨j,by omega,h2⟩
 · rw [hlen]
   rcases Nat.lt_or_ge q t with h1 | h1
   · obtain ⟨a,ha,h2⟩:=h.onto q h1
     exact ⟨a,by omega,by rw [getD_app_lt ha,h2]⟩
   exact ⟨L.length,by omega,by rw [getD_app_at]; omega⟩
 · rw [hlen] at hb
   rw [getD_app_lt (by omega)] at he
   rcases getD_app (x:=(j:Int)) (d:=0) hb with ⟨h3,h4⟩ | ⟨h3,h4⟩
   · exact h.can a b hab h3 (by rw [←h4]; exact he)
   subst h3
   exact Lk.okJ.1 ho a hab (by rw [he,h4])
 rw [hlen,manyN_succ,manyN_app L _ _ (Nat.le_refl _),h.many,getD_app_at,List.take_append_of_le_length (Nat.le_refl _),List.take_length]
 have hany:(L.any fun x=>x==(j:Int))=decide (j < t):=by
  rw [Bool.eq_iff_iff,List.any_eq_true,decide_eq_true_eq]
  constructor
  · rintro ⟨x,hx,he⟩
    obtain ⟨a,ha,rfl⟩:=List.getElem_of_mem hx
    obtain ⟨q,hq,h3⟩:=h.val a ha
    rw [getD_at ha] at h3
    have:=eq_of_beq he
    omega
  intro hlt
  obtain ⟨a,ha,h3⟩:=h.onto j hlt
  rw [getD_at ha] at h3
  exact ⟨_,List.getElem_mem ha,by rw [h3]; simp⟩
 rw [hany]
 by_cases hlt:j < t
 · rw [if_pos (decide_eq_true hlt)]; omega
 rw [if_neg (by simpa using hlt)]; omega
def clsL (L:List Int) (n i:Nat):List Nat:=(List.range i).filter fun k=>L.getD k 0==(n:Int)
def splB (hs:List Sn) (L:List Int) (i:Nat):Bool:=(List.range i).all fun n=>oneB hs (clsL L n L.length)
end Go.Ab.MkF
namespace Go.Ab.MkF
open Go Go.Ab Go.Ab.Pln
def turnN (l:List Int) (n:Nat):Nat:=if l.length=0 then 0 else (l.getD (n % l.length) 0).toNat
structure Bytes (l:List Int):Prop where
 n:l.length≤9223372036854775807
 b:∀ y∈l,0≤y∧y≤255
def truL (fr:List Int) (m:Nat):List Nat:=(List.range m).map fun i=>turnN fr i % 3
def tallN (tl:List Int) (f:Nat):Nat:=150+turnN tl f
def leafT (tl kd se:List Int) (F:List Nat) (i:Nat):Sn :=
 (if turnN se i % 5=4 then 0 else ((1+turnN kd (F.getD i 0) % 2:Nat):Int),(tallN tl (F.getD i 0):Int) - ((turnN se (2 * i) % 6:Nat):Int),(tallN tl (F.getD i 0):Int)+((turnN se (2 * i+1) % 6:Nat):Int))
def handT (tl kd se:List Int) (F:List Nat) (i:Nat):List Sn:=(List.range i).map (leafT tl kd se F)
section
variable {tl kd se:List Int} (ht:Bytes tl) (F:List Nat)
include ht
end
def notL (F:List Nat) (own i:Nat):List Nat:=(List.range i).filter fun k=>F.getD k 0 != own
end Go.Ab.MkF
namespace Go.Ab.MkF
open Go Go.Ab Go.Ab.Pln
def fewL (hs:List Sn) (m:Nat):List (List Nat):=(listsL 0 hs.length m).filter fun l=>accB hs (bitsO l)
abbrev fewR (hs:List Sn):List (List Nat):=fewL hs (leastH hs)
def mustL (hs:List Sn) (i:Nat):List Nat:=(List.range i).filter fun k=>(fewR hs).all fun l=>l.contains k
def mayL (hs:List Sn) (i:Nat):List Nat:=(List.range i).filter fun k=>(fewR hs).any fun l=>l.contains k
end Go.Ab.MkF
namespace Go.Ab.MkF
open Go Go.Ab Go.Ab.Pln Go.Proofs
set_option maxHeartbeats 1000000
set_option maxRecDepth 100000
structure SetL (n X:Nat) (L:List Int):Prop where
 lt:X < 2 ^ n
 n8:n≤8
 eq:L=natsV (bitsL X)
theorem SetL.len {n X:Nat} {L:List Int} (h:SetL n X L):L.length=(bitsL X).length:=by rw [h.eq,List.length_map]
theorem SetL.get {n X i:Nat} {L:List Int} (h:SetL n X L) (hi:i < L.length):∃ k:Nat,getI L (i:Int)=some (k:Int)∧X.testBit k=true∧k < n:=by
 obtain ⟨h1,h2,rfl⟩:=h
 rw [List.length_map] at hi
 have hm:=List.getElem_mem hi
 exact ⟨(bitsL X)[i],getI_nats hi,(bitsL_mem (by omega) h1).1 hm,bits_range (by omega) h1 hm⟩
theorem SetL.has {n X:Nat} {L:List Int} (h:SetL n X L) (k:Nat):(L.any fun x=>x==(k:Int))=X.testBit k:=by rw [h.eq]; exact has_bits (c:=n) (by have:=h.n8; omega) h.lt
end Go.Ab.MkF
namespace Go.Ab.MkF
open Go Go.Ab Go.Ab.Pln Go.Proofs
set_option maxHeartbeats 1000000
set_option maxRecDepth 100000
end Go.Ab.MkF
namespace Go.Ab.MkF
open Go Go.Ab Go.Ab.Pln Go.Proofs
set_option maxHeartbeats 1000000
set_option maxRecDepth 100000
noncomputable abbrev parX (gl:Gl):Par S Unit:={ par gl with hd:=true,nx:=true }
def optV:Option (List Int)→AV S
 | none=>.nil0
 | some l=>vL l
def stepR (hs:List Sn) (most k t:Nat) (L:List Int) (j:Nat):Option (List Int):=if okJ hs L j then refS hs most k (max t (j+1)) (L++[(j:Int)]) else none
end Go.Ab.MkF
namespace Go.Ab.MkF
open Go Go.Ab Go.Ab.Pln Go.Proofs
set_option maxHeartbeats 1000000
set_option maxRecDepth 100000
theorem bytes_nat {l:List Int} (h:Bytes l) {m:Nat} (hm:m < l.length):IntKind.i64.wrap l[m]=((l[m].toNat:Nat):Int):=by
 have:=h.b _ (List.getElem_mem hm)
 rw [wrap_int (by omega) (by omega)]; omega
theorem c55 (gl:Gl) (l:List Int) (hB:Bytes l) (n:Nat):PCalls PR gl 55 [.sl (S:=S) U.u8 l none,vI n] fun r=>r=vI ((turnN l n:Nat):Int):=by
 refine fnW_sound (parH_ok gl) Tryd.func55 ?_
 conv=>whnf
 refine ⟨?_⟩
 conv=>whnf
 refine ⟨?_⟩
 conv=>whnf
 refine bcase_iff.2 ⟨fun h1=>?_,fun h1=>?_⟩
 · have h1:l.length=0:=by have h:((l.length:Int)==0)=true:=h1; have:=eq_of_beq h; omega
   conv=>whnf
   refine ⟨?_⟩
   conv=>whnf
   unfold turnN
   rw [if_pos h1]
   rfl
 have h1:l.length≠0:=fun e=>by have h:((l.length:Int)==0)=false:=h1; rw [e] at h; cases h
 have hm:n % l.length < l.length:=Nat.mod_lt _ (by omega)
 conv=>whnf
 refine ⟨?_⟩
 conv=>whnf
 refine ⟨by omega,?_⟩
 conv=>whnf
 rw [show Int.tmod (n:Int) (l.length:Int)=((n % l.length:Nat):Int) from rfl]
 conv=>whnf
 refine ⟨_,getI_nat hm,?_⟩
 conv=>whnf
 unfold turnN
 rw [if_neg h1,getD_at hm,bytes_nat hB hm]
theorem op55:Opens PR 55:=⟨_,Tryd.func55,rfl,rfl⟩
end Go.Ab.MkF
namespace Go.Ab.MkF
open Go Go.Ab Go.Ab.Pln Go.Proofs
set_option maxHeartbeats 1000000
set_option maxRecDepth 100000
def freeP (cs:List Cp) (A:Tb) (l:Nat):Nat→List Int
 | 0=>[-1]
 | d+1=>if hasI cs d l > 0∧wheI A (d:Int) l A.length=-1 then freeP cs A l d++[(d:Int)] else freeP cs A l d
def pickP (xs:List Int) (n c l:Nat) (F:List Int):Int:=F.getD (turnN xs (c * n+l) % F.length) (-1)
def rowP (xs:List Int) (cs:List Cp) (n:Nat) (A:Tb) (c l:Nat):Int:=pickP xs n c l (freeP cs A l cs.length)
def planP (xs:List Int) (cs:List Cp) (n:Nat):Nat→Tb
 | 0=>[]
 | c+1=>planP xs cs n c++[(List.range n).map (rowP xs cs n (planP xs cs n c) c)]
theorem wr9 {c n l:Nat} (hc:c≤4) (hn:n≤6) (hl:l≤6):IntKind.i64.wrap (IntKind.i64.wrap ((c:Int) * (n:Int))+(l:Int))=((c * n+l:Nat):Int):=by
 have h:=Nat.mul_le_mul hc hn
 have e:(c:Int) * (n:Int)=((c * n:Nat):Int):=(Int.natCast_mul ..).symm
 rw [e,show IntKind.i64.wrap ((c * n:Nat):Int)=((c * n:Nat):Int) from wrap_int (by omega) (by omega),wrap_int (by omega) (by omega)]; rfl
theorem free_yes {cs:List Cp} {A:Tb} {l d:Nat} (h:hasI cs d l > 0∧wheI A (d:Int) l A.length=-1):freeP cs A l (d+1)=freeP cs A l d++[(d:Int)]:=by show ite _ _ _=_; rw [if_pos h]
theorem free_no {cs:List Cp} {A:Tb} {l d:Nat} (h:¬ (hasI cs d l > 0∧wheI A (d:Int) l A.length=-1)):freeP cs A l (d+1)=freeP cs A l d:=by show ite _ _ _=_; rw [if_neg h]
theorem free_len (cs:List Cp) (A:Tb) (l:Nat):∀ d,1≤(freeP cs A l d).length∧(freeP cs A l d).length≤d+1
 | 0=>⟨Nat.le_refl _,Nat.le_refl _⟩
 | d+1=>by
  have:=free_len cs A l d
  unfold freeP
  split
  · rw [List.length_append]; simp; omega
  omega
theorem free_mem' {cs:List Cp} {A:Tb} {l:Nat} {v:Int}:∀ {d:Nat},v∈freeP cs A l d→v=-1∨∃ e:Nat,e < d∧v=(e:Int)∧hasI cs e l > 0∧wheI A (e:Int) l A.length=-1
 | 0,h=>.inl (List.mem_singleton.1 h)
 | d+1,h=>by
  unfold freeP at h
  have old:v∈freeP cs A l d→v=-1∨∃ e:Nat,e < d+1∧v=(e:Int)∧hasI cs e l > 0∧wheI A (e:Int) l A.length=-1:=fun h=>by
   rcases free_mem' h with h | ⟨e,h1,h2⟩
   · exact .inl h
   exact .inr ⟨e,by omega,h2⟩
  split at h
  · rename_i g
    rcases List.mem_append.1 h with h | h
    · exact old h
    exact .inr ⟨d,by omega,List.mem_singleton.1 h,g⟩
  exact old h
theorem pick_mem (xs:List Int) (n c l:Nat) {F:List Int} (h:1≤F.length):pickP xs n c l F∈F:=by
 unfold pickP
 have hm:turnN xs (c * n+l) % F.length < F.length:=Nat.mod_lt _ (by omega)
 rw [getD_at hm]
 exact List.getElem_mem hm
theorem plan_len (xs:List Int) (cs:List Cp) (n:Nat):∀ c,(planP xs cs n c).length=c
 | 0=>rfl
 | c+1=>by rw [planP,List.length_append,plan_len xs cs n c]; rfl
theorem plan_row {xs:List Int} {cs:List Cp} {n i:Nat}:∀ {c:Nat},i < c→(planP xs cs n c).getD i []=(List.range n).map (rowP xs cs n (planP xs cs n i) i)
 | c+1,h=>by
  rw [planP,List.getD_eq_getElem?_getD]
  rcases Nat.lt_succ_iff_lt_or_eq.1 h with g | g
  · rw [List.getElem?_append_left (by rw [plan_len]; exact g),←List.getD_eq_getElem?_getD]; exact plan_row g
  rw [List.getElem?_append_right (by rw [plan_len]; omega),plan_len,g,Nat.sub_self]; rfl
theorem plan_get {xs:List Int} {cs:List Cp} {n i l c:Nat} (h:i < c) (hl:l < n):get2 (planP xs cs n c) i l=rowP xs cs n (planP xs cs n i) i l:=by
 unfold get2
 rw [plan_row h,getD_at (by rw [List.length_map,List.length_range]; exact hl),List.getElem_map,List.getElem_range]
theorem whe_neg {A:Tb} {c:Int} {l:Nat}:∀ {i:Nat},wheI A c l i=-1→∀ j,j < i→get2 A j l≠c
 | i+1,h,j,hj=>by
  unfold wheI at h
  by_cases g:wheI A c l i=-1
  · rw [if_pos g] at h
    rcases Nat.lt_succ_iff_lt_or_eq.1 hj with e | e
    · exact whe_neg g j e
    intro q; rw [e] at q; rw [if_pos q] at h; omega
  rw [if_neg g] at h; exact absurd h g
theorem plan_right (xs:List Int) (ls:List Lf) (cs:List Cp):RightR ls cs (planP xs cs ls.length cs.length):=by
 refine ⟨plan_len ..,fun c hc=>⟨by rw [plan_row hc,List.length_map,List.length_range],fun l hl=>?_⟩⟩
 unfold EntR
 rw [plan_get hc hl]
 rcases free_mem' (pick_mem xs ls.length c l (free_len cs (planP xs cs ls.length c) l cs.length).1) with h | ⟨e,h1,h2,h3,h4⟩
 · exact .inl h
 refine .inr ?_
 unfold rowP
 rw [h2]
 refine ⟨by omega,by omega,by rw [Int.toNat_natCast]; omega,fun d hd=>?_⟩
 rw [plan_len] at h4
 have:=whe_neg h4 d hd
 rw [plan_get hd hl] at this
 rw [plan_get (by omega) hl]; exact this
theorem c51 (gl:Gl) (p:Int) (ls:List Lf) (cs:List Cp) (hV:Valid p ls cs) (xs:List Int) (hB:Bytes xs):PCalls PR gl 51 [.agg [vI p,lfsV ls,cpsV cs],.sl (S:=S) U.u8 xs none] fun r=>r=intsV (planP xs cs ls.length cs.length):=by
 have hm4:=hV.m4
 have hn6:=hV.n6
 refine fnW_sound (parH_ok gl) Tryd.func51 ?_
 conv=>whnf
 refine ⟨?_⟩
 conv=>whnf
 refine ⟨?_⟩
 conv=>whnf
 refine ⟨?_⟩
 conv=>whnf
 refine loop_q fun Q1 hQ1=>?_
 refine ⟨⟨102,[4],[4,5]⟩,?_⟩
 refine LoopW_ind _ (fun c:Nat=>(({ tmps:=[υ,.sl (S:=S) U.u8 xs none,.own 2 [],υ,υ,.sl (S:=S) U.ints (planP xs cs ls.length c) (some 5),vI c,υ,υ,υ,υ,υ,υ,υ,υ,υ,υ,υ,υ,υ,υ,υ,υ,υ,υ,υ,υ,υ,υ,υ,υ,υ,υ,υ,υ,υ,υ,υ,υ,υ,υ,υ,υ,υ,υ,υ,υ,υ,υ,υ,υ,υ,υ,υ,υ,υ,υ,υ,υ,υ,υ,υ,υ,υ,υ,υ,υ,υ,υ,υ,υ,υ,υ,υ,υ,υ,υ],seg:=[(2,.cells [vI p,lfsV ls,cpsV cs]),(5,.row U.ints false)],up:=[] }:St S))) (fun c:Nat=>(c≤cs.length)) (fun c:Nat=>(cs.length - c)) () ?_ 0 (Nat.zero_le _)
 intro c hc Z1 hZ1
 conv=>whnf
 refine ⟨?_⟩
 conv=>whnf
 refine bcase_iff.2 ⟨fun h3=>?_,fun h3=>?_⟩
 · have hlc:c < cs.length:=by have:=of_decide_eq_true h3; omega
   have hwc:IntKind.i64.wrap ((c:Int)+1)=((c+1:Nat):Int):=wrap_nat (by omega)
   conv=>whnf
   refine ⟨?_⟩
   conv=>whnf
   refine ⟨?_⟩
   conv=>whnf
   refine loop_q fun Q2 hQ2=>?_
   refine ⟨⟨486,[],[7]⟩,?_⟩
   refine LoopW_ind _ (fun l:Nat=>(({ tmps:=[υ,.sl (S:=S) U.u8 xs none,.own 2 [],υ,υ,.sl (S:=S) U.ints (planP xs cs ls.length c) (some 5),vI c,.sl (S:=S) U.int ((List.range l).map (rowP xs cs ls.length (planP xs cs ls.length c) c)) (some 7),vI l,υ,υ,υ,υ,υ,υ,υ,υ,υ,υ,υ,υ,υ,υ,υ,υ,υ,υ,υ,υ,υ,υ,υ,υ,υ,υ,υ,υ,υ,υ,υ,υ,υ,υ,υ,υ,υ,υ,υ,υ,υ,υ,υ,υ,υ,υ,υ,υ,υ,υ,υ,υ,υ,υ,υ,υ,υ,υ,υ,υ,υ,υ,υ,υ,υ,υ,υ,υ],seg:=[(2,.cells [vI p,lfsV ls,cpsV cs]),(5,.row U.ints false),(7,.row U.int false)],up:=[] }:St S))) (fun l:Nat=>(l≤ls.length)) (fun l:Nat=>(ls.length - l)) () ?_ 0 (Nat.zero_le _)
   intro l hl Z2 hZ2
   conv=>whnf
   refine ⟨?_⟩
   conv=>whnf
   refine bcase_iff.2 ⟨fun h7=>?_,fun h7=>?_⟩
   · have hll:l < ls.length:=by have:=of_decide_eq_true h7; omega
     have hwl:IntKind.i64.wrap ((l:Int)+1)=((l+1:Nat):Int):=wrap_nat (by omega)
     conv=>whnf
     refine ⟨?_⟩
     conv=>whnf
     refine ⟨_,rfl,?_⟩
     conv=>whnf
     refine ⟨?_⟩
     conv=>whnf
     refine ⟨⟨2022,[],[]⟩,?_⟩
     refine LoopW_ind _ (fun d:Nat=>(({ tmps:=[υ,.sl (S:=S) U.u8 xs none,.own 2 [],υ,υ,.sl (S:=S) U.ints (planP xs cs ls.length c) (some 5),vI c,.sl (S:=S) U.int ((List.range l).map (rowP xs cs ls.length (planP xs cs ls.length c) c)) (some 7),vI l,.sl (S:=S) U.int (freeP cs (planP xs cs ls.length c) l d) (some 25),vI d,υ,υ,υ,υ,υ,υ,υ,υ,υ,υ,υ,υ,υ,υ,υ,υ,υ,υ,υ,υ,υ,υ,υ,υ,υ,υ,υ,υ,υ,υ,υ,υ,υ,υ,υ,υ,υ,υ,υ,υ,υ,υ,υ,υ,υ,υ,υ,υ,υ,υ,υ,υ,υ,υ,υ,υ,υ,υ,υ,υ,υ,υ,υ,υ,υ,υ],seg:=[(2,.cells [vI p,lfsV ls,cpsV cs]),(5,.row U.ints false),(7,.row U.int false),(25,.row U.int false)],up:=[] }:St S))) (fun d:Nat=>(d≤cs.length)) (fun d:Nat=>(cs.length - d)) () ?_ 0 (Nat.zero_le _)
     intro d hd Z3 hZ3
     conv=>whnf
     refine ⟨?_⟩
     conv=>whnf
     refine bcase_iff.2 ⟨fun h11=>?_,fun h11=>?_⟩
     · have hld:d < cs.length:=by have:=of_decide_eq_true h11; omega
       have hwd:IntKind.i64.wrap ((d:Int)+1)=((d+1:Nat):Int):=wrap_nat (by omega)
       have hcp:=(hV.cp hld).2.1
       have hix:l < cs[d].2.length:=by omega
       have hk:hasI cs d l=cs[d].2[l]:=by unfold hasI; rw [getD_at hld,getD_at hix]
       conv=>whnf
       refine ⟨?_⟩
       conv=>whnf
       refine ⟨_,getI_nat hld,?_⟩
       conv=>whnf
       refine ⟨_,getI_nat hix,?_⟩
       conv=>whnf
       refine bcase_iff.2 ⟨fun g13_10=>?_,fun g13_10=>?_⟩
       · have g10:hasI cs d l > 0:=by rw [hk]; exact of_decide_eq_true g13_10
         conv=>whnf
         refine byC (c120 gl (planP xs cs ls.length c) (by rw [plan_len]; omega) (d:Int) l (fun i hi=>by rw [plan_len] at hi; rw [plan_row hi,List.length_map,List.length_range]; exact hll)) op120 ?_
         conv=>whnf
         refine bcase_iff.2 ⟨fun h13=>?_,fun h13=>?_⟩
         · have h13t:wheI (planP xs cs ls.length c) (d:Int) l (List.length (planP xs cs ls.length c))=-1:=eq_of_beq h13
           have hm:freeP cs (planP xs cs ls.length c) l (d+1)=freeP cs (planP xs cs ls.length c) l d++[(d:Int)]:=free_yes ⟨g10,h13t⟩
           conv=>whnf
           refine ⟨?_⟩
           conv=>whnf
           refine ⟨_,rfl,?_⟩
           conv=>whnf
           refine ⟨lim (by have:=(free_len cs (planP xs cs ls.length c) l d).2; show (freeP cs (planP xs cs ls.length c) l d).length+1≤_; omega),?_⟩
           conv=>whnf
           refine ⟨?_⟩
           conv=>whnf
           refine ⟨⟨2022,[52,53],[]⟩,?_⟩
           conv=>whnf
           rw [hwd]
           have hz:=hZ3 (d+1) hld (by omega)
           rw [hm] at hz
           exact hz
         have h13t:¬ wheI (planP xs cs ls.length c) (d:Int) l (List.length (planP xs cs ls.length c))=-1:=fun e=>by have h:(wheI (planP xs cs ls.length c) (d:Int) l (List.length (planP xs cs ls.length c))==-1)=false:=h13; rw [e] at h; cases h
         have hm:freeP cs (planP xs cs ls.length c) l (d+1)=freeP cs (planP xs cs ls.length c) l d:=free_no fun q=>h13t q.2
         conv=>whnf
         refine ⟨?_⟩
         conv=>whnf
         refine ⟨⟨2022,[52,53],[]⟩,?_⟩
         conv=>whnf
         rw [hwd]
         have hz:=hZ3 (d+1) hld (by omega)
         rw [hm] at hz
         exact hz
       have g10:¬ hasI cs d l > 0:=by rw [hk]; exact of_decide_eq_false g13_10
       have hm:freeP cs (planP xs cs ls.length c) l (d+1)=freeP cs (planP xs cs ls.length c) l d:=free_no fun q=>g10 q.1
       conv=>whnf
       refine ⟨?_⟩
       conv=>whnf
       refine ⟨⟨2022,[52,53],[]⟩,?_⟩
       conv=>whnf
       rw [hwd]
       have hz:=hZ3 (d+1) hld (by omega)
       rw [hm] at hz
       exact hz
     have hgd:d=cs.length:=by have:=of_decide_eq_false h11; omega
     have hfl:=free_len cs (planP xs cs ls.length c) l cs.length
     have hwi:=wr9 (c:=c) (n:=ls.length) (l:=l) (by omega) (by omega) (by omega)
     have h55:=c55 gl xs hB (c * ls.length+l)
     rw [←hwi] at h55
     have hmd:turnN xs (c * ls.length+l) % (freeP cs (planP xs cs ls.length c) l cs.length).length < (freeP cs (planP xs cs ls.length c) l cs.length).length:=Nat.mod_lt _ (by omega)
     have hTe:∃ T,T=turnN xs (c * ls.length+l):=⟨_,rfl⟩
     obtain ⟨T,hT⟩:=hTe
     rw [←hT] at h55 hmd
     subst hgd
     obtain ⟨F,hF⟩:∃ F,F=(freeP cs (planP xs cs ls.length c) l cs.length):=⟨_,rfl⟩
     rw [←hF]
     rw [←hF] at hmd hfl
     conv=>whnf
     refine ⟨?_⟩
     conv=>whnf
     refine byC h55 op55 ?_
     conv=>whnf
     refine ⟨by omega,?_⟩
     conv=>whnf
     refine ⟨_,getI_nat hmd,?_⟩
     conv=>whnf
     refine ⟨_,rfl,?_⟩
     conv=>whnf
     refine ⟨lim (by show ((List.range l).map (rowP xs cs ls.length (planP xs cs ls.length c) c)).length+1≤_; rw [List.length_map,List.length_range]; omega),?_⟩
     conv=>whnf
     refine ⟨?_⟩
     conv=>whnf
     refine ⟨⟨486,[25,52,53,70,71],[]⟩,?_⟩
     conv=>whnf
     rw [hwl]
     have hz:=hZ2 (l+1) hll (by omega)
     rw [rm9,show rowP xs cs ls.length (planP xs cs ls.length c) c l=F[T % F.length] from by unfold rowP pickP; rw [←hF,←hT,getD_at hmd]] at hz
     exact hz
   have hgl:l=ls.length:=by have:=of_decide_eq_false h7; omega
   conv=>whnf
   refine (hQ2 _ _ _).mpr ?_
   conv=>whnf
   refine ⟨?_⟩
   conv=>whnf
   refine ⟨_,rfl,?_⟩
   conv=>whnf
   refine ⟨lim (by show (planP xs cs ls.length c).length+1≤_; rw [plan_len]; omega),?_⟩
   conv=>whnf
   refine ⟨?_⟩
   conv=>whnf
   refine ⟨⟨102,[7,25,52,53,70,71,74,75,900007],[]⟩,?_⟩
   conv=>whnf
   rw [hwc,hgl]
   exact hZ1 (c+1) hlc (by omega)
 have hgc:c=cs.length:=by have:=of_decide_eq_false h3; omega
 conv=>whnf
 refine (hQ1 _ _ _).mpr ?_
 conv=>whnf
 refine ⟨?_⟩
 conv=>whnf
 rw [hgc]
theorem op51:Opens PR 51:=⟨_,Tryd.func51,rfl,rfl⟩
end Go.Ab.MkF
namespace Go.Ab.MkF
open Go Go.Ab Go.Ab.Pln Go.Proofs
set_option maxHeartbeats 1000000
set_option maxRecDepth 100000
theorem LensS.give {ls:List Lf} {cs:List Cp} (h:LensS ls cs) {a b:Nat} {k:Int} (ha:a < cs.length):LensS ls (give cs a b k):=by
 refine ⟨⟨h.1.1,by rw [give_len]; exact h.1.2⟩,fun x hx=>?_⟩
 unfold Go.Ab.MkF.give at hx
 rcases List.mem_or_eq_of_mem_set hx with hx | rfl
 · exact h.2 x hx
 simp only [List.length_set]
 rw [getD_at ha]
 exact h.2 _ (List.getElem_mem ha)
def whB (n:Nat) (cs:List Cp) (a i:Nat):Bool:=((missL n cs a).length==0)&&(List.range i).all fun l=>hasI cs a l==kindI (cs.getD a cp0).2
end Go.Ab.MkF
namespace Go.Ab.MkF
open Go Go.Ab Go.Ab.Pln Go.Proofs
set_option maxHeartbeats 1000000
set_option maxRecDepth 100000
theorem nePt8 {n:Int} (h:(n != n)=true):False:=by simp at h
theorem lens_val8 {p:Int} {ls:List Lf} {cs:List Cp} (h:Valid p ls cs):LensS ls cs:=by
 have h4:=h.m4
 have h6:=h.n6
 refine ⟨⟨by omega,by omega⟩,fun x hx=>?_⟩
 obtain ⟨i,hi,rfl⟩:=List.getElem_of_mem hx
 rw [(h.cp hi).2.1]; omega
theorem mos_val {p:Int} {ls:List Lf} {cs:List Cp} (hV:Valid p ls cs) {k:Nat} (hk:k < 2):mosV p ls cs ((k+1:Nat):Int)=(((mostN ls cs ((k+1:Nat):Int)).1:Int),((mostN ls cs ((k+1:Nat):Int)).2:Int),0):=by
 unfold mosV
 rw [if_pos (chk_valid.2 hV),if_neg]
 have:k=0∨k=1:=by omega
 rcases this with rfl | rfl <;> decide
theorem right_rows {ls:List Lf} {cs:List Cp} {A:Tb} (hn:ls.length≤6) (hR:RightR ls cs A) (c:Nat):(A.getD c []).length≤1000:=by
 by_cases h:c < cs.length
 · rw [(hR.2 c h).1]; omega
 rw [List.getD_eq_getElem?_getD,List.getElem?_eq_none (by rw [hR.1]; omega)]; exact Nat.zero_le _
theorem c8 (p:Int) (ls:List Lf) (cs:List Cp) (hL:LensS ls cs) (hN:LensN ls cs) (xs:List Int) (hB:Bytes xs):PCalls PR glT 8 [.agg [vI p,lfsV ls,cpsV cs],.sl (S:=S) U.u8 xs none] fun r=>r=vB true:=by
 refine fnW_sound (parH_ok glT) Tryd.func8 ?_
 conv=>whnf
 refine ⟨?_⟩
 conv=>whnf
 refine ⟨?_⟩
 conv=>whnf
 refine byC (c28 p ls cs hL) op28 ?_
 conv=>whnf
 refine ⟨?_⟩
 conv=>whnf
 refine byC (c45 glT p ls cs hL hN) op45 ?_
 rcases Classical.em (chE p ls cs=0) with hk | hk
 · have hV:=chk_valid.1 hk
   have hm4:=hV.m4
   have hn6:=hV.n6
   rw [show (chE p ls cs==0)=true from by rw [hk]; rfl]
   obtain ⟨A,a,b,c0,hW,hM⟩:=more_plain hV
   rw [hW]
   have hAl:=hM.right.1
   have hV2:=aft_valid (A:=A) hV
   have hc2:(aftL ls cs A).length=cs.length:=aft_len
   have h46:=c46 glT p ls cs hV A (by omega)
   rw [right_yes hM.right] at h46
   have h48:=c48 glT p ls cs hV A hM.right
   have h47:=c47 glT p ls (aftL ls cs A) (lens_val8 hV2) (by omega)
   rw [hM.wh] at h47
   have h49:=c49 glT A (by omega) (right_rows hn6 hM.right)
   rw [hM.mv] at h49
   have h50:=c50 glT p ls cs hV A hM.right
   rw [hM.ct] at h50
   have hRB:=plan_right xs ls cs
   have hVB:=aft_valid (A:=(planP xs cs ls.length cs.length)) hV
   have hcB:(aftL ls cs (planP xs cs ls.length cs.length)).length=cs.length:=aft_len
   have hle:=hM.le _ hRB
   have heq:=hM.eq _ hRB
   have hsm:manyU ls cs 3=a:=hM.sum
   have hBl:=hRB.1
   have h51:=c51 glT p ls cs hV xs hB
   have h48b:=c48 glT p ls cs hV _ hRB
   have h47b:=c47 glT p ls (aftL ls cs (planP xs cs ls.length cs.length)) (lens_val8 hVB) (by omega)
   have h49b:=c49 glT (planP xs cs ls.length cs.length) (by omega) (right_rows hn6 hRB)
   generalize (whlU ls.length (aftL ls cs (planP xs cs ls.length cs.length)) (aftL ls cs (planP xs cs ls.length cs.length)).length:Nat)=n at *
   generalize movU (planP xs cs ls.length cs.length) (List.length (planP xs cs ls.length cs.length))=mv at *
   generalize aftL ls cs (planP xs cs ls.length cs.length)=csB at *
   generalize (planP xs cs ls.length cs.length)=B at *
   clear hW
   conv=>whnf
   refine ⟨?_⟩
   conv=>whnf
   refine byC h46 op46 ?_
   conv=>whnf
   refine byC h48 op48 ?_
   conv=>whnf
   refine byC h47 op47 ?_
   conv=>whnf
   refine bcase_iff.2 ⟨fun g4_16=>?_,fun g4_16=>?_⟩
   · exfalso
     exact nePt8 g4_16
   conv=>whnf
   refine byC h49 op49 ?_
   conv=>whnf
   refine bcase_iff.2 ⟨fun g4_22=>?_,fun g4_22=>?_⟩
   · exfalso
     exact nePt8 g4_22
   conv=>whnf
   refine byC h50 op50 ?_
   conv=>whnf
   refine bcase_iff.2 ⟨fun h4=>?_,fun h4=>?_⟩
   · exfalso
     exact nePt8 h4
   conv=>whnf
   refine ⟨?_⟩
   conv=>whnf
   refine ⟨?_⟩
   conv=>whnf
   refine ⟨⟨3270,[],[]⟩,?_⟩
   refine LoopW_ind _ (fun k:Nat=>(({ tmps:=[υ,.sl (S:=S) U.u8 xs none,.own 2 [],υ,υ,υ,vI a,vI b,υ,υ,vI (manyU ls cs (k+1)),vI (k+1:Nat),υ,υ,υ,υ,υ,υ,υ,υ,υ,υ,υ,υ,υ,υ,υ,υ,υ,υ,υ,υ,υ,υ,υ,υ,υ,υ,υ,υ,υ,υ,υ,υ,υ,υ,υ,υ,υ,υ,υ,υ,υ,υ,υ,υ,υ,υ,υ,υ,υ,υ,υ,υ,υ,υ,υ,υ,υ,υ,υ,υ,υ,υ,υ,υ,υ,υ,υ,υ,υ,υ,υ,υ,υ,υ,υ,υ,υ,υ,υ,υ,υ,υ,υ,υ,υ,υ,υ,υ,υ,υ,υ,υ,υ,υ,υ,υ,υ,υ,υ,υ,υ,υ,υ,υ,υ,υ,υ,υ,υ,υ,υ,υ],seg:=[(2,.cells [vI p,lfsV ls,cpsV cs])],up:=[] }:St S))) (fun k:Nat=>(k≤2)) (fun k:Nat=>(2 - k)) () ?_ 0 (Nat.zero_le _)
   intro k hk2 Z1 hZ1
   conv=>whnf
   refine ⟨?_⟩
   conv=>whnf
   refine bcase_iff.2 ⟨fun h8=>?_,fun h8=>?_⟩
   · have hkl:k < 2:=by have:=of_decide_eq_true h8; omega
     have hw:IntKind.i64.wrap (((k+1:Nat):Int)+1)=((k+1+1:Nat):Int):=wrap_nat (by omega)
     have h23:=c23 glT p ls cs hL ((k+1:Nat):Int)
     rw [mos_val hV hkl] at h23
     have hst:=manyU_step (ls:=ls) (cs:=cs) (k:=k+1) (by omega) hm4
     conv=>whnf
     refine ⟨?_⟩
     conv=>whnf
     refine byC h23 op23 ?_
     conv=>whnf
     refine ⟨?_⟩
     conv=>whnf
     refine ⟨?_⟩
     conv=>whnf
     refine ⟨?_⟩
     conv=>whnf
     refine ⟨⟨3270,[],[]⟩,?_⟩
     conv=>whnf
     rw [hw,hst]
     exact hZ1 (k+1) hkl (by omega)
   have hkg:k=2:=by have:=of_decide_eq_false h8; omega
   subst hkg
   conv=>whnf
   refine ⟨?_⟩
   conv=>whnf
   refine byC h51 op51 ?_
   conv=>whnf
   refine ⟨?_⟩
   conv=>whnf
   refine byC h48b op48 ?_
   conv=>whnf
   refine byC h47b op47 ?_
   conv=>whnf
   refine ⟨?_⟩
   conv=>whnf
   refine bcase_iff.2 ⟨fun g16_3=>?_,fun g16_3=>?_⟩
   · conv => whnf
     refine bcase_iff.2 ⟨fun g16_8=>?_,fun g16_8=>?_⟩
     · conv=>whnf
       refine bcase_iff.2 ⟨fun g16_12=>?_,fun g16_12=>?_⟩
       · conv=>whnf
         refine byC c27 op27 ?_
         conv=>whnf
         all_goals rfl
       have hna:(n:Int)=a:=by have:=of_decide_eq_false g16_12; omega
       conv=>whnf
       refine byC h49b op49 ?_
       conv=>whnf
       refine bcase_iff.2 ⟨fun g16_19=>?_,fun g16_19=>?_⟩
       · conv=>whnf
         refine byC c27 op27 ?_
         conv=>whnf
         all_goals rfl
       exfalso
       exact of_decide_eq_false g16_19 (heq hna)
     exfalso
     exact of_decide_eq_false g16_8 hle
   exfalso
   have g:(manyU ls cs 3==a)=false:=g16_3
   rw [hsm] at g
   simp at g
 have hW:whoV p ls cs=([],0,0,0,chE p ls cs):=by unfold whoV; rw [if_neg hk]
 rw [hW]
 rw [show (chE p ls cs==0)=false from by simpa using hk]
 conv=>whnf
 refine ⟨?_⟩
 conv=>whnf
 refine bcase_iff.2 ⟨fun g3_2=>?_,fun g3_2=>?_⟩
 · conv=>whnf
   refine byC c27 op27 ?_
   conv=>whnf
   all_goals rfl
 exfalso
 have g:(chE p ls cs != 0)=false:=g3_2
 exact hk (by simpa using g)
end Go.Ab.MkF
namespace Go.Ab.MkF
open Go Go.Ab Go.Proofs Go.Proofs.YtmchcpmkadhmjaaDoor Go.ChangeShapes Go.WideShapes Go.ChangeAt Go.RowKit
theorem post_same {H:Type} {enc:TypeId×Value→H} {P:Program} {f:Func} {s:ChangeSpec} {apart fresh handsOn again:Bool} {W W':World} {args:Array Value} {v:Value} {ds gs:List (DataW H)} {before pa pv:List MemPlace}
  (hW:DataW.Whole enc P f.params.toList s.vars apart W args.toList ds gs before)
  (hres:∀ (b:Nat) (sp:Nat→Bool) (hd:Bool),DataW.TrodAll enc P W' b sp hd f.resultTypes.toList (v.resultList f.resultTypes.size) (s.fn H (ds++gs)).results [])
  (hargs:∀ sp:Nat→Bool,(∀ p∈before,sp p.block=true)→DataW.TrodAll enc P W' 0 sp true f.params.toList args.toList (s.fn H (ds++gs)).args pa)
  (hvars:∀ sp:Nat→Bool,(∀ p∈before,sp p.block=true)→DataW.TrodVars enc P W' sp s.vars (s.fn H (ds++gs)).vars pv)
  (hps:before=pa++pv) (hk:W.keptBut W' (·∈before)) (hfz:∀ a,a.block < W.heap.size→W'.frozen? a=W.frozen? a)
  (hok:∀ (j:Nat) (t:TypeId) (r:Value),f.resultTypes[j]?=some t→(v.resultList f.resultTypes.size)[j]?=some r→Value.okWide P W' .any 0 t r) :
  s.post enc P f apart fresh handsOn again W args v W':=by
 have hlt:=hW.lt
 have hold:∀ p∈before,(fun b=>decide (b < W.heap.size)) p.block=true:=fun p hp=>by simpa using hlt p hp
 refine ⟨ds,gs,before,[],pa,pv,hW,hres _ _ _,hargs _ hold,hvars _ hold,World.keptBut_mono (fun p hp=>⟨hp,?_⟩) hk,fun _=>?_⟩
 · rw [hps,List.mem_append] at hp
   exact Or.inr hp
 obtain ⟨_,_,_,_,_,hz,hn⟩:=hW
 refine ⟨hok,_,_,([]++pa)++pv,⟨[]++pa,pv,trodAll_append (hargs _ (fun _ _=>rfl)) (hres _ _ _),hvars _ (fun _ _=>rfl),rfl,?_,?_⟩,?_⟩
 · intro b off hp
   have hp':MemPlace.cell b off∈before:=by rw [hps]; simpa using hp
   rw [hfz _ (hlt _ hp')]
   exact hz b off hp'
 · intro ha
   have:=hn ha
   rw [hps] at this
   simpa using this
 intro p hp _
 rw [hps]
 simpa using hp
theorem grow_kept {w w':World} (h:Grow w w') (may:MemPlace→Prop):w.keptBut w' may:=by
 refine ⟨h.os,h.output,fun i hi=>?_⟩
 rw [h.block i hi]
 cases w.heap[i]? with
 | none=>trivial
 | some o=>cases o <;> simp
theorem grow_fz {w w':World} (h:Grow w w') (a:Addr) (ha:a.block < w.heap.size):w'.frozen? a=w.frozen? a:=by
 unfold World.frozen?
 rw [h.block _ ha]
theorem gTab:Tryd.prog.globalNamed "math/bits.deBruijn64tab" = some 1:=by kernel_rfl
theorem gTabType:(Tryd.prog.globals[1]?).map (·.type)=some 198:=by kernel_rfl
theorem cells198:Tryd.prog.cellsOf 198=64:=by kernel_rfl
theorem cells5:Tryd.prog.cellsOf 5=1:=by kernel_rfl
theorem laid_glT {W:World} (h:laidMetH Tryd.prog [("math/bits.deBruijn32tab",Rows.laid_math_bits_deBruijn32tab),("math/bits.deBruijn64tab",Rows.laid_math_bits_deBruijn64tab)] W):glT.G W:=by
 have h1:=laidMetH.filter (fun x=>x.1 == "math/bits.deBruijn64tab") h
 have e:([("math/bits.deBruijn32tab",Rows.laid_math_bits_deBruijn32tab),("math/bits.deBruijn64tab",Rows.laid_math_bits_deBruijn64tab)]:List (String×DataW Unit)).filter (fun x=>x.1 == "math/bits.deBruijn64tab")=[("math/bits.deBruijn64tab",Rows.laid_math_bits_deBruijn64tab)]:=by rfl
 rw [e,Go.MakeChecks.laidMetH_plain _ _ _ (by kernel_rfl)] at h1
 have ht:Lib.TabIs Tryd.prog W "math/bits.deBruijn64tab" .u8 (Lib.deBruijn64tab.map fun n:Nat=>(n:Int)):=Lib.tabIs_of_head (rest:=[]) gTab gTabType Tryd.underlying198 Tryd.underlying5 cells5 cells198 h1
 have hc:TabAt 1 Lib.deBruijn64tab W:=fun j hj=>by
  have:=ht.cell gTab j (by simpa using hj)
  rw [this]
  simp [List.getD,hj]
 refine ⟨?_,hc⟩
 have:=hc 0 (by decide)
 rcases Nat.lt_or_ge 1 W.heap.size with hlt | hge
 · exact hlt
 exfalso
 have hn:W.heap[1]?=none:=Array.getElem?_eq_none hge
 simp [World.cell?,hn] at this
def tab32:List Int:=[0,1,28,2,29,14,24,3,30,22,20,15,25,17,4,8,31,27,13,23,21,19,16,7,26,12,18,6,11,5,10,9]
def tab64:List Int:=[0,1,56,2,57,49,28,3,61,58,42,50,38,29,17,4,62,47,59,36,45,43,51,22,53,39,33,30,24,18,12,5,63,55,48,27,60,41,37,16,46,35,44,21,52,32,23,11,54,26,40,15,34,20,31,10,25,14,19,9,13,8,7,6]
def setTab (zs:List Int):Obj→Obj
 | .cells _ t frozen=>.cells (zs.map fun n=>Value.int .u8 n).toArray t frozen
 | o=>o
def tabWorld (w:World):World:={ w with heap:=(w.heap.modify 0 (setTab tab32)).modify 1 (setTab tab64) }
end Go.Ab.MkF
namespace Go.Ab.MkF
open Go Go.Ab Go.Proofs
set_option maxRecDepth 100000
theorem kids:Kids Tryd.prog (· < Tryd.prog.types.size):=kids_rows (by kernel_rfl) (by kernel_rfl)
theorem full:∀ t e,t < Tryd.prog.types.size→Tryd.prog.underlying t=some (.slice e)→0 < Tryd.prog.cellsOf e:=slices_full_of Tryd.prog (by kernel_rfl)
theorem zc3:Tryd.prog.cellsOf 3=1:=by kernel_rfl
theorem zc5:Tryd.prog.cellsOf 5=1:=by kernel_rfl
theorem zc9:Tryd.prog.cellsOf 9=1:=by kernel_rfl
theorem zc30:Tryd.prog.cellsOf 30=1:=by kernel_rfl
abbrev B63:Nat:=9223372036854775807
section
variable {H:Type} {enc:TypeId×Value→H} {w:World}
theorem oInt:OpA S enc Tryd.prog w 3 fun cl=>∃ n:Int,cl=Cod.enc (S:=S) U.int n∧IntKind.i64.min≤n∧n≤IntKind.i64.max :=
 (OpA.int Tryd.underlying3).mono fun _ ⟨n,h,h1⟩=>⟨n,h,h1⟩
theorem oByte:OpA S enc Tryd.prog w 5 fun cl=>∃ n:Int,cl=Cod.enc (S:=S) U.u8 n∧IntKind.u8.min≤n∧n≤IntKind.u8.max :=
 (OpA.int Tryd.underlying5).mono fun _ ⟨n,h,h1⟩=>⟨n,h,h1⟩
theorem oInts:OpA S enc Tryd.prog w 30 fun cl=>∃ ys:List Int,cl=[vL ys]∧ys.length≤B63∧∀ y∈ys,IntKind.i64.min≤y∧y≤IntKind.i64.max :=
 OpA.slice (S:=S) (u:=U.int) Tryd.underlying30 zc3 oInt
theorem oBytes:OpA S enc Tryd.prog w 63 fun cl=>∃ ys:List Int,cl=[.sl (S:=S) U.u8 ys none]∧ys.length≤B63∧∀ y∈ys,0≤y∧y≤255 :=
 OpA.slice (S:=S) (u:=U.u8) Tryd.underlying63 zc5 oByte
end
abbrev noHand:Value:=.agg #[.slice none 0 0]
end Go.Ab.MkF
namespace Go.Ab.MkF
open Go Go.Ab Go.Proofs
set_option maxRecDepth 100000
theorem zc22:Tryd.prog.cellsOf 22=1:=by kernel_rfl
theorem zc23:Tryd.prog.cellsOf 23=1:=by kernel_rfl
theorem zc25:Tryd.prog.cellsOf 25=3:=by kernel_rfl
theorem zc88:Tryd.prog.cellsOf 88=2:=by kernel_rfl
theorem zc94:Tryd.prog.cellsOf 94=3:=by kernel_rfl
section
variable {H:Type} {enc:TypeId×Value→H} {w:World}
theorem oLf:OpA S enc Tryd.prog w 94 fun cl=>∃ y:Lf,cl=Cod.enc (S:=S) U.leaf y∧y.1.size≤B63:=by
 refine (OpA.struct (Rs:=[_,_,_]) Tryd.underlying94 ⟨rfl,_,_,rfl,OpA.str Tryd.underlying9,by rw [zc9],_,_,rfl,oInt,by rw [zc9,zc3],_,_,rfl,oInt,by rw [zc9,zc3,zc94],rfl⟩).mono ?_
 rintro cl ⟨a,b,rfl,⟨s,rfl,hs⟩,c,d,rfl,⟨n,rfl,_⟩,e,f,rfl,⟨m,rfl,_⟩,rfl⟩
 exact ⟨(s,n,m),rfl,hs⟩
theorem oLfs:OpA S enc Tryd.prog w 22 fun cl=>∃ ys:List Lf,cl=[lfsV ys]∧ys.length≤B63∧∀ y∈ys,y.1.size≤B63 :=
 OpA.slice (S:=S) (u:=U.leaf) Tryd.underlying22 zc94 oLf
theorem oCp:OpA S enc Tryd.prog w 88 fun cl=>∃ y:Cp,cl=Cod.enc (S:=S) U.copy y∧y.1.size≤B63∧y.2.length≤B63:=by
 refine (OpA.struct (Rs:=[_,_]) Tryd.underlying88 ⟨rfl,_,_,rfl,OpA.str Tryd.underlying9,by rw [zc9],_,_,rfl,oInts,by rw [zc9,zc30,zc88],rfl⟩).mono ?_
 rintro cl ⟨a,b,rfl,⟨s,rfl,hs⟩,c,d,rfl,⟨ys,rfl,h,_⟩,rfl⟩
 exact ⟨(s,ys),rfl,hs,h⟩
theorem oCps:OpA S enc Tryd.prog w 23 fun cl=>∃ ys:List Cp,cl=[cpsV ys]∧ys.length≤B63∧∀ y∈ys,y.1.size≤B63∧y.2.length≤B63 :=
 OpA.slice (S:=S) (u:=U.copy) Tryd.underlying23 zc88 oCp
theorem oSet:OpA S enc Tryd.prog w 25 fun cl=>∃ p ls cs,cl=setC p ls cs∧LensS ls cs∧LensN ls cs:=by
 refine (OpA.struct (Rs:=[_,_,_]) Tryd.underlying25 ⟨rfl,_,_,rfl,oInt,by rw [zc3],_,_,rfl,oLfs,by rw [zc3,zc22],_,_,rfl,oCps,by rw [zc3,zc22,zc23,zc25],rfl⟩).mono ?_
 rintro cl ⟨a,b,rfl,⟨p,rfl,_⟩,c,d,rfl,⟨ls,rfl,h1,h2⟩,e,f,rfl,⟨cs,rfl,h3,h4⟩,rfl⟩
 exact ⟨p,ls,cs,rfl,⟨⟨h1,h3⟩,fun x hx=>(h4 x hx).2⟩,h2,fun x hx=>(h4 x hx).1⟩
end
abbrev noSet:Value:=.agg #[.int .i64 0,.slice none 0 0,.slice none 0 0]
end Go.Ab.MkF
