/- What functions of the program come to, by the machine. -/
import Derived.Test.YtldklhcklkaplaaGreatDoorTL5
import Derived.Test.YtldklhcklkaplaaGreatDoorTL4
set_option linter.unusedSimpArgs false
set_option linter.unusedVariables false
set_option maxHeartbeats 8000000
namespace Go.TM.It
theorem nodes_kind {l:List Node} (hz:nodesM 0 l=0):∀ n,n∈l→1≤n.kind∧n.kind≤10:=fun n hn=>by
 obtain⟨k,hk,he⟩:=List.getElem_of_mem hn
 have h:=nodesM_at hz k n (by simp[hk,he])
 rw[←node_same] at h
 unfold l3NodeM at h
 split at h
 ·simp at h
 ·rename_i c
  simp[notB,inR,andB,leI] at c
  exact c
theorem part_want {k:Int} (h:k≤10):(partB k).1=want4 k∧(partB k).2=is4 k:=by
 unfold partB want4 is4
 simp only[leI,eqI,orB]
 by_cases a:k≤6
 ·have b:¬ k=9:=by omega
  have c:¬ k=10:=by omega
  have d:¬ 7≤k:=by omega
  simp[a,b,c,d]
 ·by_cases b:k≤8
  ·have b':¬ k=9:=by omega
   have c:¬ k=10:=by omega
   have d:7≤k:=by omega
   simp[a,b,b',c,d]
  ·have d:7≤k:=by omega
   have e:k=9∨k=10:=by omega
   simp[a,b,d]
   omega
theorem types_same:∀ (l:List Node) (acc:List Int),(∀ n,n∈l→1≤n.kind∧n.kind≤10)→types4M l acc=typesM l acc
 | [],_,_=>rfl
 | n::l,acc,h=>by
  obtain⟨h1,h2⟩:=part_want (h n (by simp)).2
  have e:bad4 n acc=badT n acc:=by
   unfold bad4 badT
   rw[h1];rfl
  unfold types4M typesM
  rw[e,h2,types_same l _ fun n hn=>h n (by simp[hn])]
theorem type_same (l:List Node):type4M l=((typeM l).2,(typeM l).1):=by
 unfold type4M typeM
 rw[expr_same]
 by_cases h:exprM l=0
 ·have hq:¬ (notB (eqI (exprM l) 0)=true):=by simp[notB,eqI,h]
  have hz:nodesM 0 l=0:=by
   unfold exprM at h
   split at h
   ·simp at h
   ·split at h
    ·rename_i c;rw[h] at c;simp[notB,eqI] at c
    ·rename_i c;simpa[notB,eqI] using c
  rw[if_neg hq,if_neg hq,types_same l [] (nodes_kind hz)]
  split<;>rfl
 ·have hq:notB (eqI (exprM l) 0)=true:=by simp[notB,eqI,h]
  rw[if_pos hq,if_pos hq]
theorem typed_same (l:List Node) (want:Int):typed4M l want=typeFaultM l want:=by
 unfold typed4M typeFaultM first2
 rw[type_same]
 simp only
 by_cases h0:eqI l.length 0=true
 ·rw[if_pos h0,if_pos h0]
 rw[if_neg h0,if_neg h0]
 by_cases h:(typeM l).1=0
 ·have hq:¬ (notB (eqI (typeM l).1 0)=true):=by simp[notB,eqI,h]
  have hq2:eqI (typeM l).1 0=true:=by simp[eqI,h]
  rw[if_neg hq,if_pos hq2]
 ·have hq:notB (eqI (typeM l).1 0)=true:=by simp[notB,eqI,h]
  have hq2:¬ eqI (typeM l).1 0=true:=by simp[eqI,h]
  rw[if_pos hq,if_neg hq2]
theorem name_same (s:ByteArray):name4M s=nameM s:=by
 unfold name4M nameM first2
 cases h1:smalls s.data.toList<;>cases h2:eqS s emp<;>simp[orB,notB,eqI]
theorem line_low {l:List Step} {p:Int} {i:Nat} (hi:i≤l.length) (ha:Ahead l i):∀ (g:Nat) (at_:Int),-1≤at_→at_<i→at_<p→lineM l p g at_=false
 | 0,_,_,_,_=>rfl
 | g+1,at_,h1,h2,h3=>by
  unfold lineM
  by_cases h:0≤at_
  ·have hk:at_.toNat<l.length:=by omega
   obtain⟨a1,a2⟩:=ha at_.toNat hk (by omega)
   have hp:parOf l at_.toNat=(l[at_.toNat]).parent:=by simp[parOf,hk]
   rw[if_pos (by simp[leI,h]),if_neg (by simp[eqI];omega),hp]
   exact line_low hi ha g _ a1 (by omega) (by omega)
  ·rw[if_neg (by simp[leI];omega)]
theorem climb_line {l:List Step} {p:Int} {i:Nat} {list:List Int} (hi:i≤l.length) (ha:Ahead l i) (hl:list.length=i) (hq:∀ k,k<i→list[k]?=some (parOf l k)) (hp0:0≤p):
  ∀ (f g:Nat) (at_:Int),-1≤at_→at_<i→at_<f→at_<g→(climbM list p f at_=p↔lineM l p g at_=true)
 | 0,g,at_,h1,h2,h3,h4=>by
  have e:at_=-1:=by omega
  rw[line_low hi ha g at_ h1 h2 (by omega)]
  simp[climbM];omega
 | f+1,0,at_,h1,h2,h3,h4=>by
  have e:at_=-1:=by omega
  subst e
  have:ltI p (-1)=false:=by simp[ltI];omega
  simp[climbM,lineM,this];omega
 | f+1,g+1,at_,h1,h2,h3,h4=>by
  rcases Int.lt_trichotomy at_ p with h | h | h
  ·rw[line_low hi ha (g+1) at_ h1 h2 h]
   have:ltI p at_=false:=by simp[ltI];omega
   simp[climbM,this];omega
  ·subst h
   have:ltI at_ at_=false:=by simp[ltI]
   simp[climbM,lineM,this,leI,hp0,eqI]
  ·have hk:at_.toNat<l.length:=by omega
   obtain⟨a1,a2⟩:=ha at_.toNat hk (by omega)
   have hp:parOf l at_.toNat=(l[at_.toNat]).parent:=by simp[parOf,hk]
   have e1:ltI p at_=true:=by simp[ltI];omega
   have e2:list.getD at_.toNat (-1)=parOf l at_.toNat:=by rw[List.getD_eq_getElem?_getD,hq at_.toNat (by omega)];rfl
   have e3:leI 0 at_=true:=by simp[leI];omega
   have e4:eqI at_ p=false:=by simp[eqI];omega
   unfold climbM lineM
   rw[e1,e3,e4,e2]
   simp only[if_true,Bool.false_eq_true,if_false]
   exact climb_line hi ha hl hq hp0 f g _ (by omega) (by omega) (by omega) (by omega)
theorem deep_fuel {l:List Step} {i:Nat} (hi:i≤l.length) (ha:Ahead l i):∀ (f g:Nat) (at_:Int),-1≤at_→at_<i→at_<f→at_<g→deepM l f at_=deepM l g at_
 | 0,g,at_,h1,h2,h3,h4=>by
  have e:at_=-1:=by omega
  subst e
  cases g<;>simp[deepM,leI]
 | f+1,0,at_,h1,h2,h3,h4=>by
  have e:at_=-1:=by omega
  subst e
  simp[deepM,leI]
 | f+1,g+1,at_,h1,h2,h3,h4=>by
  unfold deepM
  by_cases h:0≤at_
  ·have hk:at_.toNat<l.length:=by omega
   obtain⟨a1,a2⟩:=ha at_.toNat hk (by omega)
   have hp:parOf l at_.toNat=(l[at_.toNat]).parent:=by simp[parOf,hk]
   rw[deep_fuel hi ha f g (parOf l at_.toNat) (by omega) (by omega) (by omega) (by omega)]
  ·rw[if_neg (by simp[leI];omega),if_neg (by simp[leI];omega)]
theorem argB_none (k:Int):eqI (argB k).2 0=notB (inR k 5 8):=by
 unfold argB
 by_cases h5:k=5
 ·subst h5;rfl
 by_cases h6:k=6
 ·subst h6;rfl
 by_cases h7:k=7
 ·subst h7;rfl
 by_cases h8:k=8
 ·subst h8;rfl
 have:¬ (5≤k∧k≤8):=by omega
 simp[notB,inR,andB,eqI,leI,h5,h6,h7,h8]
 omega
theorem alien_bare (s:Step):notB (bare4 s)=alien s:=by
 unfold bare4 alien
 rw[argB_none]
 have hx:ltI 0 s.expr.length=notB (eqI s.expr.length 0):=by
  cases s.expr<;>simp[ltI,notB,eqI];omega
 rw[hx]
 cases eqI s.kind 2<;>cases eqS s.name emp<;>cases inR s.kind 5 8<;>cases eqI s.arg 0<;>cases eqI s.kind 7<;>cases eqI s.expr.length 0<;>rfl
structure Left (l:List Step) (i:Nat) (list deep:List Int):Prop where
 le:i≤l.length
 ahead:Ahead l i
 tree:Tree list
 len:list.length=i
 dlen:deep.length=i
 at_:∀ k,k<i→list[k]?=some (parOf l k)
 deeps:∀ k,k<i→deep[k]?=some (deepM l (k+2) k)
 bd:∀ d,d∈deep→0≤d∧d≤list.length
theorem next_deep {l:List Step} {i:Nat} {list deep:List Int} (h:Left l i list deep) (hi:i<l.length) (h1:-1≤parOf l i) (h2:parOf l i<i):nextDeep deep (parOf l i)=deepM l (i+2) i:=by
 have e:deepM l (i+2) i=1+deepM l (i+1) (parOf l i):=by
  conv=>lhs;unfold deepM
  rw[if_pos (by simp[leI])];simp
 rw[e]
 unfold nextDeep
 by_cases h0:0≤parOf l i
 ·have hk:=h.deeps (parOf l i).toNat (by omega)
  rw[if_pos (by simp[leI,h0]),List.getD_eq_getElem?_getD,hk]
  have:=deep_fuel h.le h.ahead ((parOf l i).toNat+2) (i+1) (parOf l i) h1 h2 (by omega) (by omega)
  have e2:(((parOf l i).toNat:Nat):Int)=parOf l i:=by omega
  simp only[Option.getD_some,e2,this];omega
 ·rw[if_neg (by simp[leI];omega)]
  have e:parOf l i=-1:=by omega
  rw[e]
  cases i<;>simp[deepM,leI]
theorem tail_same (s:Step) (_hk:inR s.kind 1 8=true) (ha:alien s=false) (h2:¬ s.kind=2):tail4 s=stepB s:=by
 unfold tail4 stepB ci
 rw[expr_same]
 by_cases h7:s.kind=7
 ·have e:argM s.kind s.arg=inR s.arg 0 3:=by simp[argM,h7,eqI]
  have e2:argB s.kind=(0,3):=by simp[argB,h7,eqI]
  rw[e,e2]
  simp only[h7]
  cases inR s.arg 0 3<;>simp[notB,eqI,first2]
 ·have e:argM s.kind s.arg=inR s.arg (argB s.kind).1 (argB s.kind).2:=by
   by_cases h5:s.kind=5
   ·simp[argM,argB,h5,eqI]
   by_cases h6:s.kind=6∨s.kind=8
   ·rcases h6 with h6 | h6<;>simp[argM,argB,h6,eqI]
   ·have h6':¬ s.kind=6:=by omega
    have h8':¬ s.kind=8:=by omega
    have ha0:s.arg=0:=by
     unfold alien at ha
     rw[argB_none] at ha
     have:inR s.kind 5 8=false:=by simp[inR,andB,leI];omega
     simp[this,orB,andB,notB,eqI] at ha
     exact ha.1.2
    simp[argM,argB,h5,h6',h8',h7,eqI,ha0,inR,andB,leI]
  rw[e]
  simp only[eqI]
  cases inR s.arg (argB s.kind).1 (argB s.kind).2<;>simp[notB,h7,h2]
theorem one_same {l:List Step} {i:Nat} {list deep:List Int} (h:Left l i list deep) (hi:i<l.length):one4M l i l[i]=stepM l[i] list deep:=by
 have hp:parOf l i=(l[i]).parent:=by simp[parOf,hi]
 unfold one4M stepM
 by_cases c1:orB (notB (inR (l[i]).kind 1 8)) (notB (bare4 l[i]))=true
 ·have c1':=c1
  rw[alien_bare] at c1'
  have e:stepA l[i] list deep=1:=by simp[stepA,ci,c1',first2,eqI]
  rw[if_pos c1,e];rfl
 rw[if_neg c1]
 rw[alien_bare] at c1
 have hk:inR (l[i]).kind 1 8=true:=by
  cases h:inR (l[i]).kind 1 8
  ·rw[h] at c1;exact absurd rfl c1
  ·rfl
 have ha:alien l[i]=false:=by
  rw[hk] at c1
  simpa[orB,notB] using c1
 have eA:stepA l[i] list deep=(nextM list deep (l[i]).parent).1:=by simp[stepA,ci,hk,ha,orB,notB,first2,eqI]
 rw[eA]
 have ebad:nextBad list (l[i]).parent=par4 l[i] i:=by unfold nextBad par4;rw[h.len]
 by_cases c2:par4 l[i] i=true
 ·have e:(nextM list deep (l[i]).parent).1=3:=by unfold nextM;rw[ebad,if_pos c2]
  rw[if_pos c2,e];rfl
 rw[if_neg c2]
 have c2':par4 l[i] i=false:=by simpa using c2
 obtain⟨p1,p2⟩:-1≤(l[i]).parent∧(l[i]).parent<i:=by
  unfold par4 at c2'
  simp only[orB,andB,notB,inR,leI,ltI,eqI,Bool.or_eq_false_iff,Bool.and_eq_false_iff,Bool.not_eq_false',decide_eq_true_eq,decide_eq_false_iff_not,beq_eq_false_iff_ne,beq_iff_eq,Bool.and_eq_true] at c2'
  omega
 have ecl:notB (eqI (climbM list (l[i]).parent list.length (list.length - 1)) (l[i]).parent)=andB (ltI 0 (i:Int)) (notB (line4 l i)):=by
  rw[h.len]
  rcases Nat.eq_zero_or_pos i with h0 | h0
  ·have e:(l[i]).parent=-1:=by omega
   rw[e,h0];rfl
  ·have p0:0≤(l[i]).parent:=by
    unfold par4 at c2'
    simp only[orB,andB,notB,inR,leI,ltI,eqI,Bool.or_eq_false_iff,Bool.and_eq_false_iff,Bool.not_eq_false',decide_eq_true_eq,decide_eq_false_iff_not,beq_eq_false_iff_ne,beq_iff_eq,Bool.and_eq_true] at c2'
    omega
   have:=climb_line h.le h.ahead h.len h.at_ p0 i (i+1) ((i:Int) - 1) (by omega) (by omega) (by omega) (by omega)
   have e1:ltI 0 (i:Int)=true:=by simp[ltI];omega
   unfold line4
   rw[hp,e1]
   cases hl:lineM l (l[i]).parent (i+1) ((i:Int) - 1)
   ·rw[hl] at this
    simp at this
    simp[notB,andB,eqI,this]
   ·rw[hl] at this
    simp at this
    simp[notB,andB,eqI,this]
 by_cases c3:andB (ltI 0 (i:Int)) (notB (line4 l i))=true
 ·have e:(nextM list deep (l[i]).parent).1=1:=by unfold nextM;rw[ebad,if_neg c2,ecl,if_pos c3]
  rw[if_pos c3,e];rfl
 rw[if_neg c3]
 have e:(nextM list deep (l[i]).parent).1=0:=by unfold nextM;rw[ebad,if_neg c2,ecl,if_neg c3]
 have hq:¬ notB (eqI (0:Int) 0)=true:=by simp[notB,eqI]
 rw[e,if_neg hq]
 have ed:=next_deep h hi (by omega) (by omega)
 rw[hp] at ed
 rw[ed]
 unfold deep4 ci
 by_cases c4:ltI 7 (deepM l (i+2) i)=true
 ·rw[if_pos c4,if_pos c4];rfl
 rw[if_neg c4,if_neg c4,if_neg hq]
 by_cases c5:(l[i]).kind=2
 ·have hq5:eqI (l[i]).kind 2=true:=by simp[eqI,c5]
  unfold stepB
  rw[if_pos hq5,if_pos hq5,name_same]
  by_cases c6:nameM (l[i]).name=0
  ·rw[c6,if_neg hq]
   simp[tail4,c5,argM,eqI,notB]
  ·rw[if_pos (by simp[notB,eqI,c6])]
 ·rw[if_neg (by simp[eqI,c5])]
  exact tail_same _ hk ha c5
theorem left_next {l:List Step} {i:Nat} {list deep:List Int} (h:Left l i list deep) (hi:i<l.length) (hz:stepM l[i] list deep=0):
  (nextM list deep (l[i]).parent).2.1=list++[(l[i]).parent]∧(nextM list deep (l[i]).parent).2.2=deep++[nextDeep deep (l[i]).parent]∧
  Left l (i+1) (list++[(l[i]).parent]) (deep++[nextDeep deep (l[i]).parent]):=by
 obtain⟨n1,n2,n3,n4,n5⟩:=step_next hz h.tree (by rw[h.dlen,h.len]) h.bd
 have hp:parOf l i=(l[i]).parent:=by simp[parOf,hi]
 rw[h.len] at n4
 refine⟨by rw[n1],by rw[n1],?_⟩
 have ed:=next_deep h hi (by omega) (by omega)
 rw[hp] at ed
 constructor
 ·omega
 ·intro k hk1 hk2
  rcases Nat.lt_or_ge k i with h' | h'
  ·exact h.ahead k hk1 h'
  ·have e:k=i:=by omega
   subst e;exact⟨n3,n4⟩
 ·exact n2
 ·simp[h.len]
 ·simp[h.dlen]
 ·intro k hk
  rcases Nat.lt_or_ge k i with h' | h'
  ·rw[List.getElem?_append_left (by rw[h.len];exact h')];exact h.at_ k h'
  ·have e:k=i:=by omega
   subst e
   rw[List.getElem?_append_right (by rw[h.len];omega)];simp[h.len,hp]
 ·intro k hk
  rcases Nat.lt_or_ge k i with h' | h'
  ·rw[List.getElem?_append_left (by rw[h.dlen];exact h')];exact h.deeps k h'
  ·have e:k=i:=by omega
   subst e
   rw[List.getElem?_append_right (by rw[h.dlen];omega)];simp[h.dlen,ed]
 ·exact n5
theorem ones_same {l:List Step}:∀ (rest:List Step) (i:Nat) (list deep:List Int),l.drop i=rest→Left l i list deep→
  onesM l i rest=(procA rest list deep).1∧(onesM l i rest=0→Ahead l l.length)
 | [],i,list,deep,h,hl=>by
  have hge:l.length≤i:=by simpa using h
  have e:i=l.length:=by have:=hl.le;omega
  subst e
  exact⟨rfl,fun _=>hl.ahead⟩
 | s::rest,i,list,deep,h,hl=>by
  obtain⟨hi,hc,hr⟩:=drop_cons h
  subst hc
  have e:=one_same hl hi
  unfold onesM procA
  rw[e]
  by_cases hz:stepM l[i] list deep=0
  ·obtain⟨e1,e2,hl2⟩:=left_next hl hi hz
   rw[if_pos (by simp[eqI,hz]),if_neg (by simp[notB,eqI,hz]),e1,e2]
   exact ones_same rest (i+1) _ _ hr hl2
  ·rw[if_neg (by simp[eqI,hz]),if_pos (by simp[notB,eqI,hz])]
   exact⟨rfl,fun h=>absurd h hz⟩
theorem kids_same {p:Int}:∀ (r:List Step) (i:Nat),(i=0→∀ s,r[0]?=some s→s.parent≠p)→kidsM p i r=kids4M p i r
 | [],_,_=>rfl
 | s::r,i,h=>by
  unfold kidsM kids4M
  rw[kids_same r (i+1) (fun h0 s' _=>absurd h0 (by omega))]
  by_cases h0:i=0
  ·have:=h h0 s (by simp)
   have e1:eqI s.parent p=false:=by simp[eqI,this]
   simp[e1,andB]
  ·have e1:ltI 0 (i:Int)=true:=by simp[ltI];omega
   simp[e1,andB]
theorem kids4_le (p:Int):∀ (r:List Step) (i:Nat),(kids4M p i r).length≤r.length
 | [],_=>Nat.le_refl _
 | s::r,i=>by
  have:=kids4_le p r (i+1)
  unfold kids4M
  split
  ·simp;omega
  ·simp;omega
theorem many_same {k n:Int} (_h0:0≤n) (h:n≤24):inR n (kidB k).1 (kidB k).2=manyM k n:=by
 unfold kidB manyM
 by_cases h1:k=1
 ·have:n≤24:=h
  simp[h1,eqI,inR,andB,leI,this]
 by_cases h3:k=3
 ·simp[h3,eqI,inR,andB,leI,orB,h]
 by_cases h4:k=4
 ·simp[h4,eqI,inR,andB,leI,orB,h]
 have hx:∀ m:Int,inR n m m=eqI n m:=fun m=>by
  unfold inR andB leI eqI
  by_cases a:n=m
  ·simp[a]
  ·have e:(n==m)=false:=by simp[a]
   rw[e]
   have:¬ (m≤n∧n≤m):=by omega
   simp
   intro h;omega
 by_cases h8:k=8
 ·simp[h8,eqI,hx,orB]
 ·have q1:eqI k 1=false:=by simp[eqI,h1]
  have q3:eqI k 3=false:=by simp[eqI,h3]
  have q4:eqI k 4=false:=by simp[eqI,h4]
  have q8:eqI k 8=false:=by simp[eqI,h8]
  simp[q1,q3,q4,q8,orB,hx]
theorem shape_one {l:List Step} (hl:l.length≤24) (h0:parOf l 0=-1) (hp:∀ k,0<k→k<l.length→0≤parOf l k) {i:Nat} (hi:i<l.length):shapeOne l i l[i]=condFaultM l i:=by
 have hk:∀ p:Int,0≤p→kidsM p 0 l=kids4M p 0 l:=fun p hp=>kids_same l 0 fun _ s hs=>by
  have:parOf l 0=s.parent:=by simp[parOf,hs]
  omega
 have hcond:hasCond l i=ltI 0 (l[i]).cond.length:=by simp[hasCond,hi]
 have hco:condOf l i=(l[i]).cond:=by simp[condOf,hi]
 have hkind:kindOf l i=(l[i]).kind:=by simp[kindOf,hi]
 have hwant:wantsM l i=needsM l i:=by
  unfold wantsM needsM
  rcases Nat.eq_zero_or_pos i with e | e
  ·subst e
   rw[if_pos (by simp[orB,eqI]),if_pos (by rw[h0];simp[orB,ltI])]
  ·have h1:=hp i e hi
   have e1:eqI (i:Int) 0=false:=by simp[eqI];omega
   have e2:ltI (parOf l i) 0=false:=by simp[ltI];omega
   rw[e1,e2,hk _ h1]
   have:∀ a b:Int,eqI a b=eqI b a:=fun a b=>by simp[eqI,Bool.beq_comm]
   rw[this (i:Int)]
 have hn:=kids4_le i l 0
 unfold shapeOne condFaultM condCode kidsN
 rw[hcond,hco,hkind,hwant,hk i (by omega),many_same (by omega) (by omega),expr_same]
 cases manyM (l[i]).kind (kids4M i 0 l).length
 ·simp[notB,first2,eqI,orB]
 ·cases needsM l i<;>cases ltI 0 (l[i]).cond.length<;>simp[notB,first2,eqI,eqB,orB]
theorem shape_same {l:List Step} (hl:l.length≤24) (h0:parOf l 0=-1) (hp:∀ k,0<k→k<l.length→0≤parOf l k):∀ (rest:List Step) (i:Nat),l.drop i=rest→shapeM l i rest=procB l rest.length i
 | [],i,h=>rfl
 | s::rest,i,h=>by
  obtain⟨hi,hc,hr⟩:=drop_cons h
  subst hc
  have e:=shape_one hl h0 hp hi
  unfold shapeM
  rw[e,List.length_cons]
  unfold procB
  rw[shape_same hl h0 hp rest (i+1) hr]
  by_cases hz:condFaultM l i=0
  ·rw[if_pos (by simp[eqI,hz]),if_neg (by simp[notB,eqI,hz])]
  ·rw[if_neg (by simp[eqI,hz]),if_pos (by simp[notB,eqI,hz])]
theorem typs_same:∀ (l:List Step),typsM l=procC l
 | []=>rfl
 | s::l=>by
  unfold typsM procC typOne first2
  rw[typed_same,typed_same,typs_same l]
  by_cases h1:typeFaultM s.cond 2=0
  ·have q:eqI (typeFaultM s.cond 2) 0=true:=by simp[eqI,h1]
   rw[if_pos q]
   by_cases h2:typeFaultM s.expr 1=0
   ·rw[if_pos (by simp[eqI,h2]),if_neg (by simp[notB,eqI,h2])]
   ·rw[if_neg (by simp[eqI,h2]),if_pos (by simp[notB,eqI,h2])]
  ·have q:¬ eqI (typeFaultM s.cond 2) 0=true:=by simp[eqI,h1]
   rw[if_neg q,if_neg q,if_pos (by simp[notB,eqI,h1])]
theorem one_parent0 {l:List Step} {s:Step} (h:one4M l 0 s=0):s.parent=-1:=by
 unfold one4M at h
 split at h
 ·simp at h
 ·split at h
  ·simp at h
  ·rename_i c
   simp[par4,orB,andB,notB,eqI,ltI] at c
   exact c
theorem one_parent {l:List Step} {i:Nat} {s:Step} (h:one4M l i s=0) (hi:0<i):0≤s.parent:=by
 unfold one4M at h
 split at h
 ·simp at h
 ·split at h
  ·simp at h
  ·rename_i c
   have c:par4 s i=false:=by simpa using c
   unfold par4 at c
   simp only[orB,andB,notB,inR,leI,ltI,eqI,Bool.or_eq_false_iff,Bool.and_eq_false_iff,Bool.not_eq_false',decide_eq_true_eq,decide_eq_false_iff_not,beq_eq_false_iff_ne,beq_iff_eq,Bool.and_eq_true] at c
   omega
theorem ones_at {l:List Step}:∀ {r:List Step} {i:Nat},onesM l i r=0→∀ (k:Nat) (s:Step),r[k]?=some s→one4M l (i+k) s=0
 | [],i,_,k,n,h=>by simp at h
 | x::r,i,hz,k,s,h=>by
  unfold onesM at hz
  split at hz
  ·rename_i hc
   cases k with
   | zero=>simp at h;subst h;simpa[eqI] using hc
   | succ k=>
    have:=ones_at hz k s (by simpa using h)
    have e:i+1+k=i+(k+1):=by omega
    rw[←e];exact this
  ·rename_i hc;exact absurd (by simp[eqI,hz]) hc
theorem fault_same (l:List Step):fault4M l=procM l:=by
 unfold fault4M procM
 by_cases hl:1≤l.length∧l.length≤24
 ·have e1:¬ orB (ltI l.length 1) (ltI 24 l.length)=true:=by simp[orB,ltI];omega
  have e2:¬ notB (inR l.length 1 24)=true:=by simp[notB,inR,andB,leI];omega
  rw[if_neg e1,if_neg e2]
  obtain⟨o1,o2⟩:=ones_same (l:=l) l 0 [] [] rfl ⟨Nat.zero_le _,fun k _ h=>by omega,fun k h=>by simp at h,rfl,rfl,fun k h=>by omega,fun k h=>by omega,by simp⟩
  rw[o1] at o2 ⊢
  by_cases hz:(procA l [] []).1=0
  ·have hz1:onesM l 0 l=0:=by rw[o1,hz]
   have ha:=o2 hz
   have h0:parOf l 0=-1:=by
    have h:=ones_at hz1 0 l[0] (by simp)
    have:=one_parent0 h
    have e:l[0]?=some l[0]:=by simp
    simp only[parOf,e,this]
   have hp:∀ k,0<k→k<l.length→0≤parOf l k:=fun k h1 h2=>by
    have h:=ones_at hz1 k l[k] (by simp[h2])
    have:=one_parent h (by omega)
    simp[parOf,h2,this]
   have hs:=shape_same hl.2 h0 hp l 0 rfl
   have q:eqI (procA l [] []).1 0=true:=by simp[eqI,hz]
   have q2:¬ notB (eqI (procA l [] []).1 0)=true:=by simp[notB,eqI,hz]
   rw[if_pos q,if_neg q2,hs,typs_same]
   by_cases hb:procB l l.length 0=0
   ·rw[if_pos (by simp[eqI,hb]),if_neg (by simp[notB,eqI,hb])]
    by_cases hc:procC l=0
    ·rw[if_neg (by simp[notB,eqI,hc]),hc]
    ·rw[if_pos (by simp[notB,eqI,hc])]
   ·rw[if_neg (by simp[eqI,hb]),if_pos (by simp[notB,eqI,hb])]
  ·rw[if_neg (by simp[eqI,hz]),if_pos (by simp[notB,eqI,hz])]
 ·have e1:orB (ltI l.length 1) (ltI 24 l.length)=true:=by simp[orB,ltI];omega
  have e2:notB (inR l.length 1 24)=true:=by simp[notB,inR,andB,leI];omega
  rw[if_pos e1,if_pos e2]
open Go Go.TM Go.Proofs
set_option maxRecDepth 20000
attribute [local congr] gif_cg
attribute [local simp] footOf noClash clash upsets setsHit setHits layHits layMeets setsMeet evFeet
theorem f_l8Time (n:Int):fo 57 [A (vI n)]=some (R (vB (inR n 0 1000000))):=by
 refine orc_57 1 ?_
 simp (maxSteps:=1000000) +contextual -dsimp [Tryz.f57,f_l1In]
def anyV:List Int→Bool
 | []=>false
 | x::r=>if badV x=true then true else anyV r
theorem lp83 (all:List Int) (hall:all.length≤1000):∀ (rest:List Int) (i:Nat),all.drop i=rest→
  evLoop E (orc E) (79:Nat) (rest.length+1) (loopOf Tryz.f79 0) ⟨19,[(0,iS all),(3,vI i)],[],2⟩=
  (if anyV rest=true then some (.ret,⟨19,[(2,vI 3)],[],2⟩) else some (.exit 0,⟨19,[(0,iS all),(3,vI (i+rest.length:Nat)),(10,vB false)],[],2⟩))
 | [],i,h=>by
  have hge:all.length≤i:=by simpa using h
  have hlt:ltI (i:Int) (all.length:Int)=false:=ltI_f (by omega)
  rw[loop_eq]
  simp +contextual -dsimp [Tryz.f79,hlt,anyV]
 | x::rest,i,h=>by
  obtain⟨hi,hc,hr⟩:=drop_cons h
  have hlt:ltI (i:Int) (all.length:Int)=true:=ltI_t (by omega)
  have hw:IntKind.i64.wrap ((i:Int)+1)=((i+1:Nat):Int):=by rw[wrapI]<;>omega
  have he:i+1+rest.length=i+(rest.length+1):=by omega
  cases q:inR x (-1000000) 1000000
  ·have hm:anyV (x::rest)=true:=by simp[anyV,badV,q,notB]
   rw[hm,if_pos rfl]
   refine evLoop_out ?_ (by simp)
   simp (maxSteps:=1000000) +contextual -dsimp [Tryz.f79,hlt,hi,hc,f_l1In,q]
  ·have hm:anyV (x::rest)=anyV rest:=by simp[anyV,badV,q,notB]
   have ih:=lp83 all hall rest (i+1) hr
   rw[he] at ih
   rw[hm]
   refine evLoop_next ?_ (by simpa only[List.length_cons] using ih)
   simp (maxSteps:=1000000) +contextual -dsimp [Tryz.f79,hlt,hi,hc,hw,f_l1In,q]
def vars4M (l:List Int):Int:=if notB (eqI l.length 4)=true then 2 else if anyV l=true then 3 else 0
theorem f_Vars4 (l:List Int):fo 79 [A (iS l)]=some (R (vI (vars4M l))):=by
 unfold vars4M
 cases q:eqI l.length 4
 ·refine orc_79 1 ?_
  simp (maxSteps:=1000000) +contextual -dsimp [Tryz.f79,q]
 ·have hl:l.length≤1000:=by simp[eqI] at q;omega
  have hlp:=lp83 l hl l 0 rfl
  refine orc_79 (l.length+1) ?_
  simp -dsimp [Tryz.f79] at hlp
  cases q2:anyV l
  ·rw[q2] at hlp
   simp (maxSteps:=1000000) +contextual -dsimp [Tryz.f79,q,hlp]
  ·rw[q2] at hlp
   simp (maxSteps:=1000000) +contextual -dsimp [Tryz.f79,q,hlp]
theorem lp84 (l:List Step) (c:Chart) (at_:Int) (hb:c.acts.length<2 ^ 62) (all:List Int) (hall:all.length≤1000) (hk:∀ k,k∈all→∃ a:Nat,k=a∧a<c.acts.length):∀ (rest:List Int) (i n m:Nat),all.drop i=rest→n≤i→m≤i→
  evLoop E (orc E) (80:Nat) (rest.length+1) (loopOf Tryz.f80 0) ⟨130,[(0,.sl 112 (l.map (sT 206))),(1,.ipt (cT c)),(2,vI at_),(7,iS all),(8,vI n),(9,vI m),(10,vI i)],[],2⟩=
  some (.exit 0,⟨130,[(0,.sl 112 (l.map (sT 206))),(1,.ipt (cT c)),(2,vI at_),(7,iS all),(8,vI (cntM c.acts 1 rest n)),(9,vI (cntM c.acts 2 rest m)),(10,vI (i+rest.length:Nat)),(18,vB false)],[],2⟩)
 | [],i,n,m,h,hn,hm=>by
  have hge:all.length≤i:=by simpa using h
  have hlt:ltI (i:Int) (all.length:Int)=false:=ltI_f (by omega)
  rw[loop_eq]
  simp +contextual -dsimp [Tryz.f80,hlt,cntM]
 | x::rest,i,n,m,h,hn,hmm=>by
  obtain⟨hi,hc,hr⟩:=drop_cons h
  obtain⟨a,rfl,ha⟩:=hk x (by rw[←hc];exact List.getElem_mem _)
  have hlt:ltI (i:Int) (all.length:Int)=true:=ltI_t (by omega)
  have hw:IntKind.i64.wrap ((i:Int)+1)=((i+1:Nat):Int):=by rw[wrapI]<;>omega
  have hw2:IntKind.i64.wrap ((n:Int)+1)=((n+1:Nat):Int):=by rw[wrapI]<;>omega
  have hw3:IntKind.i64.wrap ((m:Int)+1)=((m+1:Nat):Int):=by rw[wrapI]<;>omega
  have he:i+1+rest.length=i+(rest.length+1):=by omega
  have hs:=szAt_get ha
  cases q:eqI (c.acts[a]) 1
  ·cases q2:eqI (c.acts[a]) 2
   ·have ih:=lp84 l c at_ hb all hall hk rest (i+1) n m hr (by omega) (by omega)
    rw[he] at ih
    have hm1:cntM c.acts 1 ((a:Int)::rest) n=cntM c.acts 1 rest n:=by simp[cntM,hs,q]
    have hm2:cntM c.acts 2 ((a:Int)::rest) m=cntM c.acts 2 rest m:=by simp[cntM,hs,q2]
    rw[hm1,hm2]
    refine evLoop_next ?_ (by simpa only[List.length_cons] using ih)
    simp (maxSteps:=1000000) +contextual -dsimp [Tryz.f80,hlt,hi,hc,hw,ha,q,q2]
   ·have ih:=lp84 l c at_ hb all hall hk rest (i+1) n (m+1) hr (by omega) (by omega)
    rw[he] at ih
    have hm1:cntM c.acts 1 ((a:Int)::rest) n=cntM c.acts 1 rest n:=by simp[cntM,hs,q]
    have hm2:cntM c.acts 2 ((a:Int)::rest) m=cntM c.acts 2 rest (m+1):=by simp[cntM,hs,q2]
    rw[hm1,hm2]
    refine evLoop_next ?_ (by simpa only[List.length_cons] using ih)
    simp (maxSteps:=1000000) +contextual -dsimp [Tryz.f80,hlt,hi,hc,hw,hw3,ha,q,q2]
  ·have q2:eqI (c.acts[a]) 2=false:=by simp[eqI] at q ⊢;omega
   have ih:=lp84 l c at_ hb all hall hk rest (i+1) (n+1) m hr (by omega) (by omega)
   rw[he] at ih
   have hm1:cntM c.acts 1 ((a:Int)::rest) n=cntM c.acts 1 rest (n+1):=by simp[cntM,hs,q]
   have hm2:cntM c.acts 2 ((a:Int)::rest) m=cntM c.acts 2 rest m:=by simp[cntM,hs,q2]
   rw[hm1,hm2]
   refine evLoop_next ?_ (by simpa only[List.length_cons] using ih)
   simp (maxSteps:=1000000) +contextual -dsimp [Tryz.f80,hlt,hi,hc,hw,hw2,ha,q]
theorem kids4_at {p:Int}:∀ {l:List Step} {i:Nat} {k:Int},k∈kids4M p i l→∃ a:Nat,k=a∧a<i+l.length
 | [],i,k,h=>by simp[kids4M] at h
 | x::l,i,k,h=>by
  unfold kids4M at h
  have tl:k∈kids4M p (i+1) l→∃ a:Nat,k=a∧a<i+(x::l).length:=fun h=>by
   obtain⟨a,h1,h2⟩:=kids4_at h
   exact⟨a,h1,by simp;omega⟩
  split at h
  ·rcases List.mem_cons.1 h with rfl | h
   ·exact⟨i,rfl,by simp⟩
   ·exact tl h
  ·exact tl h
def wrongK (k:Int) (c:Chart) (on over:Int) (list:List Int) (due:Bool):Bool:=
 if orB (eqI k 1) (eqI k 3)=true then orB (orB (notB (eqI on 1)) (ltI 0 over)) due
 else if eqI k 4=true then orB (orB (ltI on 1) (notB (eqI (on+over) list.length))) due
 else if eqI k 8=true then orB (orB (notB (eqI on 1)) (ltI 0 over)) (notB (eqB due (eqI (szAt c.acts (szAt list 0)) 1)))
 else if eqI k 6=true then notB due
 else if eqI k 7=true then true
 else due
def wrong9 (l:List Step) (c:Chart) (i:Nat):Bool:=
 if notB (eqI (szAt c.acts i) 1)=true then orB (ltI 0 ((cntM c.acts 1 (kids4M i 0 l) 0:Nat)+(cntM c.acts 2 (kids4M i 0 l) 0:Nat))) (notB (eqI (szAt c.dues i) 0))
 else wrongK (kindOf l i) c (cntM c.acts 1 (kids4M i 0 l) 0:Nat) (cntM c.acts 2 (kids4M i 0 l) 0:Nat) (kids4M i 0 l) (notB (eqI (szAt c.dues i) 0))
theorem f_l9Wrong (l:List Step) (hl:l.length≤24) (c:Chart) (ha:c.acts.length=l.length) (hd:c.dues.length=l.length) (i:Nat) (hi:i<l.length):
  fo 80 [A (.sl 112 (l.map (sT 206))),A (.ipt (cT c)),A (vI i)]=some (R (vB (wrong9 l c i))):=by
 have g1:=f_l4Kids l (by omega) i
 have hk:∀ k,k∈kids4M i 0 l→∃ a:Nat,k=a∧a<c.acts.length:=fun k h=>by
  obtain⟨a,h1,h2⟩:=kids4_at h
  exact⟨a,h1,by omega⟩
 have hfew:=kids4_le i l 0
 have hia:i<c.acts.length:=by omega
 have hid:i<c.dues.length:=by omega
 have hsa:szAt c.acts (i:Int)=c.acts[i]:=szAt_get hia
 have hsd:szAt c.dues (i:Int)=c.dues[i]:=szAt_get hid
 have hki:kindOf l i=(l[i]).kind:=by simp[kindOf,hi]
 have b1:=cnt_le c.acts 1 (kids4M i 0 l) 0
 have b2:=cnt_le c.acts 2 (kids4M i 0 l) 0
 have hlp:=lp84 l c i (by omega) (kids4M i 0 l) (by omega) hk (kids4M i 0 l) 0 0 0 rfl (by omega) (by omega)
 unfold wrong9
 rw[hsa,hsd,hki]
 have hl0:cntM c.acts 1 (kids4M i 0 l) 0=1→0<(kids4M i 0 l).length:=fun h=>by omega
 generalize hon:cntM c.acts 1 (kids4M i 0 l) 0=on at *
 generalize hov:cntM c.acts 2 (kids4M i 0 l) 0=ov at *
 have hw:IntKind.i64.wrap ((on:Int)+ov)=(on:Int)+ov:=by rw[wrapI]<;>omega
 generalize kids4M i 0 l=ks at *
 have hse:=seal4_iE ks
 refine orc_80 (ks.length+1) ?_
 simp -dsimp [Tryz.f80] at hlp
 cases q2:eqI c.acts[i] 1
 ·simp (maxSteps:=1000000) +contextual -dsimp [Tryz.f80,g1,hse,hlp,hia,hid,q2,hw]
 ·cases e1:eqI (l[i].kind) 1
  ·cases e3:eqI (l[i].kind) 3
   ·cases e4:eqI (l[i].kind) 4
    ·cases e8:eqI (l[i].kind) 8
     ·cases e6:eqI (l[i].kind) 6
      ·cases e7:eqI (l[i].kind) 7
       ·simp (maxSteps:=1000000) +contextual -dsimp [Tryz.f80,g1,hse,hlp,hia,hid,hi,q2,wrongK,e1,e3,e4,e8,e6,e7]
       ·simp (maxSteps:=1000000) +contextual -dsimp [Tryz.f80,g1,hse,hlp,hia,hid,hi,q2,wrongK,e1,e3,e4,e8,e6,e7]
      ·simp (maxSteps:=1000000) +contextual -dsimp [Tryz.f80,g1,hse,hlp,hia,hid,hi,q2,wrongK,e1,e3,e4,e8,e6]
     ·cases o1:eqI (on:Int) 1
      ·simp (maxSteps:=1000000) +contextual -dsimp [Tryz.f80,g1,hse,hlp,hia,hid,hi,q2,wrongK,e1,e3,e4,e8,o1]
      ·have hpos:0<ks.length:=hl0 (by simp[eqI] at o1;omega)
       obtain⟨a,ka,hla⟩:=hk (ks[0]) (List.getElem_mem _)
       have hs0:szAt ks 0=ks[0]:=szAt_get hpos
       have hs1:szAt c.acts (a:Int)=c.acts[a]:=szAt_get hla
       cases o2:ltI 0 (ov:Int)
       ·simp (maxSteps:=1000000) +contextual -dsimp [Tryz.f80,g1,hse,hlp,hia,hid,hi,q2,wrongK,e1,e3,e4,e8,o1,o2,hpos,hs0,ka,hs1,hla]
       ·simp (maxSteps:=1000000) +contextual -dsimp [Tryz.f80,g1,hse,hlp,hia,hid,hi,q2,wrongK,e1,e3,e4,e8,o1,o2,hs0,ka,hs1]
    ·simp (maxSteps:=1000000) +contextual -dsimp [Tryz.f80,g1,hse,hlp,hia,hid,hi,q2,hw,wrongK,e1,e3,e4]
   ·simp (maxSteps:=1000000) +contextual -dsimp [Tryz.f80,g1,hse,hlp,hia,hid,hi,q2,wrongK,e1,e3]
  ·simp (maxSteps:=1000000) +contextual -dsimp [Tryz.f80,g1,hse,hlp,hia,hid,hi,q2,wrongK,e1]
def rng9 (c:Chart) (i:Nat):Bool:=orB (notB (inR (szAt c.acts i) 0 2)) (notB (inR (szAt c.dues i) 0 (c.now+99)))
def rngs9 (c:Chart):Nat→Nat→Bool
 | 0,_=>false
 | f+1,i=>if rng9 c i=true then true else rngs9 c f (i+1)
def some1 (c:Chart) (i:Nat) (s:Bool):Bool:=orB (orB s (notB (eqI (szAt c.acts i) 0))) (notB (eqI (szAt c.dues i) 0))
def some9 (c:Chart):Nat→Nat→Bool→Bool
 | 0,_,s=>s
 | f+1,i,s=>some9 c f (i+1) (some1 c i s)
theorem lp66a (l:List Step) (hl:l.length≤24) (c:Chart) (ha:c.acts.length=l.length) (hd:c.dues.length=l.length) (hn0:0≤c.now) (hn1:c.now≤1000000):∀ (f i:Nat) (s:Bool),i+f=l.length→
    evLoop E (orc E) (58:Nat) (f+1) (loopOf Tryz.f58 0) ⟨130,[(0,.sl 112 (l.map (sT 206))),(1,.ipt (cT c)),(7,vB s),(8,vI i)],[],2⟩=
    (if rngs9 c f i = true then some (.ret, ⟨130, [(4, vI 3)], [], 2⟩)
     else some (.exit 0,⟨130,[(0,.sl 112 (l.map (sT 206))),(1,.ipt (cT c)),(7,vB (some9 c f i s)),(8,vI l.length),(58,vB false)],[],2⟩))
  | 0,i,s,h=>by
    have e:i=l.length:=by omega
    subst e
    have hlt:ltI (l.length:Int) (l.length:Int)=false:=ltI_f (by omega)
    rw[loop_eq]
    simp +contextual -dsimp [Tryz.f58,hlt,rngs9,some9]
  | f+1,i,s,h=>by
    have hi:i<l.length:=by omega
    have hia:i<c.acts.length:=by omega
    have hid:i<c.dues.length:=by omega
    have hsa:szAt c.acts (i:Int)=c.acts[i]:=szAt_get hia
    have hsd:szAt c.dues (i:Int)=c.dues[i]:=szAt_get hid
    have hlt:ltI (i:Int) (l.length:Int)=true:=ltI_t (by omega)
    have hw:IntKind.i64.wrap ((i:Int)+1)=((i+1:Nat):Int):=by rw[wrapI]<;>omega
    have hw2:IntKind.i64.wrap (c.now+99)=c.now+99:=by rw[wrapI]<;>omega
    cases q:inR c.acts[i] 0 2
    · have hm : rngs9 c (f + 1) i = true := by simp [rngs9, rng9, hsa, q, notB, orB]
      rw[hm,if_pos rfl]
      refine evLoop_out ?_ (by simp)
      simp (maxSteps:=1000000) +contextual -dsimp [Tryz.f58,hlt,hia,f_l1In,q]
    · cases q2 : inR c.dues[i] 0 (c.now + 99)
      · have hm : rngs9 c (f + 1) i = true := by simp [rngs9, rng9, hsa, hsd, q, q2, notB, orB]
        rw[hm,if_pos rfl]
        refine evLoop_out ?_ (by simp)
        simp (maxSteps:=1000000) +contextual -dsimp [Tryz.f58,hlt,hia,hid,hw2,f_l1In,q,q2]
      · have ih := lp66a l hl c ha hd hn0 hn1 f (i + 1) (some1 c i s) (by omega)
        have hm:rngs9 c (f+1) i=rngs9 c f (i+1):=by simp[rngs9,rng9,hsa,hsd,q,q2,notB,orB]
        have hm2:some9 c (f+1) i s=some9 c f (i+1) (some1 c i s):=rfl
        rw[hm,hm2]
        refine evLoop_next ?_ ih
        unfold some1
        rw[hsa,hsd]
        simp (maxSteps:=1000000) +contextual -dsimp [Tryz.f58,hlt,hia,hid,hw,hw2,f_l1In,q,q2]
def wrongs9 (l:List Step) (c:Chart):Nat→Nat→Bool
 | 0,_=>false
 | f+1,i=>if wrong9 l c i=true then true else wrongs9 l c f (i+1)
theorem lp66b (l:List Step) (hl:l.length≤24) (c:Chart) (ha:c.acts.length=l.length) (hd:c.dues.length=l.length):∀ (f i:Nat),i+f=l.length→
    evLoop E (orc E) (58:Nat) (f+1) (loopOf Tryz.f58 1) ⟨130,[(0,.sl 112 (l.map (sT 206))),(1,.ipt (cT c)),(9,vI i)],[],2⟩=
    (if wrongs9 l c f i = true then some (.ret, ⟨130, [(4, vI 1)], [], 2⟩)
     else some (.exit 2,⟨130,[(0,.sl 112 (l.map (sT 206))),(1,.ipt (cT c)),(9,vI l.length),(123,vB false)],[],2⟩))
  | 0,i,h=>by
    have e:i=l.length:=by omega
    subst e
    have hlt:ltI (l.length:Int) (l.length:Int)=false:=ltI_f (by omega)
    rw[loop_eq]
    simp +contextual -dsimp [Tryz.f58,hlt,wrongs9]
  | f+1,i,h=>by
    have hi:i<l.length:=by omega
    have hlt:ltI (i:Int) (l.length:Int)=true:=ltI_t (by omega)
    have hw:IntKind.i64.wrap ((i:Int)+1)=((i+1:Nat):Int):=by rw[wrapI]<;>omega
    have g:=f_l9Wrong l hl c ha hd i hi
    cases q:wrong9 l c i
    · have ih := lp66b l hl c ha hd f (i + 1) (by omega)
      have hm:wrongs9 l c (f+1) i=wrongs9 l c f (i+1):=by simp[wrongs9,q]
      rw[hm]
      refine evLoop_next ?_ ih
      simp (maxSteps:=1000000) +contextual -dsimp [Tryz.f58,hlt,g,q,hw]
    · have hm : wrongs9 l c (f + 1) i = true := by simp [wrongs9, q]
      rw[hm,if_pos rfl]
      refine evLoop_out ?_ (by simp)
      simp (maxSteps:=1000000) +contextual -dsimp [Tryz.f58,hlt,g,q]
def fault9 (l:List Step) (c:Chart):Int:=
 if notB (eqI (fault4M l) 0)=true then fault4M l
 else if orB (notB (inR c.status 1 3)) (notB (inR c.now 0 1000000))=true then 3
 else if notB (eqI (vars4M c.vars) 0)=true then vars4M c.vars
 else if orB (notB (eqI c.acts.length l.length)) (notB (eqI c.dues.length l.length))=true then 2
 else if rngs9 c l.length 0=true then 3
 else if notB (eqI c.status 1)=true then (if some9 c l.length 0 false=true then 1 else 0)
 else if notB (eqI (szAt c.acts 0) 1)=true then 1
 else if wrongs9 l c l.length 0=true then 1 else 0
theorem fault4_pos {l:List Step} (h:fault4M l=0):1≤l.length∧l.length≤24:=by
 unfold fault4M at h
 split at h
 ·simp at h
 ·rename_i c;simp[orB,ltI] at c;omega
theorem f_l9Fault (l:List Step) (hl:l.length<2 ^ 62) (hf:FitX l) (c:Chart):fo 58 [A (.sl 112 (l.map (sT 206))),A (.ipt (cT c))]=some (R (vI (fault9 l c))):=by
 have g1:=f_l4Fault l hl hf
 have g2:=f_Vars4 c.vars
 unfold fault9
 refine orc_58 (l.length+1) ?_
 cases q1:eqI (fault4M l) 0
 ·simp (maxSteps:=1000000) +contextual -dsimp [Tryz.f58,g1,q1]
 ·have e0:fault4M l=0:=by simpa[eqI] using q1
  obtain⟨p1,p2⟩:=fault4_pos e0
  cases q2:inR c.status 1 3
  ·simp (maxSteps:=1000000) +contextual -dsimp [Tryz.f58,g1,e0,eqI_self,f_l1In,q2]
  ·cases q3:inR c.now 0 1000000
   ·simp (maxSteps:=1000000) +contextual -dsimp [Tryz.f58,g1,e0,eqI_self,f_l1In,f_l8Time,q2,q3]
   ·cases q4:eqI (vars4M c.vars) 0
    ·simp (maxSteps:=1000000) +contextual -dsimp [Tryz.f58,g1,g2,e0,eqI_self,f_l1In,f_l8Time,q2,q3,q4]
    ·have e1:vars4M c.vars=0:=by simpa[eqI] using q4
     cases q5:eqI c.acts.length l.length
     ·simp (maxSteps:=1000000) +contextual -dsimp [Tryz.f58,g1,g2,e0,e1,eqI_self,f_l1In,f_l8Time,q2,q3,q5]
     ·cases q6:eqI c.dues.length l.length
      ·simp (maxSteps:=1000000) +contextual -dsimp [Tryz.f58,g1,g2,e0,e1,eqI_self,f_l1In,f_l8Time,q2,q3,q5,q6]
      ·have ha:c.acts.length=l.length:=by simp[eqI] at q5;omega
       have hd:c.dues.length=l.length:=by simp[eqI] at q6;omega
       have hn:0≤c.now∧c.now≤1000000:=by simp[inR,andB,leI] at q3;omega
       have hlp:=lp66a l p2 c ha hd hn.1 hn.2 l.length 0 false (by omega)
       have hlq:=lp66b l p2 c ha hd l.length 0 (by omega)
       have ha0:0<c.acts.length:=by omega
       have hs:szAt c.acts 0=c.acts[0]:=szAt_get ha0
       simp -dsimp [Tryz.f58] at hlp hlq
       cases q7:rngs9 c l.length 0
       ·rw[q7] at hlp
        cases q8:eqI c.status 1
        ·cases q9:some9 c l.length 0 false
         ·rw[q9] at hlp
          simp (maxSteps:=1000000) +contextual -dsimp [Tryz.f58,g1,g2,e0,e1,eqI_self,f_l1In,f_l8Time,q2,q3,q5,q6,q8,hlp]
         ·rw[q9] at hlp
          simp (maxSteps:=1000000) +contextual -dsimp [Tryz.f58,g1,g2,e0,e1,eqI_self,f_l1In,f_l8Time,q2,q3,q5,q6,q8,hlp]
        ·rw[hs]
         cases q10:eqI c.acts[0] 1
         ·simp (maxSteps:=1000000) +contextual -dsimp [Tryz.f58,g1,g2,e0,e1,eqI_self,f_l1In,f_l8Time,q2,q3,q5,q6,q8,q10,ha0,hlp]
         ·cases q11:wrongs9 l c l.length 0
          ·rw[q11] at hlq
           simp (maxSteps:=1000000) +contextual -dsimp [Tryz.f58,g1,g2,e0,e1,eqI_self,f_l1In,f_l8Time,q2,q3,q5,q6,q8,q10,ha0,hlp,hlq]
          ·rw[q11] at hlq
           simp (maxSteps:=1000000) +contextual -dsimp [Tryz.f58,g1,g2,e0,e1,eqI_self,f_l1In,f_l8Time,q2,q3,q5,q6,q8,q10,ha0,hlp,hlq]
       ·rw[q7] at hlp
        simp (maxSteps:=1000000) +contextual -dsimp [Tryz.f58,g1,g2,e0,e1,eqI_self,f_l1In,f_l8Time,q2,q3,q5,q6,hlp]
end Go.TM.It
