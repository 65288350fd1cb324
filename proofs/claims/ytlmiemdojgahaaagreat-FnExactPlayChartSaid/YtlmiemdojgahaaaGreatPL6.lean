/- What functions of the program come to, by the machine. -/
import Derived.Test.YtlmiemdojgahaaaGreatPL5
import Derived.Test.YtlmiemdojgahaaaGreatPL4
set_option linter.unusedSimpArgs false
set_option linter.unusedVariables false
namespace Go.TM.Ft
theorem nodes_kind {l:List Node} (hz:nodesM 0 l=0):∀ n,n∈l→1≤n.kind∧n.kind≤10:=fun n hn=>by
 obtain ⟨k,hk,he⟩:=List.getElem_of_mem hn
 have h:=nodesM_at hz k n (by simp [hk,he])
 rw [← node_same] at h
 unfold l3NodeM at h
 split at h
 ·simp at h
 ·rename_i c
  simp [notB,inR,andB,leI] at c
  exact c
theorem part_want {k:Int} (h:k≤10):(partB k).1=want4 k∧(partB k).2=is4 k:=by
 unfold partB want4 is4
 simp only [leI,eqI,orB]
 by_cases a:k≤6
 ·have b:¬ k=9:=by omega
  have c:¬ k=10:=by omega
  have d:¬ 7≤k:=by omega
  simp [a,b,c,d]
 ·by_cases b:k≤8
  ·have b':¬ k=9:=by omega
   have c:¬ k=10:=by omega
   have d:7≤k:=by omega
   simp [a,b,b',c,d]
  ·have d:7≤k:=by omega
   have e:k=9∨k=10:=by omega
   simp [a,b,d]
   omega
theorem types_same:∀ (l:List Node) (acc:List Int),(∀ n,n∈l→1≤n.kind∧n.kind≤10)→types4M l acc=typesM l acc
 | [],_,_=>rfl
 | n::l,acc,h=>by
  obtain ⟨h1,h2⟩:=part_want (h n (by simp)).2
  have e:bad4 n acc=badT n acc:=by
   unfold bad4 badT
   rw [h1]; rfl
  unfold types4M typesM
  rw [e,h2,types_same l _ fun n hn=>h n (by simp [hn])]
theorem type_same (l:List Node):type4M l=((typeM l).2,(typeM l).1):=by
 unfold type4M typeM
 rw [expr_same]
 by_cases h:exprM l=0
 ·have hq:¬ (notB (eqI (exprM l) 0)=true):=by simp [notB,eqI,h]
  have hz:nodesM 0 l=0:=by
   unfold exprM at h
   split at h
   ·simp at h
   ·split at h
    ·rename_i c; rw [h] at c; simp [notB,eqI] at c
    ·rename_i c; simpa [notB,eqI] using c
  rw [if_neg hq,if_neg hq,types_same l [] (nodes_kind hz)]
  split <;> rfl
 ·have hq:notB (eqI (exprM l) 0)=true:=by simp [notB,eqI,h]
  rw [if_pos hq,if_pos hq]
theorem typed_same (l:List Node) (want:Int):typed4M l want=typeFaultM l want:=by
 unfold typed4M typeFaultM first2
 rw [type_same]
 simp only
 by_cases h0:eqI l.length 0=true
 ·rw [if_pos h0,if_pos h0]
 rw [if_neg h0,if_neg h0]
 by_cases h:(typeM l).1=0
 ·have hq:¬ (notB (eqI (typeM l).1 0)=true):=by simp [notB,eqI,h]
  have hq2:eqI (typeM l).1 0=true:=by simp [eqI,h]
  rw [if_neg hq,if_pos hq2]
 ·have hq:notB (eqI (typeM l).1 0)=true:=by simp [notB,eqI,h]
  have hq2:¬ eqI (typeM l).1 0=true:=by simp [eqI,h]
  rw [if_pos hq,if_neg hq2]
theorem name_same (s:ByteArray):name4M s=nameM s:=by
 unfold name4M nameM first2
 cases h1:smalls s.data.toList <;> cases h2:eqS s emp <;> simp [orB,notB,eqI]
theorem line_low {l:List Step} {p:Int} {i:Nat} (hi:i≤l.length) (ha:Ahead l i):∀ (g:Nat) (at_:Int),-1≤at_→at_ < i→at_ < p→lineM l p g at_=false
 | 0,_,_,_,_=>rfl
 | g+1,at_,h1,h2,h3=>by
  unfold lineM
  by_cases h:0≤at_
  ·have hk:at_.toNat < l.length:=by omega
   obtain ⟨a1,a2⟩:=ha at_.toNat hk (by omega)
   have hp:parOf l at_.toNat=(l[at_.toNat]).parent:=by simp [parOf,hk]
   rw [if_pos (by simp [leI,h]),if_neg (by simp [eqI]; omega),hp]
   exact line_low hi ha g _ a1 (by omega) (by omega)
  ·rw [if_neg (by simp [leI]; omega)]
theorem climb_line {l:List Step} {p:Int} {i:Nat} {list:List Int} (hi:i≤l.length) (ha:Ahead l i) (hl:list.length=i) (hq:∀ k,k < i→list[k]?=some (parOf l k)) (hp0:0≤p):
  ∀ (f g:Nat) (at_:Int),-1≤at_→at_ < i→at_ < f→at_ < g→(climbM list p f at_=p ↔ lineM l p g at_=true)
 | 0,g,at_,h1,h2,h3,h4=>by
  have e:at_=-1:=by omega
  rw [line_low hi ha g at_ h1 h2 (by omega)]
  simp [climbM]; omega
 | f+1,0,at_,h1,h2,h3,h4=>by
  have e:at_=-1:=by omega
  subst e
  have:ltI p (-1)=false:=by simp [ltI]; omega
  simp [climbM,lineM,this]; omega
 | f+1,g+1,at_,h1,h2,h3,h4=>by
  rcases Int.lt_trichotomy at_ p with h | h | h
  ·rw [line_low hi ha (g+1) at_ h1 h2 h]
   have:ltI p at_=false:=by simp [ltI]; omega
   simp [climbM,this]; omega
  ·subst h
   have:ltI at_ at_=false:=by simp [ltI]
   simp [climbM,lineM,this,leI,hp0,eqI]
  ·have hk:at_.toNat < l.length:=by omega
   obtain ⟨a1,a2⟩:=ha at_.toNat hk (by omega)
   have hp:parOf l at_.toNat=(l[at_.toNat]).parent:=by simp [parOf,hk]
   have e1:ltI p at_=true:=by simp [ltI]; omega
   have e2:list.getD at_.toNat (-1)=parOf l at_.toNat:=by rw [List.getD_eq_getElem?_getD,hq at_.toNat (by omega)]; rfl
   have e3:leI 0 at_=true:=by simp [leI]; omega
   have e4:eqI at_ p=false:=by simp [eqI]; omega
   unfold climbM lineM
   rw [e1,e3,e4,e2]
   simp only [if_true,Bool.false_eq_true,if_false]
   exact climb_line hi ha hl hq hp0 f g _ (by omega) (by omega) (by omega) (by omega)
theorem deep_fuel {l:List Step} {i:Nat} (hi:i≤l.length) (ha:Ahead l i):∀ (f g:Nat) (at_:Int),-1≤at_→at_ < i→at_ < f→at_ < g→deepM l f at_=deepM l g at_
 | 0,g,at_,h1,h2,h3,h4=>by
  have e:at_=-1:=by omega
  subst e
  cases g <;> simp [deepM,leI]
 | f+1,0,at_,h1,h2,h3,h4=>by
  have e:at_=-1:=by omega
  subst e
  simp [deepM,leI]
 | f+1,g+1,at_,h1,h2,h3,h4=>by
  unfold deepM
  by_cases h:0≤at_
  ·have hk:at_.toNat < l.length:=by omega
   obtain ⟨a1,a2⟩:=ha at_.toNat hk (by omega)
   have hp:parOf l at_.toNat=(l[at_.toNat]).parent:=by simp [parOf,hk]
   rw [deep_fuel hi ha f g (parOf l at_.toNat) (by omega) (by omega) (by omega) (by omega)]
  ·rw [if_neg (by simp [leI]; omega),if_neg (by simp [leI]; omega)]
theorem argB_none (k:Int):eqI (argB k).2 0=notB (inR k 5 8):=by
 unfold argB
 by_cases h5:k=5
 ·subst h5; rfl
 by_cases h6:k=6
 ·subst h6; rfl
 by_cases h7:k=7
 ·subst h7; rfl
 by_cases h8:k=8
 ·subst h8; rfl
 have:¬ (5≤k∧k≤8):=by omega
 simp [notB,inR,andB,eqI,leI,h5,h6,h7,h8]
 omega
theorem alien_bare (s:Step):notB (bare4 s)=alien s:=by
 unfold bare4 alien
 rw [argB_none]
 have hx:ltI 0 s.expr.length=notB (eqI s.expr.length 0):=by
  cases s.expr <;> simp [ltI,notB,eqI]; omega
 rw [hx]
 cases eqI s.kind 2 <;> cases eqS s.name emp <;> cases inR s.kind 5 8 <;> cases eqI s.arg 0 <;> cases eqI s.kind 7 <;> cases eqI s.expr.length 0 <;> rfl
structure Left (l:List Step) (i:Nat) (list deep:List Int):Prop where
 le:i≤l.length
 ahead:Ahead l i
 tree:Tree list
 len:list.length=i
 dlen:deep.length=i
 at_:∀ k,k < i→list[k]?=some (parOf l k)
 deeps:∀ k,k < i→deep[k]?=some (deepM l (k+2) k)
 bd:∀ d,d∈deep→0≤d∧d≤list.length
theorem next_deep {l:List Step} {i:Nat} {list deep:List Int} (h:Left l i list deep) (hi:i < l.length) (h1:-1≤parOf l i) (h2:parOf l i < i):nextDeep deep (parOf l i)=deepM l (i+2) i:=by
 have e:deepM l (i+2) i=1+deepM l (i+1) (parOf l i):=by
  conv=>lhs; unfold deepM
  rw [if_pos (by simp [leI])]; simp
 rw [e]
 unfold nextDeep
 by_cases h0:0≤parOf l i
 ·have hk:=h.deeps (parOf l i).toNat (by omega)
  rw [if_pos (by simp [leI,h0]),List.getD_eq_getElem?_getD,hk]
  have:=deep_fuel h.le h.ahead ((parOf l i).toNat+2) (i+1) (parOf l i) h1 h2 (by omega) (by omega)
  have e2:(((parOf l i).toNat:Nat):Int)=parOf l i:=by omega
  simp only [Option.getD_some,e2,this]; omega
 ·rw [if_neg (by simp [leI]; omega)]
  have e:parOf l i=-1:=by omega
  rw [e]
  cases i <;> simp [deepM,leI]
theorem tail_same (s:Step) (_hk:inR s.kind 1 8=true) (ha:alien s=false) (h2:¬ s.kind=2):tail4 s=stepB s:=by
 unfold tail4 stepB ci
 rw [expr_same]
 by_cases h7:s.kind=7
 ·have e:argM s.kind s.arg=inR s.arg 0 3:=by simp [argM,h7,eqI]
  have e2:argB s.kind=(0,3):=by simp [argB,h7,eqI]
  rw [e,e2]
  simp only [h7]
  cases inR s.arg 0 3 <;> simp [notB,eqI,first2]
 ·have e:argM s.kind s.arg=inR s.arg (argB s.kind).1 (argB s.kind).2:=by
   by_cases h5:s.kind=5
   ·simp [argM,argB,h5,eqI]
   by_cases h6:s.kind=6∨s.kind=8
   ·rcases h6 with h6 | h6 <;> simp [argM,argB,h6,eqI]
   ·have h6':¬ s.kind=6:=by omega
    have h8':¬ s.kind=8:=by omega
    have ha0:s.arg=0:=by
     unfold alien at ha
     rw [argB_none] at ha
     have:inR s.kind 5 8=false:=by simp [inR,andB,leI]; omega
     simp [this,orB,andB,notB,eqI] at ha
     exact ha.1.2
    simp [argM,argB,h5,h6',h8',h7,eqI,ha0,inR,andB,leI]
  rw [e]
  simp only [eqI]
  cases inR s.arg (argB s.kind).1 (argB s.kind).2 <;> simp [notB,h7,h2]
theorem one_same {l:List Step} {i:Nat} {list deep:List Int} (h:Left l i list deep) (hi:i < l.length):one4M l i l[i]=stepM l[i] list deep:=by
 have hp:parOf l i=(l[i]).parent:=by simp [parOf,hi]
 unfold one4M stepM
 by_cases c1:orB (notB (inR (l[i]).kind 1 8)) (notB (bare4 l[i]))=true
 ·have c1':=c1
  rw [alien_bare] at c1'
  have e:stepA l[i] list deep=1:=by simp [stepA,ci,c1',first2,eqI]
  rw [if_pos c1,e]; rfl
 rw [if_neg c1]
 rw [alien_bare] at c1
 have hk:inR (l[i]).kind 1 8=true:=by
  cases h:inR (l[i]).kind 1 8
  ·rw [h] at c1; exact absurd rfl c1
  ·rfl
 have ha:alien l[i]=false:=by
  rw [hk] at c1
  simpa [orB,notB] using c1
 have eA:stepA l[i] list deep=(nextM list deep (l[i]).parent).1:=by simp [stepA,ci,hk,ha,orB,notB,first2,eqI]
 rw [eA]
 have ebad:nextBad list (l[i]).parent=par4 l[i] i:=by unfold nextBad par4; rw [h.len]
 by_cases c2:par4 l[i] i=true
 ·have e:(nextM list deep (l[i]).parent).1=3:=by unfold nextM; rw [ebad,if_pos c2]
  rw [if_pos c2,e]; rfl
 rw [if_neg c2]
 have c2':par4 l[i] i=false:=by simpa using c2
 obtain ⟨p1,p2⟩:-1≤(l[i]).parent∧(l[i]).parent < i:=by
  unfold par4 at c2'
  simp only [orB,andB,notB,inR,leI,ltI,eqI,Bool.or_eq_false_iff,Bool.and_eq_false_iff,Bool.not_eq_false',decide_eq_true_eq,decide_eq_false_iff_not,beq_eq_false_iff_ne,beq_iff_eq,Bool.and_eq_true] at c2'
  omega
 have ecl:notB (eqI (climbM list (l[i]).parent list.length (list.length - 1)) (l[i]).parent)=andB (ltI 0 (i:Int)) (notB (line4 l i)):=by
  rw [h.len]
  rcases Nat.eq_zero_or_pos i with h0 | h0
  ·have e:(l[i]).parent=-1:=by omega
   rw [e,h0]; rfl
  ·have p0:0≤(l[i]).parent:=by
    unfold par4 at c2'
    simp only [orB,andB,notB,inR,leI,ltI,eqI,Bool.or_eq_false_iff,Bool.and_eq_false_iff,Bool.not_eq_false',decide_eq_true_eq,decide_eq_false_iff_not,beq_eq_false_iff_ne,beq_iff_eq,Bool.and_eq_true] at c2'
    omega
   have:=climb_line h.le h.ahead h.len h.at_ p0 i (i+1) ((i:Int) - 1) (by omega) (by omega) (by omega) (by omega)
   have e1:ltI 0 (i:Int)=true:=by simp [ltI]; omega
   unfold line4
   rw [hp,e1]
   cases hl:lineM l (l[i]).parent (i+1) ((i:Int) - 1)
   ·rw [hl] at this
    simp at this
    simp [notB,andB,eqI,this]
   ·rw [hl] at this
    simp at this
    simp [notB,andB,eqI,this]
 by_cases c3:andB (ltI 0 (i:Int)) (notB (line4 l i))=true
 ·have e:(nextM list deep (l[i]).parent).1=1:=by unfold nextM; rw [ebad,if_neg c2,ecl,if_pos c3]
  rw [if_pos c3,e]; rfl
 rw [if_neg c3]
 have e:(nextM list deep (l[i]).parent).1=0:=by unfold nextM; rw [ebad,if_neg c2,ecl,if_neg c3]
 have hq:¬ notB (eqI (0:Int) 0)=true:=by simp [notB,eqI]
 rw [e,if_neg hq]
 have ed:=next_deep h hi (by omega) (by omega)
 rw [hp] at ed
 rw [ed]
 unfold deep4 ci
 by_cases c4:ltI 7 (deepM l (i+2) i)=true
 ·rw [if_pos c4,if_pos c4]; rfl
 rw [if_neg c4,if_neg c4,if_neg hq]
 by_cases c5:(l[i]).kind=2
 ·have hq5:eqI (l[i]).kind 2=true:=by simp [eqI,c5]
  unfold stepB
  rw [if_pos hq5,if_pos hq5,name_same]
  by_cases c6:nameM (l[i]).name=0
  ·rw [c6,if_neg hq]
   simp [tail4,c5,argM,eqI,notB]
  ·rw [if_pos (by simp [notB,eqI,c6])]
 ·rw [if_neg (by simp [eqI,c5])]
  exact tail_same _ hk ha c5
theorem left_next {l:List Step} {i:Nat} {list deep:List Int} (h:Left l i list deep) (hi:i < l.length) (hz:stepM l[i] list deep=0):
  (nextM list deep (l[i]).parent).2.1=list++[(l[i]).parent]∧(nextM list deep (l[i]).parent).2.2=deep++[nextDeep deep (l[i]).parent]∧
  Left l (i+1) (list++[(l[i]).parent]) (deep++[nextDeep deep (l[i]).parent]):=by
 obtain ⟨n1,n2,n3,n4,n5⟩:=step_next hz h.tree (by rw [h.dlen,h.len]) h.bd
 have hp:parOf l i=(l[i]).parent:=by simp [parOf,hi]
 rw [h.len] at n4
 refine ⟨by rw [n1],by rw [n1],?_⟩
 have ed:=next_deep h hi (by omega) (by omega)
 rw [hp] at ed
 constructor
 ·omega
 ·intro k hk1 hk2
  rcases Nat.lt_or_ge k i with h' | h'
  ·exact h.ahead k hk1 h'
  ·have e:k=i:=by omega
   subst e; exact ⟨n3,n4⟩
 ·exact n2
 ·simp [h.len]
 ·simp [h.dlen]
 ·intro k hk
  rcases Nat.lt_or_ge k i with h' | h'
  ·rw [List.getElem?_append_left (by rw [h.len]; exact h')]; exact h.at_ k h'
  ·have e:k=i:=by omega
   subst e
   rw [List.getElem?_append_right (by rw [h.len]; omega)]; simp [h.len,hp]
 ·intro k hk
  rcases Nat.lt_or_ge k i with h' | h'
  ·rw [List.getElem?_append_left (by rw [h.dlen]; exact h')]; exact h.deeps k h'
  ·have e:k=i:=by omega
   subst e
   rw [List.getElem?_append_right (by rw [h.dlen]; omega)]; simp [h.dlen,ed]
 ·exact n5
theorem ones_same {l:List Step}:∀ (rest:List Step) (i:Nat) (list deep:List Int),l.drop i=rest→Left l i list deep→
  onesM l i rest=(procA rest list deep).1∧(onesM l i rest=0→Ahead l l.length)
 | [],i,list,deep,h,hl=>by
  have hge:l.length≤i:=by simpa using h
  have e:i=l.length:=by have:=hl.le; omega
  subst e
  exact ⟨rfl,fun _=>hl.ahead⟩
 | s::rest,i,list,deep,h,hl=>by
  obtain ⟨hi,hc,hr⟩:=drop_cons h
  subst hc
  have e:=one_same hl hi
  unfold onesM procA
  rw [e]
  by_cases hz:stepM l[i] list deep=0
  ·obtain ⟨e1,e2,hl2⟩:=left_next hl hi hz
   rw [if_pos (by simp [eqI,hz]),if_neg (by simp [notB,eqI,hz]),e1,e2]
   exact ones_same rest (i+1) _ _ hr hl2
  ·rw [if_neg (by simp [eqI,hz]),if_pos (by simp [notB,eqI,hz])]
   exact ⟨rfl,fun h=>absurd h hz⟩
theorem kids_same {p:Int}:∀ (r:List Step) (i:Nat),(i=0→∀ s,r[0]?=some s→s.parent≠p)→kidsM p i r=kids4M p i r
 | [],_,_=>rfl
 | s::r,i,h=>by
  unfold kidsM kids4M
  rw [kids_same r (i+1) (fun h0 s' _=>absurd h0 (by omega))]
  by_cases h0:i=0
  ·have:=h h0 s (by simp)
   have e1:eqI s.parent p=false:=by simp [eqI,this]
   simp [e1,andB]
  ·have e1:ltI 0 (i:Int)=true:=by simp [ltI]; omega
   simp [e1,andB]
theorem kids4_le (p:Int):∀ (r:List Step) (i:Nat),(kids4M p i r).length≤r.length
 | [],_=>Nat.le_refl _
 | s::r,i=>by
  have:=kids4_le p r (i+1)
  unfold kids4M
  split
  ·simp; omega
  ·simp; omega
theorem many_same {k n:Int} (_h0:0≤n) (h:n≤24):inR n (kidB k).1 (kidB k).2=manyM k n:=by
 unfold kidB manyM
 by_cases h1:k=1
 ·have:n≤24:=h
  simp [h1,eqI,inR,andB,leI,this]
 by_cases h3:k=3
 ·simp [h3,eqI,inR,andB,leI,orB,h]
 by_cases h4:k=4
 ·simp [h4,eqI,inR,andB,leI,orB,h]
 have hx:∀ m:Int,inR n m m=eqI n m:=fun m=>by
  unfold inR andB leI eqI
  by_cases a:n=m
  ·simp [a]
  ·have e:(n==m)=false:=by simp [a]
   rw [e]
   have:¬ (m≤n∧n≤m):=by omega
   simp
   intro h; omega
 by_cases h8:k=8
 ·simp [h8,eqI,hx,orB]
 ·have q1:eqI k 1=false:=by simp [eqI,h1]
  have q3:eqI k 3=false:=by simp [eqI,h3]
  have q4:eqI k 4=false:=by simp [eqI,h4]
  have q8:eqI k 8=false:=by simp [eqI,h8]
  simp [q1,q3,q4,q8,orB,hx]
theorem shape_one {l:List Step} (hl:l.length≤24) (h0:parOf l 0=-1) (hp:∀ k,0 < k→k < l.length→0≤parOf l k) {i:Nat} (hi:i < l.length):shapeOne l i l[i]=condFaultM l i:=by
 have hk:∀ p:Int,0≤p→kidsM p 0 l=kids4M p 0 l:=fun p hp=>kids_same l 0 fun _ s hs=>by
  have:parOf l 0=s.parent:=by simp [parOf,hs]
  omega
 have hcond:hasCond l i=ltI 0 (l[i]).cond.length:=by simp [hasCond,hi]
 have hco:condOf l i=(l[i]).cond:=by simp [condOf,hi]
 have hkind:kindOf l i=(l[i]).kind:=by simp [kindOf,hi]
 have hwant:wantsM l i=needsM l i:=by
  unfold wantsM needsM
  rcases Nat.eq_zero_or_pos i with e | e
  ·subst e
   rw [if_pos (by simp [orB,eqI]),if_pos (by rw [h0]; simp [orB,ltI])]
  ·have h1:=hp i e hi
   have e1:eqI (i:Int) 0=false:=by simp [eqI]; omega
   have e2:ltI (parOf l i) 0=false:=by simp [ltI]; omega
   rw [e1,e2,hk _ h1]
   have:∀ a b:Int,eqI a b=eqI b a:=fun a b=>by simp [eqI,Bool.beq_comm]
   rw [this (i:Int)]
 have hn:=kids4_le i l 0
 unfold shapeOne condFaultM condCode kidsN
 rw [hcond,hco,hkind,hwant,hk i (by omega),many_same (by omega) (by omega),expr_same]
 cases manyM (l[i]).kind (kids4M i 0 l).length
 ·simp [notB,first2,eqI,orB]
 ·cases needsM l i <;> cases ltI 0 (l[i]).cond.length <;> simp [notB,first2,eqI,eqB,orB]
theorem shape_same {l:List Step} (hl:l.length≤24) (h0:parOf l 0=-1) (hp:∀ k,0 < k→k < l.length→0≤parOf l k):∀ (rest:List Step) (i:Nat),l.drop i=rest→shapeM l i rest=procB l rest.length i
 | [],i,h=>rfl
 | s::rest,i,h=>by
  obtain ⟨hi,hc,hr⟩:=drop_cons h
  subst hc
  have e:=shape_one hl h0 hp hi
  unfold shapeM
  rw [e,List.length_cons]
  unfold procB
  rw [shape_same hl h0 hp rest (i+1) hr]
  by_cases hz:condFaultM l i=0
  ·rw [if_pos (by simp [eqI,hz]),if_neg (by simp [notB,eqI,hz])]
  ·rw [if_neg (by simp [eqI,hz]),if_pos (by simp [notB,eqI,hz])]
theorem typs_same:∀ (l:List Step),typsM l=procC l
 | []=>rfl
 | s::l=>by
  unfold typsM procC typOne first2
  rw [typed_same,typed_same,typs_same l]
  by_cases h1:typeFaultM s.cond 2=0
  ·have q:eqI (typeFaultM s.cond 2) 0=true:=by simp [eqI,h1]
   rw [if_pos q]
   by_cases h2:typeFaultM s.expr 1=0
   ·rw [if_pos (by simp [eqI,h2]),if_neg (by simp [notB,eqI,h2])]
   ·rw [if_neg (by simp [eqI,h2]),if_pos (by simp [notB,eqI,h2])]
  ·have q:¬ eqI (typeFaultM s.cond 2) 0=true:=by simp [eqI,h1]
   rw [if_neg q,if_neg q,if_pos (by simp [notB,eqI,h1])]
theorem one_parent0 {l:List Step} {s:Step} (h:one4M l 0 s=0):s.parent=-1:=by
 unfold one4M at h
 split at h
 ·simp at h
 ·split at h
  ·simp at h
  ·rename_i c
   simp [par4,orB,andB,notB,eqI,ltI] at c
   exact c
theorem one_parent {l:List Step} {i:Nat} {s:Step} (h:one4M l i s=0) (hi:0 < i):0≤s.parent:=by
 unfold one4M at h
 split at h
 ·simp at h
 ·split at h
  ·simp at h
  ·rename_i c
   have c:par4 s i=false:=by simpa using c
   unfold par4 at c
   simp only [orB,andB,notB,inR,leI,ltI,eqI,Bool.or_eq_false_iff,Bool.and_eq_false_iff,Bool.not_eq_false',decide_eq_true_eq,decide_eq_false_iff_not,beq_eq_false_iff_ne,beq_iff_eq,Bool.and_eq_true] at c
   omega
theorem ones_at {l:List Step}:∀ {r:List Step} {i:Nat},onesM l i r=0→∀ (k:Nat) (s:Step),r[k]?=some s→one4M l (i+k) s=0
 | [],i,_,k,n,h=>by simp at h
 | x::r,i,hz,k,s,h=>by
  unfold onesM at hz
  split at hz
  ·rename_i hc
   cases k with
   | zero=>simp at h; subst h; simpa [eqI] using hc
   | succ k=>
    have:=ones_at hz k s (by simpa using h)
    have e:i+1+k=i+(k+1):=by omega
    rw [← e]; exact this
  ·rename_i hc; exact absurd (by simp [eqI,hz]) hc
theorem fault_same (l:List Step):fault4M l=procM l:=by
 unfold fault4M procM
 by_cases hl:1≤l.length∧l.length≤24
 ·have e1:¬ orB (ltI l.length 1) (ltI 24 l.length)=true:=by simp [orB,ltI]; omega
  have e2:¬ notB (inR l.length 1 24)=true:=by simp [notB,inR,andB,leI]; omega
  rw [if_neg e1,if_neg e2]
  obtain ⟨o1,o2⟩:=ones_same (l:=l) l 0 [] [] rfl ⟨Nat.zero_le _,fun k _ h=>by omega,fun k h=>by simp at h,rfl,rfl,fun k h=>by omega,fun k h=>by omega,by simp⟩
  rw [o1] at o2 ⊢
  by_cases hz:(procA l [] []).1=0
  ·have hz1:onesM l 0 l=0:=by rw [o1,hz]
   have ha:=o2 hz
   have h0:parOf l 0=-1:=by
    have h:=ones_at hz1 0 l[0] (by simp)
    have:=one_parent0 h
    have e:l[0]?=some l[0]:=by simp
    simp only [parOf,e,this]
   have hp:∀ k,0 < k→k < l.length→0≤parOf l k:=fun k h1 h2=>by
    have h:=ones_at hz1 k l[k] (by simp [h2])
    have:=one_parent h (by omega)
    simp [parOf,h2,this]
   have hs:=shape_same hl.2 h0 hp l 0 rfl
   have q:eqI (procA l [] []).1 0=true:=by simp [eqI,hz]
   have q2:¬ notB (eqI (procA l [] []).1 0)=true:=by simp [notB,eqI,hz]
   rw [if_pos q,if_neg q2,hs,typs_same]
   by_cases hb:procB l l.length 0=0
   ·rw [if_pos (by simp [eqI,hb]),if_neg (by simp [notB,eqI,hb])]
    by_cases hc:procC l=0
    ·rw [if_neg (by simp [notB,eqI,hc]),hc]
    ·rw [if_pos (by simp [notB,eqI,hc])]
   ·rw [if_neg (by simp [eqI,hb]),if_pos (by simp [notB,eqI,hb])]
  ·rw [if_neg (by simp [eqI,hz]),if_pos (by simp [notB,eqI,hz])]
 ·have e1:orB (ltI l.length 1) (ltI 24 l.length)=true:=by simp [orB,ltI]; omega
  have e2:notB (inR l.length 1 24)=true:=by simp [notB,inR,andB,leI]; omega
  rw [if_pos e1,if_pos e2]
end Go.TM.Ft
namespace Go.TM.Ft
open Go Go.TM Go.Proofs
set_option maxRecDepth 20000
structure Wf (l:List Step):Prop where
 ok:ProcOk l
 one:∀ (k:Nat) (s:Step),l[k]?=some s→one4M l k s=0
 typ:procC l=0
theorem wf_of {l:List Step} (h:procM l=0):Wf l:=by
 have ok:=proc_ok h
 have h4:fault4M l=0:=by rw [fault_same]; exact h
 unfold fault4M at h4
 split at h4
 ·simp at h4
 split at h4
 ·rename_i c2
  split at h4
  ·rename_i c3
   exact ⟨ok,fun k s hs=>by have:=ones_at (by simpa [eqI] using c2) k s hs; simpa using this,by rw [← typs_same]; exact h4⟩
  ·rename_i c3; rw [h4] at c3; simp [eqI] at c3
 ·rename_i c2; rw [h4] at c2; simp [eqI] at c2
theorem typesM_typ {l:List Node}:∀ (r:List Node) (i:Nat) (acc:List Int),l.drop i=r→acc.length=i→(∀ k,k < i→acc[k]?=(l[k]?).map fun n=>(partB n.kind).2)→(typesM r acc).1=true→
  (typesM r acc).2=acc++r.map (fun n=>(partB n.kind).2)∧∀ (k:Nat) (n:Node),i≤k→l[k]?=some n→badT n ((typesM r acc).2.take k)=false
 | [],i,acc,hd,ha,_,ht=>by
  refine ⟨by simp [typesM],fun k n hk hn=>?_⟩
  have:l.length≤i:=List.drop_eq_nil_iff.1 hd
  rw [List.getElem?_eq_none (by omega)] at hn; simp at hn
 | x::r,i,acc,hd,ha,hp,ht=>by
  obtain ⟨hi,hc,hr⟩:=drop_cons hd
  unfold typesM at ht ⊢
  split at ht
  ·simp at ht
  ·rename_i hb
   rw [if_neg hb]
   have hb':badT x acc=false:=by simpa using hb
   obtain ⟨g1,g2⟩:=typesM_typ (l:=l) r (i+1) (acc++[(partB x.kind).2]) hr (by simp [ha]) (fun k hk=>by
    rcases Nat.lt_or_ge k i with h | h
    ·rw [List.getElem?_append_left (by omega)]; exact hp k h
    ·have e:k=i:=by omega
     subst e
     rw [List.getElem?_append_right (by omega),List.getElem?_eq_getElem hi,hc]
     simp [ha]) ht
   refine ⟨by rw [g1]; simp,fun k n hk hn=>?_⟩
   rcases Nat.lt_or_ge i k with h | h
   ·exact g2 k n h hn
   ·have e:k=i:=by omega
    subst e
    rw [List.getElem?_eq_getElem hi,hc] at hn
    simp only [Option.some.injEq] at hn
    subst hn
    rw [g1,List.append_assoc,List.take_append_of_le_length (by omega),List.take_of_length_le (by omega)]
    exact hb'
theorem expr_ok {l:List Node} {want:Int} (hne:l≠[]) (h:typeFaultM l want=0):ExprOk l:=by
 unfold typeFaultM at h
 split at h
 ·rename_i c
  simp [eqI] at c
  exact absurd c hne
 obtain ⟨h1,h2⟩:=first2_zero h
 unfold typeM at h1
 split at h1
 ·rename_i c; simp only at h1; rw [h1] at c; simp [notB,eqI] at c
 rename_i c0
 have e0:exprM l=0:=by simpa [notB,eqI] using c0
 obtain ⟨g1,g2,g3⟩:=expr_zero e0
 split at h1
 ·rename_i c1
  obtain ⟨t1,t2⟩:=typesM_typ (l:=l) l 0 [] rfl rfl (fun k h=>by omega) c1
  have nd:∀ (k:Nat) (n:Node),l[k]?=some n→nodeFaultM n (k:Nat)=0:=fun k n hn=>by have:=nodes_all g3 k n hn; simpa using this
  refine ⟨g1,g2,nd,fun k n hn hk=>?_⟩
  have hb:=t2 k n (Nat.zero_le _) hn
  have hkl:k < l.length:=by
   rcases Nat.lt_or_ge k l.length with h | h
   ·exact h
   ·rw [List.getElem?_eq_none h] at hn; simp at hn
  have at_:∀ x:Int,0≤x→x≤(k:Int) - 1→szAt ((typesM l []).2.take k) x=(partB (kindN l x)).2:=by
   intro x hx0 hx1
   obtain ⟨y,rfl⟩:=Int.eq_ofNat_of_zero_le hx0
   have hy:y < k:=by omega
   have hyl:y < l.length:=by omega
   rw [t1]
   simp [szAt,List.getElem?_take,hy,kindN,hyl]
  unfold badT at hb
  have nk:=node_kinds (nd k n hn)
  have hk2:ltI 2 n.kind=true:=by simp [ltI]; exact hk
  rw [hk2] at hb
  rcases nk with q | q | q | q
  ·omega
  ·omega
  ·rw [at_ _ q.2.2.1 q.2.2.2] at hb
   have e39:inR n.kind 3 9=false:=by rw [q.1]; rfl
   rw [e39] at hb
   simp [orB,andB,notB,eqI] at hb
   exact ⟨hb,fun h=>by omega⟩
  ·rw [at_ _ q.2.2.1 q.2.2.2.1,at_ _ q.2.2.2.2.1 q.2.2.2.2.2] at hb
   have e39:inR n.kind 3 9=true:=by simp [inR,andB,leI]; omega
   rw [e39] at hb
   simp [orB,andB,notB,eqI] at hb
   exact ⟨hb.1,fun _=>hb.2⟩
 ·simp at h1
theorem procC_at:∀ {l:List Step},procC l=0→∀ s,s∈l→typeFaultM s.cond 2=0∧typeFaultM s.expr 1=0
 | [],_,s,h=>by simp at h
 | x::l,hz,s,h=>by
  unfold procC at hz
  split at hz
  ·rename_i c; rw [hz] at c; simp [notB,eqI] at c
  ·rename_i c
   rcases List.mem_cons.1 h with rfl | h
   ·exact first2_zero (by simpa [notB,eqI] using c)
   ·exact procC_at hz s h
theorem one_parts {l:List Step} {i:Nat} {s:Step} (h:one4M l i s=0):
  1≤s.kind∧s.kind≤8∧bare4 s=true∧par4 s i=false∧(0 < i→line4 l i=true)∧deep4 l i≤7∧argM s.kind s.arg=true∧(s.kind=7→expr4M s.expr=0):=by
 unfold one4M at h
 split at h
 ·simp at h
 rename_i c1
 split at h
 ·simp at h
 rename_i c2
 split at h
 ·simp at h
 rename_i c3
 split at h
 ·simp at h
 rename_i c4
 have hk:inR s.kind 1 8=true∧bare4 s=true:=by
  cases a:inR s.kind 1 8 <;> cases b:bare4 s <;> simp [a,b,orB,notB] at c1 ⊢
 have hk1:1≤s.kind∧s.kind≤8:=by have:=hk.1; simp [inR,andB,leI] at this; exact this
 have tl:tail4 s=0→argM s.kind s.arg=true∧(s.kind=7→expr4M s.expr=0):=by
  intro ht
  unfold tail4 at ht
  split at ht
  ·simp at ht
  ·rename_i d
   refine ⟨by simpa [notB] using d,fun h7=>?_⟩
   rw [if_pos (by simp [eqI,h7])] at ht
   exact ht
 have ht:tail4 s=0:=by
  split at h
  ·split at h
   ·rename_i d; rw [h] at d; simp [notB,eqI] at d
   ·exact h
  ·exact h
 obtain ⟨t1,t2⟩:=tl ht
 refine ⟨hk1.1,hk1.2,hk.2,by simpa using c2,fun h0=>?_,by simp [ltI] at c4; omega,t1,t2⟩
 have:ltI 0 (i:Int)=true:=by simp [ltI]; omega
 rw [this] at c3
 simpa [andB,notB] using c3
section
variable {l:List Step}
theorem Wf.at (w:Wf l) {k:Nat} (h:k < l.length):one4M l k l[k]=0:=w.one k _ (List.getElem?_eq_getElem h)
theorem kindOf_at {k:Nat} (h:k < l.length):kindOf l (k:Int)=(l[k]).kind:=by simp [kindOf,h]
theorem parOf_at {k:Nat} (h:k < l.length):parOf l k=(l[k]).parent:=by simp [parOf,h]
theorem Wf.kind (w:Wf l) {k:Nat} (h:k < l.length):1≤(l[k]).kind∧(l[k]).kind≤8:=⟨(one_parts (w.at h)).1,(one_parts (w.at h)).2.1⟩
theorem Wf.cond (w:Wf l) {s:Step} (hs:s∈l) (hne:s.cond≠[]):ExprOk s.cond:=expr_ok hne (procC_at w.typ s hs).1
theorem Wf.expr (w:Wf l) {k:Nat} (h:k < l.length) (h7:(l[k]).kind=7):ExprOk (l[k]).expr∧0≤(l[k]).arg∧(l[k]).arg≤3:=by
 have p:=one_parts (w.at h)
 have hx:=p.2.2.2.2.2.2.2 h7
 refine ⟨expr_ok (want:=1) (fun e=>?_) (procC_at w.typ _ (List.getElem_mem h)).2,?_⟩
 ·rw [e] at hx; simp [expr4M,orB,ltI] at hx
 ·have:=p.2.2.2.2.2.2.1
  rw [h7] at this
  simp [argM,eqI,inR,andB,leI] at this
  exact this
theorem Wf.par (w:Wf l) {k:Nat} (h:k < l.length) (h0:0 < k):∃ q:Nat,parOf l k=q∧q < k:=by
 obtain ⟨a,h1,h2⟩:=w.ok.par k h h0
 exact ⟨a,by rw [parOf_at h,h1],h2⟩
theorem Wf.par0 (w:Wf l):parOf l 0=-1:=by
 have h:0 < l.length:=by have:=w.ok.pos; omega
 rw [parOf_at h]; exact w.ok.par0 h
inductive Und (l:List Step) (a:Nat):Nat→Prop
 | self:Und l a a
 | up {i q:Nat}:i < l.length→parOf l i=(q:Int)→q < i→Und l a q→Und l a i
theorem Und.le {a i:Nat} (h:Und l a i):a≤i:=by
 induction h with
 | self=>exact Nat.le_refl _
 | up _ _ h2 _ ih=>omega
theorem Und.trans {a b c:Nat} (h1:Und l a b) (h2:Und l b c):Und l a c:=by
 induction h2 with
 | self=>exact h1
 | up g1 g2 g3 _ ih=>exact .up g1 g2 g3 ih
theorem Und.down {a i q:Nat} (h:Und l a i) (hn:a≠i) (hp:parOf l i=(q:Int)):Und l a q:=by
 cases h with
 | self=>exact absurd rfl hn
 | up g1 g2 g3 g4=>
  rw [hp] at g2
  have:q=_:=Int.ofNat.inj g2
  rw [this]; exact g4
theorem Und.both {a b i:Nat} (h1:Und l a i) (h2:Und l b i) (hab:b≤a):Und l b a:=by
 induction h1 with
 | self=>exact h2
 | @up j _ g1 g2 g3 g4 ih=>
  by_cases e:b=j
  ·have:=g4.le; omega
  ·exact ih (h2.down e g2)
theorem Wf.root (w:Wf l):∀ {i:Nat},i < l.length→Und l 0 i:=by
 intro i
 induction i using Nat.strongRecOn with
 | ind i ih=>
  intro hi
  rcases Nat.eq_zero_or_pos i with h | h
  ·subst h; exact .self
  ·obtain ⟨q,h1,h2⟩:=w.par hi h
   exact .up hi h1 h2 (ih q h2 (by omega))
theorem Wf.ahead (w:Wf l) {i:Nat}:Ahead l i:=fun k hk _=>by
 rcases Nat.eq_zero_or_pos k with h | h
 ·subst h
  have:=w.ok.par0 hk
  omega
 ·obtain ⟨q,h1,h2⟩:=w.ok.par k hk h
  omega
def dep (l:List Step) (i:Nat):Int:=deep4 l i
theorem Wf.dep_up (w:Wf l) {i q:Nat} (hi:i < l.length) (hp:parOf l i=(q:Int)) (hq:q < i):dep l i=dep l q+1:=by
 unfold dep deep4
 conv=>lhs; unfold deepM
 rw [if_pos (by simp [leI])]
 simp only [Int.toNat_natCast,hp]
 rw [deep_fuel (l:=l) (i:=l.length) (Nat.le_refl _) w.ahead (i+1) (q+2) q (by omega) (by omega) (by omega) (by omega)]
 omega
theorem Und.dep (w:Wf l) {a i:Nat} (h:Und l a i):Ft.dep l a≤Ft.dep l i∧(a≠i→Ft.dep l a < Ft.dep l i):=by
 induction h with
 | self=>exact ⟨Int.le_refl _,fun h=>absurd rfl h⟩
 | up g1 g2 g3 _ ih=>
  rw [w.dep_up g1 g2 g3]
  omega
theorem line_und (w:Wf l) {p:Nat}:∀ (f:Nat) (i:Int),i < l.length→lineM l p f i=true→∃ j:Nat,i=j∧Und l p j
 | 0,i,_,h=>by simp [lineM] at h
 | f+1,i,hi,h=>by
  unfold lineM at h
  split at h
  ·rename_i c
   obtain ⟨j,rfl⟩:=Int.eq_ofNat_of_zero_le (show 0≤i by simpa [leI] using c)
   split at h
   ·rename_i d
    have:(j:Int)=p:=by simpa [eqI] using d
    have:j=p:=Int.ofNat.inj this
    subst this
    exact ⟨j,rfl,.self⟩
   ·have hj:j < l.length:=by omega
    rw [Int.toNat_natCast] at h
    have hpl:parOf l j < l.length:=by
     rcases Nat.eq_zero_or_pos j with h' | h'
     ·subst h'; rw [w.par0]; omega
     ·obtain ⟨q,h1,h2⟩:=w.par hj h'; omega
    obtain ⟨q,h1,h2⟩:=line_und w f (parOf l j) hpl h
    rcases Nat.eq_zero_or_pos j with h' | h'
    ·subst h'; rw [w.par0] at h1; omega
    ·obtain ⟨q',h3,h4⟩:=w.par hj h'
     have:q=q':=by omega
     subst this
     exact ⟨j,rfl,.up hj h3 h4 h2⟩
  ·simp at h
theorem Wf.before (w:Wf l) {i q:Nat} (hi:i < l.length) (h0:0 < i) (hp:parOf l i=(q:Int)):Und l q (i - 1):=by
 have hl:=(one_parts (w.at hi)).2.2.2.2.1 h0
 unfold line4 at hl
 rw [hp] at hl
 obtain ⟨j,h1,h2⟩:=line_und w _ _ (by omega) hl
 have:j=i - 1:=by omega
 rw [← this]; exact h2
theorem Wf.piece (w:Wf l) {a i:Nat} (hi:i < l.length) (h:Und l a i) (hn:a < i):Und l a (i - 1)∧dep l a < dep l i:=by
 obtain ⟨q,h1,h2⟩:=w.par hi (by omega)
 have hq:=h.down (by omega) h1
 exact ⟨hq.trans (w.before hi (by omega) h1),(h.dep w).2 (by omega)⟩
theorem Wf.piece2 (w:Wf l) {a i:Nat} (hi:i < l.length) (hn:a < i) (hb:Und l a (i - 1)) (hd:dep l a < dep l i):Und l a i:=by
 obtain ⟨q,h1,h2⟩:=w.par hi (by omega)
 have hq:=w.before hi (by omega) h1
 rcases Nat.lt_or_ge q a with h | h
 ·have:=(hb.both hq (by omega)).dep w
  rw [w.dep_up hi h1 h2] at hd
  omega
 ·exact .up hi h1 h2 (hq.both hb h)
theorem Wf.between (w : Wf l) {a i : Nat} (hi : i < l.length) (h : Und l a i) : ∀ (n j : Nat), j + n = i → a ≤ j → Und l a j
  | 0, j, e, _ => by have : j = i := by omega
                     rw [this]; exact h
  | n + 1, j, e, ha => by
    have h1 := Wf.between w hi h n (j + 1) (by omega) (by omega)
    have := (w.piece (i := j + 1) (by omega) h1 (by omega)).1
    simpa using this
end
end Go.TM.Ft
namespace Go.TM.Ft
open Go Go.TM Go.Proofs
set_option maxRecDepth 20000
attribute [local congr] gif_cg
attribute [local simp] footOf noClash clash upsets setsHit setHits layHits layMeets setsMeet evFeet
def upTo (l:List Step) (a:Int):Nat→Int→Int
 | 0,i=>i
 | f+1,i=>if ltI a i=true then upTo l a f (parOf l i.toNat) else i
def undB (l:List Step) (a i:Nat):Bool:=eqI (upTo l a (i+1) i) a
theorem lp287 {l:List Step} (w:Wf l) (a:Nat):∀ (f i:Nat),i≤f→i < l.length→
  evLoop E (orc E) (287:Nat) (f+1) (loopOf Tryz.f287 0) ⟨18,[(0,.sl 124 (l.map (sT 219))),(1,vI i),(2,vI a)],[],2⟩=
  some (.exit 0,⟨18,[(0,.sl 124 (l.map (sT 219))),(1,vI (upTo l a (f+1) i)),(2,vI a),(9,vB false)],[],2⟩)
 | f,i,hf,hi=>by
  cases c:ltI (a:Int) (i:Int)
  ·have e:upTo l a (f+1) i=i:=by simp [upTo,c]
   rw [e]
   refine evLoop_out ?_ (by simp)
   simp +contextual -dsimp [Tryz.f287,c]
  ·have h0:a < i:=by simp [ltI] at c; exact c
   obtain ⟨q,h1,h2⟩:=w.par hi (by omega)
   have hp:(l[i]).parent=q:=by rw [← parOf_at hi]; exact h1
   cases f with
   | zero=>omega
   | succ f=>
    have e:upTo l a (f+1+1) i=upTo l a (f+1) q:=by
     conv=>lhs; unfold upTo
     rw [if_pos c,Int.toNat_natCast,h1]
    rw [e]
    refine evLoop_next ?_ (lp287 w a f q (by omega) (by omega))
    simp (maxSteps:=1000000) +contextual -dsimp [Tryz.f287,c,hi,hp]
theorem f_isUnder {l:List Step} (w:Wf l) (a i:Nat) (hi:i < l.length):fo 287 [A (.sl 124 (l.map (sT 219))),A (vI i),A (vI a)]=some (R (vB (undB l a i))):=by
 have hlp:=lp287 w a i i (Nat.le_refl _) hi
 refine orc_287 (i+1) ?_
 simp -dsimp [Tryz.f287] at hlp
 simp (maxSteps:=1000000) +contextual -dsimp [Tryz.f287,hlp,undB]
theorem upTo_und {l:List Step} (w:Wf l) (a:Nat):∀ (f i:Nat),i≤f→i < l.length→(upTo l a (f+1) i=a ↔ Und l a i)
 | f,i,hf,hi=>by
  by_cases h:a < i
  ·obtain ⟨q,h1,h2⟩:=w.par hi (by omega)
   cases f with
   | zero=>omega
   | succ f=>
    have e:upTo l a (f+1+1) i=upTo l a (f+1) q:=by
     conv=>lhs; unfold upTo
     rw [if_pos (by simp [ltI]; omega),Int.toNat_natCast,h1]
    rw [e,upTo_und w a f q (by omega) (by omega)]
    exact ⟨fun g=>.up hi h1 h2 g,fun g=>g.down (by omega) h1⟩
  ·have e:upTo l a (f+1) i=i:=by unfold upTo; rw [if_neg (by simp [ltI]; omega)]
   rw [e]
   constructor
   ·intro g
    have:i=a:=Int.ofNat.inj g
    rw [this]; exact .self
   ·intro g; have:=g.le
    have:i=a:=by omega
    rw [this]
theorem undB_iff {l:List Step} (w:Wf l) {a i:Nat} (hi:i < l.length):undB l a i=true ↔ Und l a i:=by
 unfold undB
 rw [← upTo_und w a i i (Nat.le_refl _) hi]
 simp [eqI]
def undG (l:List Step) (a:Nat) (_:Nat) (acc:List Int) (x:Nat):List Int:=if undB l a x=true then acc++[(x:Int)] else acc
def undsM (l:List Step) (a:Nat):List Int:=foldI (undG l a) 0 [] (List.range' a (l.length - a))
theorem foldI_app {β:Type} {p:β→Bool} {f:β→Int}:∀ (r:List β) (i:Nat) (acc:List Int),foldI (fun _ acc x=>if p x=true then acc++[f x] else acc) i acc r=acc++(r.filter p).map f
 | [],_,acc=>by simp [foldI]
 | x::r,i,acc=>by
  simp only [foldI]
  rw [foldI_app r]
  cases h:p x <;> simp [h]
theorem undsM_eq (l:List Step) (a:Nat):undsM l a=((List.range' a (l.length - a)).filter (undB l a)).map (fun x:Nat=>(x:Int)):=by
 unfold undsM undG
 rw [foldI_app]; rfl
theorem undsM_mem {l:List Step} {a:Nat} {k:Int} (h:k∈undsM l a):∃ x:Nat,k=x∧a≤x∧x < l.length∧undB l a x=true:=by
 rw [undsM_eq,List.mem_map] at h
 obtain ⟨x,h1,rfl⟩:=h
 rw [List.mem_filter,List.mem_range'_1] at h1
 exact ⟨x,rfl,by omega,by omega,h1.2⟩
set_option maxHeartbeats 1000000 in
theorem lp251 {l:List Step} (w:Wf l) (a:Nat) (ha:a < l.length):
  evLoop E (orc E) (251:Nat) ((List.range' a (l.length - a)).length+1) (loopOf Tryz.f251 0) ⟨24,[(0,.sl 124 (l.map (sT 219))),(1,vI a),(5,.ref 5 1 [] 0 0),(6,vI (a+0:Nat))],[(5,⟨1,1,false,[.own 2 []]⟩)],2⟩=
  some (.exit 0,⟨24,[(0,.sl 124 (l.map (sT 219))),(1,vI a),(5,.ref 5 1 [] 0 (undsM l a).length),(6,vI l.length),(12,vB false)],[(5,⟨1,1,false,[.own 2 (iE (undsM l a))]⟩)],2⟩):=by
 have hle:=w.ok.le
 have hlen:(List.range' a (l.length - a)).length=l.length - a:=by simp
 have h:=loop_all (f:=251) (id:=0) (code:=loopOf Tryz.f251 0) (List.range' a (l.length - a)) (fun i acc=>acc.length≤i)
  (fun i acc=>⟨24,[(0,.sl 124 (l.map (sT 219))),(1,vI a),(5,.ref 5 1 [] 0 acc.length),(6,vI (a+i:Nat))],[(5,⟨1,1,false,[.own 2 (iE acc)]⟩)],2⟩) (undG l a)
  (fun acc=>⟨24,[(0,.sl 124 (l.map (sT 219))),(1,vI a),(5,.ref 5 1 [] 0 acc.length),(6,vI l.length),(12,vB false)],[(5,⟨1,1,false,[.own 2 (iE acc)]⟩)],2⟩)
 refine h ?_ ?_ [] (Nat.le_refl _)
 ·intro k acc _
  have e:a+(l.length - a)=l.length:=by omega
  have hlt:=ltN_f l.length
  rw [hlen,e]
  simp +contextual -dsimp [Tryz.f251,hlt]
 ·intro k i acc hi hI
  rw [hlen] at hi
  have hx0:(List.range' a (l.length - a))[i]'(by simp; exact hi)=a+i:=by simp
  rw [hx0]
  obtain ⟨x,hx⟩:∃ x,x=a+i:=⟨_,rfl⟩
  have hx1:a+(i+1)=x+1:=by omega
  simp only [← hx,hx1]
  have hai:x < l.length:=by omega
  have hlt:=ltN_t hai
  have hw:=wrap1 hai (by omega)
  have hm1:acc.length+1≤maxElems:=by unfold maxElems; omega
  have g:=f_isUnder w a x hai
  unfold undG
  cases c:undB l a x
  ·rw [c] at g
   refine ⟨?_,by simp; omega⟩
   simp (maxSteps:=1000000) +contextual -dsimp [Tryz.f251,hlt,hw,g]
  ·rw [c] at g
   refine ⟨?_,by simp; omega⟩
   simp (maxSteps:=1000000) +contextual -dsimp [Tryz.f251,hlt,hw,g,hm1,List.set]
theorem undsM_le (l:List Step) (a:Nat):(undsM l a).length≤l.length:=by
 rw [undsM_eq]
 have:=List.length_filter_le (undB l a) (List.range' a (l.length - a))
 simp at this ⊢; omega
theorem f_under {l:List Step} (w:Wf l) (a:Nat) (ha:a < l.length):fo 251 [A (.sl 124 (l.map (sT 219))),A (vI a)]=some ⟨.own 2 (iE (undsM l a)),[],true⟩:=by
 have hlp:=lp251 w a ha
 have hc:cleanEs (iE (undsM l a))=true:=by generalize undsM l a=k; induction k <;> simp_all [cleanEs,cleanL,clean]
 have e0:(List.range' a (l.length - a)).length=l.length - a:=by simp
 rw [e0] at hlp
 refine orc_251 (l.length - a+1) ?_
 simp -dsimp [Tryz.f251,iE] at hlp
 simp (maxSteps:=1000000) +contextual -dsimp [Tryz.f251,hlp,hc,List.set]
theorem lp248 (l:List Int) (hl:l.length < 2 ^ 62) (v:Int):
  Goes 0 (fun _=>⟨19,[(0,iS l),(1,vI v),(7,vI l.length),(8,vI l.length),(9,vB false)],[],2⟩) (fun e st=>∃ rt,st=⟨19,[(4,vI e)],rt,2⟩)
   (evLoop E (orc E) (248:Nat) (l.length+1) (loopOf Tryz.f248 0) ⟨19,[(0,iS l),(1,vI v),(7,vI l.length),(8,vI (0:Nat))],[],2⟩)
   (foldS (fun (i:Nat) (_:Unit) (x:Int)=>if eqI v x=true then (.inl (i:Int):Int ⊕ Unit) else .inr ()) 0 () l):=by
 refine loop_list (f:=248) (id:=0) (code:=loopOf Tryz.f248 0) l (fun _ _=>True) (fun i _=>⟨19,[(0,iS l),(1,vI v),(7,vI l.length),(8,vI i)],[],2⟩) _ _ _ ?_ ?_ l 0 () rfl (Nat.zero_le _) trivial
 ·intro k s _
  have hlt:=ltN_f l.length
  simp +contextual -dsimp [Tryz.f248,hlt]
 ·intro k i _ hi _
  have hlt:=ltN_t hi
  have hw:=wrap1 hi hl
  cases c:eqI v l[i]
  ·refine ⟨fun s' hs=>⟨?_,trivial⟩,fun e he=>by simp at he⟩
   simp (maxSteps:=1000000) +contextual -dsimp [Tryz.f248,hlt,hi,hw,c]
  ·refine ⟨fun s' hs=>by simp at hs,fun e he=>?_⟩
   simp only [if_true,Sum.inl.injEq] at he
   subst he
   refine ⟨⟨19,[(4,vI i)],[],2⟩,?_,_,rfl⟩
   simp (maxSteps:=1000000) +contextual -dsimp [Tryz.f248,hlt,hi,hw,c]
def idxI (v:Int) (l:List Int):Int:=idxM (fun x=>eqI v x) 0 l
theorem idx_fold (v:Int):∀ (l:List Int) (i:Nat),foldS (fun (i:Nat) (_:Unit) (x:Int)=>if eqI v x=true then (.inl (i:Int):Int ⊕ Unit) else .inr ()) i () l=
  if ltI (idxM (fun x=>eqI v x) i l) 0=true then .inr () else .inl (idxM (fun x=>eqI v x) i l)
 | [],i=>by simp [foldS,idxM,ltI]
 | x::l,i=>by
  unfold foldS idxM
  cases c:eqI v x
  ·simp only [Bool.false_eq_true,if_false]; exact idx_fold v l (i+1)
  ·simp [ltI]
theorem f_Index (l:List Int) (hl:l.length < 2 ^ 62) (v:Int):fo 248 [A (iS l),A (vI v)]=some (R (vI (idxI v l))):=by
 have hlp:=lp248 l hl v
 rw [idx_fold] at hlp
 refine orc_248 (l.length+1) ?_
 unfold idxI
 cases c:ltI (idxM (fun x=>eqI v x) 0 l) 0
 ·rw [c,if_neg (by simp)] at hlp
  obtain ⟨_,hlp,rt,rfl⟩:=hlp
  simp -dsimp [Tryz.f248] at hlp
  simp (maxSteps:=1000000) +contextual -dsimp [Tryz.f248,hlp,c]
 ·rw [c,if_pos rfl] at hlp
  unfold Goes at hlp
  simp -dsimp [Tryz.f248] at hlp
  have e:=idxM_neg c
  rw [e]
  simp (maxSteps:=1000000) +contextual -dsimp [Tryz.f248,hlp]
end Go.TM.Ft
