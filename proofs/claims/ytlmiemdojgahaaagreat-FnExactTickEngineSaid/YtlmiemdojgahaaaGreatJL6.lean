/- What functions of the program come to, by the machine. -/
import Derived.Test.YtlmiemdojgahaaaGreatJL5
import Derived.Test.YtlmiemdojgahaaaGreatJL4
set_option linter.unusedSimpArgs false
set_option linter.unusedVariables false
set_option maxHeartbeats 1000000
namespace Go.TM.Ft
theorem f9p {l:List Node} (hz:M4 0 l=0):∀ n,n∈l→1≤n.kind∧n.kind≤10:=fun n hn=>by
 obtain ⟨k,hk,he⟩:=List.getElem_of_mem hn
 have h:=c1s hz k n (by simp [hk,he])
 rw [← c1q] at h
 unfold a2t at h
 split at h
 ·simp at h
 ·rename_i c
  simp [A0,inR,A2,leI] at c
  exact c
theorem g2e {k:Int} (h:k≤10):(partB k).1=a7u k∧(partB k).2=is4 k:=by
 unfold partB a7u is4
 simp only [leI,eqI,orB]
 by_cases a:k≤6
 ·have b:¬ k=9:=by omega
  have c:¬ k=10:=by omega
  have d:¬ 7≤k:=by omega
  simp [a,b,c,d]
 ·by_cases b:k≤8
  ·have b':¬ k=9:=by omega
   have c:¬ k=10:=by omega
   have d:7≤k:=by omega
   simp [a,b,b',c,d]
  ·have d:7≤k:=by omega
   have e:k=9∨k=10:=by omega
   simp [a,b,d]
   omega
theorem d1e:∀ (l:List Node) (acc:List Int),(∀ n,n∈l→1≤n.kind∧n.kind≤10)→L5 l acc=K8 l acc
 | [],_,_=>rfl
 | n::l,acc,h=>by
  obtain ⟨h1,h2⟩:=g2e (h n (by simp)).2
  have e:a2o n acc=a6u n acc:=by
   unfold a2o a6u
   rw [h1]; rfl
  unfold L5 K8
  rw [e,h2,d1e l _ fun n hn=>h n (by simp [hn])]
theorem g2f (l:List Node):a4l l=((a1x l).2,(a1x l).1):=by
 unfold a4l a1x
 rw [c1t]
 by_cases h:a0j l=0
 ·have hq:¬ (A0 (eqI (a0j l) 0)=true):=by simp [A0,eqI,h]
  have hz:M4 0 l=0:=by
   unfold a0j at h
   split at h
   ·simp at h
   ·split at h
    ·rename_i c; rw [h] at c; simp [A0,eqI] at c
    ·rename_i c; simpa [A0,eqI] using c
  rw [if_neg hq,if_neg hq,d1e l [] (f9p hz)]
  split <;> rfl
 ·have hq:A0 (eqI (a0j l) 0)=true:=by simp [A0,eqI,h]
  rw [if_pos hq,if_pos hq]
theorem d1f (l:List Node) (want:Int):a2v l want=P7 l want:=by
 unfold a2v P7 C4
 rw [g2f]
 simp only
 by_cases h0:eqI l.length 0=true
 ·rw [if_pos h0,if_pos h0]
 rw [if_neg h0,if_neg h0]
 by_cases h:(a1x l).1=0
 ·have hq:¬ (A0 (eqI (a1x l).1 0)=true):=by simp [A0,eqI,h]
  have hq2:eqI (a1x l).1 0=true:=by simp [eqI,h]
  rw [if_neg hq,if_pos hq2]
 ·have hq:A0 (eqI (a1x l).1 0)=true:=by simp [A0,eqI,h]
  have hq2:¬ eqI (a1x l).1 0=true:=by simp [eqI,h]
  rw [if_pos hq,if_neg hq2]
theorem g2g (s:ByteArray):a8y s=b2o s:=by
 unfold a8y b2o C4
 cases h1:Q8 s.data.toList <;> cases h2:eqS s emp <;> simp [orB,A0,eqI]
theorem c3j {l:List Step} {p:Int} {i:Nat} (hi:i≤l.length) (ha:Ahead l i):∀ (g:Nat) (at_:Int),-1≤at_→at_ < i→at_ < p→P2 l p g at_=false
 | 0,_,_,_,_=>rfl
 | g+1,at_,h1,h2,h3=>by
  unfold P2
  by_cases h:0≤at_
  ·have hk:at_.toNat < l.length:=by omega
   obtain ⟨a1,a2⟩:=ha at_.toNat hk (by omega)
   have hp:parOf l at_.toNat=(l[at_.toNat]).parent:=by simp [parOf,hk]
   rw [if_pos (by simp [leI,h]),if_neg (by simp [eqI]; omega),hp]
   exact c3j hi ha g _ a1 (by omega) (by omega)
  ·rw [if_neg (by simp [leI]; omega)]
theorem d1g {l:List Step} {p:Int} {i:Nat} {list:List Int} (hi:i≤l.length) (ha:Ahead l i) (hl:list.length=i) (hq:∀ k,k < i→list[k]?=some (parOf l k)) (hp0:0≤p):
  ∀ (f g:Nat) (at_:Int),-1≤at_→at_ < i→at_ < f→at_ < g→(a1t list p f at_=p ↔ P2 l p g at_=true)
 | 0,g,at_,h1,h2,h3,h4=>by
  have e:at_=-1:=by omega
  rw [c3j hi ha g at_ h1 h2 (by omega)]
  simp [a1t]; omega
 | f+1,0,at_,h1,h2,h3,h4=>by
  have e:at_=-1:=by omega
  subst e
  have:ltI p (-1)=false:=by simp [ltI]; omega
  simp [a1t,P2,this]; omega
 | f+1,g+1,at_,h1,h2,h3,h4=>by
  rcases Int.lt_trichotomy at_ p with h | h | h
  ·rw [c3j hi ha (g+1) at_ h1 h2 h]
   have:ltI p at_=false:=by simp [ltI]; omega
   simp [a1t,this]; omega
  ·subst h
   have:ltI at_ at_=false:=by simp [ltI]
   simp [a1t,P2,this,leI,hp0,eqI]
  ·have hk:at_.toNat < l.length:=by omega
   obtain ⟨a1,a2⟩:=ha at_.toNat hk (by omega)
   have hp:parOf l at_.toNat=(l[at_.toNat]).parent:=by simp [parOf,hk]
   have e1:ltI p at_=true:=by simp [ltI]; omega
   have e2:list.getD at_.toNat (-1)=parOf l at_.toNat:=by rw [List.getD_eq_getElem?_getD,hq at_.toNat (by omega)]; rfl
   have e3:leI 0 at_=true:=by simp [leI]; omega
   have e4:eqI at_ p=false:=by simp [eqI]; omega
   unfold a1t P2
   rw [e1,e3,e4,e2]
   simp only [if_true,Bool.false_eq_true,if_false]
   exact d1g hi ha hl hq hp0 f g _ (by omega) (by omega) (by omega) (by omega)
theorem c1u {l:List Step} {i:Nat} (hi:i≤l.length) (ha:Ahead l i):∀ (f g:Nat) (at_:Int),-1≤at_→at_ < i→at_ < f→at_ < g→deepM l f at_=deepM l g at_
 | 0,g,at_,h1,h2,h3,h4=>by
  have e:at_=-1:=by omega
  subst e
  cases g <;> simp [deepM,leI]
 | f+1,0,at_,h1,h2,h3,h4=>by
  have e:at_=-1:=by omega
  subst e
  simp [deepM,leI]
 | f+1,g+1,at_,h1,h2,h3,h4=>by
  unfold deepM
  by_cases h:0≤at_
  ·have hk:at_.toNat < l.length:=by omega
   obtain ⟨a1,a2⟩:=ha at_.toNat hk (by omega)
   have hp:parOf l at_.toNat=(l[at_.toNat]).parent:=by simp [parOf,hk]
   rw [c1u hi ha f g (parOf l at_.toNat) (by omega) (by omega) (by omega) (by omega)]
  ·rw [if_neg (by simp [leI]; omega),if_neg (by simp [leI]; omega)]
theorem d3m (k:Int):eqI (O6 k).2 0=A0 (inR k 5 8):=by
 unfold O6
 by_cases h5:k=5
 ·subst h5; rfl
 by_cases h6:k=6
 ·subst h6; rfl
 by_cases h7:k=7
 ·subst h7; rfl
 by_cases h8:k=8
 ·subst h8; rfl
 have:¬ (5≤k∧k≤8):=by omega
 simp [A0,inR,A2,eqI,leI,h5,h6,h7,h8]
 omega
theorem d1h (s:Step):A0 (a7v s)=a3u s:=by
 unfold a7v a3u
 rw [d3m]
 have hx:ltI 0 s.expr.length=A0 (eqI s.expr.length 0):=by
  cases s.expr <;> simp [ltI,A0,eqI]; omega
 rw [hx]
 cases eqI s.kind 2 <;> cases eqS s.name emp <;> cases inR s.kind 5 8 <;> cases eqI s.arg 0 <;> cases eqI s.kind 7 <;> cases eqI s.expr.length 0 <;> rfl
structure Left (l:List Step) (i:Nat) (list deep:List Int):Prop where
 le:i≤l.length
 ahead:Ahead l i
 tree:Tree list
 len:list.length=i
 dlen:deep.length=i
 at_:∀ k,k < i→list[k]?=some (parOf l k)
 deeps:∀ k,k < i→deep[k]?=some (deepM l (k+2) k)
 bd:∀ d,d∈deep→0≤d∧d≤list.length
theorem d3n {l:List Step} {i:Nat} {list deep:List Int} (h:Left l i list deep) (hi:i < l.length) (h1:-1≤parOf l i) (h2:parOf l i < i):a0c deep (parOf l i)=deepM l (i+2) i:=by
 have e:deepM l (i+2) i=1+deepM l (i+1) (parOf l i):=by
  conv=>lhs; unfold deepM
  rw [if_pos (by simp [leI])]; simp
 rw [e]
 unfold a0c
 by_cases h0:0≤parOf l i
 ·have hk:=h.deeps (parOf l i).toNat (by omega)
  rw [if_pos (by simp [leI,h0]),List.getD_eq_getElem?_getD,hk]
  have:=c1u h.le h.ahead ((parOf l i).toNat+2) (i+1) (parOf l i) h1 h2 (by omega) (by omega)
  have e2:(((parOf l i).toNat:Nat):Int)=parOf l i:=by omega
  simp only [Option.getD_some,e2,this]; omega
 ·rw [if_neg (by simp [leI]; omega)]
  have e:parOf l i=-1:=by omega
  rw [e]
  cases i <;> simp [deepM,leI]
theorem g2h (s:Step) (_hk:inR s.kind 1 8=true) (ha:a3u s=false) (h2:¬ s.kind=2):a6r s=b0u s:=by
 unfold a6r b0u ci
 rw [c1t]
 by_cases h7:s.kind=7
 ·have e:U7 s.kind s.arg=inR s.arg 0 3:=by simp [U7,h7,eqI]
  have e2:O6 s.kind=(0,3):=by simp [O6,h7,eqI]
  rw [e,e2]
  simp only [h7]
  cases inR s.arg 0 3 <;> simp [A0,eqI,C4]
 ·have e:U7 s.kind s.arg=inR s.arg (O6 s.kind).1 (O6 s.kind).2:=by
   by_cases h5:s.kind=5
   ·simp [U7,O6,h5,eqI]
   by_cases h6:s.kind=6∨s.kind=8
   ·rcases h6 with h6 | h6 <;> simp [U7,O6,h6,eqI]
   ·have h6':¬ s.kind=6:=by omega
    have h8':¬ s.kind=8:=by omega
    have ha0:s.arg=0:=by
     unfold a3u at ha
     rw [d3m] at ha
     have:inR s.kind 5 8=false:=by simp [inR,A2,leI]; omega
     simp [this,orB,A2,A0,eqI] at ha
     exact ha.1.2
    simp [U7,O6,h5,h6',h8',h7,eqI,ha0,inR,A2,leI]
  rw [e]
  simp only [eqI]
  cases inR s.arg (O6 s.kind).1 (O6 s.kind).2 <;> simp [A0,h7,h2]
theorem g5s {l:List Step} {i:Nat} {list deep:List Int} (h:Left l i list deep) (hi:i < l.length):one4M l i l[i]=Q2 l[i] list deep:=by
 have hp:parOf l i=(l[i]).parent:=by simp [parOf,hi]
 unfold one4M Q2
 by_cases c1:orB (A0 (inR (l[i]).kind 1 8)) (A0 (a7v l[i]))=true
 ·have c1':=c1
  rw [d1h] at c1'
  have e:a1k l[i] list deep=1:=by simp [a1k,ci,c1',C4,eqI]
  rw [if_pos c1,e]; rfl
 rw [if_neg c1]
 rw [d1h] at c1
 have hk:inR (l[i]).kind 1 8=true:=by
  cases h:inR (l[i]).kind 1 8
  ·rw [h] at c1; exact absurd rfl c1
  ·rfl
 have ha:a3u l[i]=false:=by
  rw [hk] at c1
  simpa [orB,A0] using c1
 have eA:a1k l[i] list deep=(L0 list deep (l[i]).parent).1:=by simp [a1k,ci,hk,ha,orB,A0,C4,eqI]
 rw [eA]
 have ebad:a1d list (l[i]).parent=a1n l[i] i:=by unfold a1d a1n; rw [h.len]
 by_cases c2:a1n l[i] i=true
 ·have e:(L0 list deep (l[i]).parent).1=3:=by unfold L0; rw [ebad,if_pos c2]
  rw [if_pos c2,e]; rfl
 rw [if_neg c2]
 have c2':a1n l[i] i=false:=by simpa using c2
 obtain ⟨p1,p2⟩:-1≤(l[i]).parent∧(l[i]).parent < i:=by
  unfold a1n at c2'
  simp only [orB,A2,A0,inR,leI,ltI,eqI,Bool.or_eq_false_iff,Bool.and_eq_false_iff,Bool.not_eq_false',decide_eq_true_eq,decide_eq_false_iff_not,beq_eq_false_iff_ne,beq_iff_eq,Bool.and_eq_true] at c2'
  omega
 have ecl:A0 (eqI (a1t list (l[i]).parent list.length (list.length - 1)) (l[i]).parent)=A2 (ltI 0 (i:Int)) (A0 (a9i l i)):=by
  rw [h.len]
  rcases Nat.eq_zero_or_pos i with h0 | h0
  ·have e:(l[i]).parent=-1:=by omega
   rw [e,h0]; rfl
  ·have p0:0≤(l[i]).parent:=by
    unfold a1n at c2'
    simp only [orB,A2,A0,inR,leI,ltI,eqI,Bool.or_eq_false_iff,Bool.and_eq_false_iff,Bool.not_eq_false',decide_eq_true_eq,decide_eq_false_iff_not,beq_eq_false_iff_ne,beq_iff_eq,Bool.and_eq_true] at c2'
    omega
   have:=d1g h.le h.ahead h.len h.at_ p0 i (i+1) ((i:Int) - 1) (by omega) (by omega) (by omega) (by omega)
   have e1:ltI 0 (i:Int)=true:=by simp [ltI]; omega
   unfold a9i
   rw [hp,e1]
   cases hl:P2 l (l[i]).parent (i+1) ((i:Int) - 1)
   ·rw [hl] at this
    simp at this
    simp [A0,A2,eqI,this]
   ·rw [hl] at this
    simp at this
    simp [A0,A2,eqI,this]
 by_cases c3:A2 (ltI 0 (i:Int)) (A0 (a9i l i))=true
 ·have e:(L0 list deep (l[i]).parent).1=1:=by unfold L0; rw [ebad,if_neg c2,ecl,if_pos c3]
  rw [if_pos c3,e]; rfl
 rw [if_neg c3]
 have e:(L0 list deep (l[i]).parent).1=0:=by unfold L0; rw [ebad,if_neg c2,ecl,if_neg c3]
 have hq:¬ A0 (eqI (0:Int) 0)=true:=by simp [A0,eqI]
 rw [e,if_neg hq]
 have ed:=d3n h hi (by omega) (by omega)
 rw [hp] at ed
 rw [ed]
 unfold a7w ci
 by_cases c4:ltI 7 (deepM l (i+2) i)=true
 ·rw [if_pos c4,if_pos c4]; rfl
 rw [if_neg c4,if_neg c4,if_neg hq]
 by_cases c5:(l[i]).kind=2
 ·have hq5:eqI (l[i]).kind 2=true:=by simp [eqI,c5]
  unfold b0u
  rw [if_pos hq5,if_pos hq5,g2g]
  by_cases c6:b2o (l[i]).name=0
  ·rw [c6,if_neg hq]
   simp [a6r,c5,U7,eqI,A0]
  ·rw [if_pos (by simp [A0,eqI,c6])]
 ·rw [if_neg (by simp [eqI,c5])]
  exact g2h _ hk ha c5
theorem g2i {l:List Step} {i:Nat} {list deep:List Int} (h:Left l i list deep) (hi:i < l.length) (hz:Q2 l[i] list deep=0):
  (L0 list deep (l[i]).parent).2.1=list++[(l[i]).parent]∧(L0 list deep (l[i]).parent).2.2=deep++[a0c deep (l[i]).parent]∧
  Left l (i+1) (list++[(l[i]).parent]) (deep++[a0c deep (l[i]).parent]):=by
 obtain ⟨n1,n2,n3,n4,n5⟩:=c1n hz h.tree (by rw [h.dlen,h.len]) h.bd
 have hp:parOf l i=(l[i]).parent:=by simp [parOf,hi]
 rw [h.len] at n4
 refine ⟨by rw [n1],by rw [n1],?_⟩
 have ed:=d3n h hi (by omega) (by omega)
 rw [hp] at ed
 constructor
 ·omega
 ·intro k hk1 hk2
  rcases Nat.lt_or_ge k i with h' | h'
  ·exact h.ahead k hk1 h'
  ·have e:k=i:=by omega
   subst e; exact ⟨n3,n4⟩
 ·exact n2
 ·simp [h.len]
 ·simp [h.dlen]
 ·intro k hk
  rcases Nat.lt_or_ge k i with h' | h'
  ·rw [List.getElem?_append_left (by rw [h.len]; exact h')]; exact h.at_ k h'
  ·have e:k=i:=by omega
   subst e
   rw [List.getElem?_append_right (by rw [h.len]; omega)]; simp [h.len,hp]
 ·intro k hk
  rcases Nat.lt_or_ge k i with h' | h'
  ·rw [List.getElem?_append_left (by rw [h.dlen]; exact h')]; exact h.deeps k h'
  ·have e:k=i:=by omega
   subst e
   rw [List.getElem?_append_right (by rw [h.dlen]; omega)]; simp [h.dlen,ed]
 ·exact n5
theorem d3o {l:List Step}:∀ (rest:List Step) (i:Nat) (list deep:List Int),l.drop i=rest→Left l i list deep→
  Q3 l i rest=(M6 rest list deep).1∧(Q3 l i rest=0→Ahead l l.length)
 | [],i,list,deep,h,hl=>by
  have hge:l.length≤i:=by simpa using h
  have e:i=l.length:=by have:=hl.le; omega
  subst e
  exact ⟨rfl,fun _=>hl.ahead⟩
 | s::rest,i,list,deep,h,hl=>by
  obtain ⟨hi,hc,hr⟩:=C8 h
  subst hc
  have e:=g5s hl hi
  unfold Q3 M6
  rw [e]
  by_cases hz:Q2 l[i] list deep=0
  ·obtain ⟨e1,e2,hl2⟩:=g2i hl hi hz
   rw [if_pos (by simp [eqI,hz]),if_neg (by simp [A0,eqI,hz]),e1,e2]
   exact d3o rest (i+1) _ _ hr hl2
  ·rw [if_neg (by simp [eqI,hz]),if_pos (by simp [A0,eqI,hz])]
   exact ⟨rfl,fun h=>absurd h hz⟩
theorem c1v {p:Int}:∀ (r:List Step) (i:Nat),(i=0→∀ s,r[0]?=some s→s.parent≠p)→A7 p i r=B5 p i r
 | [],_,_=>rfl
 | s::r,i,h=>by
  unfold A7 B5
  rw [c1v r (i+1) (fun h0 s' _=>absurd h0 (by omega))]
  by_cases h0:i=0
  ·have:=h h0 s (by simp)
   have e1:eqI s.parent p=false:=by simp [eqI,this]
   simp [e1,A2]
  ·have e1:ltI 0 (i:Int)=true:=by simp [ltI]; omega
   simp [e1,A2]
theorem c3k (p:Int):∀ (r:List Step) (i:Nat),(B5 p i r).length≤r.length
 | [],_=>Nat.le_refl _
 | s::r,i=>by
  have:=c3k p r (i+1)
  unfold B5
  split
  ·simp; omega
  ·simp; omega
theorem g2j {k n:Int} (_h0:0≤n) (h:n≤24):inR n (M7 k).1 (M7 k).2=a4p k n:=by
 unfold M7 a4p
 by_cases h1:k=1
 ·have:n≤24:=h
  simp [h1,eqI,inR,A2,leI,this]
 by_cases h3:k=3
 ·simp [h3,eqI,inR,A2,leI,orB,h]
 by_cases h4:k=4
 ·simp [h4,eqI,inR,A2,leI,orB,h]
 have hx:∀ m:Int,inR n m m=eqI n m:=fun m=>by
  unfold inR A2 leI eqI
  by_cases a:n=m
  ·simp [a]
  ·have e:(n==m)=false:=by simp [a]
   rw [e]
   have:¬ (m≤n∧n≤m):=by omega
   simp
   intro h; omega
 by_cases h8:k=8
 ·simp [h8,eqI,hx,orB]
 ·have q1:eqI k 1=false:=by simp [eqI,h1]
  have q3:eqI k 3=false:=by simp [eqI,h3]
  have q4:eqI k 4=false:=by simp [eqI,h4]
  have q8:eqI k 8=false:=by simp [eqI,h8]
  simp [q1,q3,q4,q8,orB,hx]
theorem g2k {l:List Step} (hl:l.length≤24) (h0:parOf l 0=-1) (hp:∀ k,0 < k→k < l.length→0≤parOf l k) {i:Nat} (hi:i < l.length):a8o l i l[i]=condFaultM l i:=by
 have hk:∀ p:Int,0≤p→A7 p 0 l=B5 p 0 l:=fun p hp=>c1v l 0 fun _ s hs=>by
  have:parOf l 0=s.parent:=by simp [parOf,hs]
  omega
 have hcond:a4f l i=ltI 0 (l[i]).cond.length:=by simp [a4f,hi]
 have hco:condOf l i=(l[i]).cond:=by simp [condOf,hi]
 have hkind:A8 l i=(l[i]).kind:=by simp [A8,hi]
 have hwant:a7o l i=a6o l i:=by
  unfold a7o a6o
  rcases Nat.eq_zero_or_pos i with e | e
  ·subst e
   rw [if_pos (by simp [orB,eqI]),if_pos (by rw [h0]; simp [orB,ltI])]
  ·have h1:=hp i e hi
   have e1:eqI (i:Int) 0=false:=by simp [eqI]; omega
   have e2:ltI (parOf l i) 0=false:=by simp [ltI]; omega
   rw [e1,e2,hk _ h1]
   have:∀ a b:Int,eqI a b=eqI b a:=fun a b=>by simp [eqI,Bool.beq_comm]
   rw [this (i:Int)]
 have hn:=c3k i l 0
 unfold a8o condFaultM b0a kidsN
 rw [hcond,hco,hkind,hwant,hk i (by omega),g2j (by omega) (by omega),c1t]
 cases a4p (l[i]).kind (B5 i 0 l).length
 ·simp [A0,C4,eqI,orB]
 ·cases a6o l i <;> cases ltI 0 (l[i]).cond.length <;> simp [A0,C4,eqI,eqB,orB]
theorem d1i {l:List Step} (hl:l.length≤24) (h0:parOf l 0=-1) (hp:∀ k,0 < k→k < l.length→0≤parOf l k):∀ (rest:List Step) (i:Nat),l.drop i=rest→a1i l i rest=a0t l rest.length i
 | [],i,h=>rfl
 | s::rest,i,h=>by
  obtain ⟨hi,hc,hr⟩:=C8 h
  subst hc
  have e:=g2k hl h0 hp hi
  unfold a1i
  rw [e,List.length_cons]
  unfold a0t
  rw [d1i hl h0 hp rest (i+1) hr]
  by_cases hz:condFaultM l i=0
  ·rw [if_pos (by simp [eqI,hz]),if_neg (by simp [A0,eqI,hz])]
  ·rw [if_neg (by simp [eqI,hz]),if_pos (by simp [A0,eqI,hz])]
theorem c1w:∀ (l:List Step),a3d l=procC l
 | []=>rfl
 | s::l=>by
  unfold a3d procC a6p C4
  rw [d1f,d1f,c1w l]
  by_cases h1:P7 s.cond 2=0
  ·have q:eqI (P7 s.cond 2) 0=true:=by simp [eqI,h1]
   rw [if_pos q]
   by_cases h2:P7 s.expr 1=0
   ·rw [if_pos (by simp [eqI,h2]),if_neg (by simp [A0,eqI,h2])]
   ·rw [if_neg (by simp [eqI,h2]),if_pos (by simp [A0,eqI,h2])]
  ·have q:¬ eqI (P7 s.cond 2) 0=true:=by simp [eqI,h1]
   rw [if_neg q,if_neg q,if_pos (by simp [A0,eqI,h1])]
theorem f8q {l:List Step} {s:Step} (h:one4M l 0 s=0):s.parent=-1:=by
 unfold one4M at h
 split at h
 ·simp at h
 ·split at h
  ·simp at h
  ·rename_i c
   simp [a1n,orB,A2,A0,eqI,ltI] at c
   exact c
theorem f9q {l:List Step} {i:Nat} {s:Step} (h:one4M l i s=0) (hi:0 < i):0≤s.parent:=by
 unfold one4M at h
 split at h
 ·simp at h
 ·split at h
  ·simp at h
  ·rename_i c
   have c:a1n s i=false:=by simpa using c
   unfold a1n at c
   simp only [orB,A2,A0,inR,leI,ltI,eqI,Bool.or_eq_false_iff,Bool.and_eq_false_iff,Bool.not_eq_false',decide_eq_true_eq,decide_eq_false_iff_not,beq_eq_false_iff_ne,beq_iff_eq,Bool.and_eq_true] at c
   omega
theorem b7l {l:List Step}:∀ {r:List Step} {i:Nat},Q3 l i r=0→∀ (k:Nat) (s:Step),r[k]?=some s→one4M l (i+k) s=0
 | [],i,_,k,n,h=>by simp at h
 | x::r,i,hz,k,s,h=>by
  unfold Q3 at hz
  split at hz
  ·rename_i hc
   cases k with
   | zero=>simp at h; subst h; simpa [eqI] using hc
   | succ k=>
    have:=b7l hz k s (by simpa using h)
    have e:i+1+k=i+(k+1):=by omega
    rw [← e]; exact this
  ·rename_i hc; exact absurd (by simp [eqI,hz]) hc
theorem c0p (l:List Step):Q7 l=O3 l:=by
 unfold Q7 O3
 by_cases hl:1≤l.length∧l.length≤24
 ·have e1:¬ orB (ltI l.length 1) (ltI 24 l.length)=true:=by simp [orB,ltI]; omega
  have e2:¬ A0 (inR l.length 1 24)=true:=by simp [A0,inR,A2,leI]; omega
  rw [if_neg e1,if_neg e2]
  obtain ⟨o1,o2⟩:=d3o (l:=l) l 0 [] [] rfl ⟨Nat.zero_le _,fun k _ h=>by omega,fun k h=>by simp at h,rfl,rfl,fun k h=>by omega,fun k h=>by omega,by simp⟩
  rw [o1] at o2 ⊢
  by_cases hz:(M6 l [] []).1=0
  ·have hz1:Q3 l 0 l=0:=by rw [o1,hz]
   have ha:=o2 hz
   have h0:parOf l 0=-1:=by
    have h:=b7l hz1 0 l[0] (by simp)
    have:=f8q h
    have e:l[0]?=some l[0]:=by simp
    simp only [parOf,e,this]
   have hp:∀ k,0 < k→k < l.length→0≤parOf l k:=fun k h1 h2=>by
    have h:=b7l hz1 k l[k] (by simp [h2])
    have:=f9q h (by omega)
    simp [parOf,h2,this]
   have hs:=d1i hl.2 h0 hp l 0 rfl
   have q:eqI (M6 l [] []).1 0=true:=by simp [eqI,hz]
   have q2:¬ A0 (eqI (M6 l [] []).1 0)=true:=by simp [A0,eqI,hz]
   rw [if_pos q,if_neg q2,hs,c1w]
   by_cases hb:a0t l l.length 0=0
   ·rw [if_pos (by simp [eqI,hb]),if_neg (by simp [A0,eqI,hb])]
    by_cases hc:procC l=0
    ·rw [if_neg (by simp [A0,eqI,hc]),hc]
    ·rw [if_pos (by simp [A0,eqI,hc])]
   ·rw [if_neg (by simp [eqI,hb]),if_pos (by simp [A0,eqI,hb])]
  ·rw [if_neg (by simp [eqI,hz]),if_pos (by simp [A0,eqI,hz])]
 ·have e1:orB (ltI l.length 1) (ltI 24 l.length)=true:=by simp [orB,ltI]; omega
  have e2:A0 (inR l.length 1 24)=true:=by simp [A0,inR,A2,leI]; omega
  rw [if_pos e1,if_pos e2]
open Go Go.TM Go.Proofs Go.Proofs.Tryz
set_option maxRecDepth 20000
structure Wf (l:List Step):Prop where
 ok:ProcOk l
 one:∀ (k:Nat) (s:Step),l[k]?=some s→one4M l k s=0
 typ:procC l=0
theorem h5o {l:List Step} (h:O3 l=0):Wf l:=by
 have ok:=b7j h
 have h4:Q7 l=0:=by rw [c0p]; exact h
 unfold Q7 at h4
 split at h4
 ·simp at h4
 split at h4
 ·rename_i c2
  split at h4
  ·rename_i c3
   exact ⟨ok,fun k s hs=>by have:=b7l (by simpa [eqI] using c2) k s hs; simpa using this,by rw [← c1w]; exact h4⟩
  ·rename_i c3; rw [h4] at c3; simp [eqI] at c3
 ·rename_i c2; rw [h4] at c2; simp [eqI] at c2
theorem d1j {l:List Node}:∀ (r:List Node) (i:Nat) (acc:List Int),l.drop i=r→acc.length=i→(∀ k,k < i→acc[k]?=(l[k]?).map fun n=>(partB n.kind).2)→(K8 r acc).1=true→
  (K8 r acc).2=acc++r.map (fun n=>(partB n.kind).2)∧∀ (k:Nat) (n:Node),i≤k→l[k]?=some n→a6u n ((K8 r acc).2.take k)=false
 | [],i,acc,hd,ha,_,ht=>by
  refine ⟨by simp [K8],fun k n hk hn=>?_⟩
  have:l.length≤i:=List.drop_eq_nil_iff.1 hd
  rw [List.getElem?_eq_none (by omega)] at hn; simp at hn
 | x::r,i,acc,hd,ha,hp,ht=>by
  obtain ⟨hi,hc,hr⟩:=C8 hd
  unfold K8 at ht ⊢
  split at ht
  ·simp at ht
  ·rename_i hb
   rw [if_neg hb]
   have hb':a6u x acc=false:=by simpa using hb
   obtain ⟨g1,g2⟩:=d1j (l:=l) r (i+1) (acc++[(partB x.kind).2]) hr (by simp [ha]) (fun k hk=>by
    rcases Nat.lt_or_ge k i with h | h
    ·rw [List.getElem?_append_left (by omega)]; exact hp k h
    ·have e:k=i:=by omega
     subst e
     rw [List.getElem?_append_right (by omega),List.getElem?_eq_getElem hi,hc]
     simp [ha]) ht
   refine ⟨by rw [g1]; simp,fun k n hk hn=>?_⟩
   rcases Nat.lt_or_ge i k with h | h
   ·exact g2 k n h hn
   ·have e:k=i:=by omega
    subst e
    rw [List.getElem?_eq_getElem hi,hc] at hn
    simp only [Option.some.injEq] at hn
    subst hn
    rw [g1,List.append_assoc,List.take_append_of_le_length (by omega),List.take_of_length_le (by omega)]
    exact hb'
theorem f0j {l:List Node} {want:Int} (hne:l≠[]) (h:P7 l want=0):ExprOk l:=by
 unfold P7 at h
 split at h
 ·rename_i c
  simp [eqI] at c
  exact absurd c hne
 obtain ⟨h1,h2⟩:=a0a h
 unfold a1x at h1
 split at h1
 ·rename_i c; simp only at h1; rw [h1] at c; simp [A0,eqI] at c
 rename_i c0
 have e0:a0j l=0:=by simpa [A0,eqI] using c0
 obtain ⟨g1,g2,g3⟩:=d2r e0
 split at h1
 ·rename_i c1
  obtain ⟨t1,t2⟩:=d1j (l:=l) l 0 [] rfl rfl (fun k h=>by omega) c1
  have nd:∀ (k:Nat) (n:Node),l[k]?=some n→nodeFaultM n (k:Nat)=0:=fun k n hn=>by have:=c1h g3 k n hn; simpa using this
  refine ⟨g1,g2,nd,fun k n hn hk=>?_⟩
  have hb:=t2 k n (Nat.zero_le _) hn
  have hkl:k < l.length:=by
   rcases Nat.lt_or_ge k l.length with h | h
   ·exact h
   ·rw [List.getElem?_eq_none h] at hn; simp at hn
  have at_:∀ x:Int,0≤x→x≤(k:Int) - 1→A3 ((K8 l []).2.take k) x=(partB (kindN l x)).2:=by
   intro x hx0 hx1
   obtain ⟨y,rfl⟩:=Int.eq_ofNat_of_zero_le hx0
   have hy:y < k:=by omega
   have hyl:y < l.length:=by omega
   rw [t1]
   simp [A3,List.getElem?_take,hy,kindN,hyl]
  unfold a6u at hb
  have nk:=b5w (nd k n hn)
  have hk2:ltI 2 n.kind=true:=by simp [ltI]; exact hk
  rw [hk2] at hb
  rcases nk with q | q | q | q
  ·omega
  ·omega
  ·rw [at_ _ q.2.2.1 q.2.2.2] at hb
   have e39:inR n.kind 3 9=false:=by rw [q.1]; rfl
   rw [e39] at hb
   simp [orB,A2,A0,eqI] at hb
   exact ⟨hb,fun h=>by omega⟩
  ·rw [at_ _ q.2.2.1 q.2.2.2.1,at_ _ q.2.2.2.2.1 q.2.2.2.2.2] at hb
   have e39:inR n.kind 3 9=true:=by simp [inR,A2,leI]; omega
   rw [e39] at hb
   simp [orB,A2,A0,eqI] at hb
   exact ⟨hb.1,fun _=>hb.2⟩
 ·simp at h1
theorem c3l:∀ {l:List Step},procC l=0→∀ s,s∈l→P7 s.cond 2=0∧P7 s.expr 1=0
 | [],_,s,h=>by simp at h
 | x::l,hz,s,h=>by
  unfold procC at hz
  split at hz
  ·rename_i c; rw [hz] at c; simp [A0,eqI] at c
  ·rename_i c
   rcases List.mem_cons.1 h with rfl | h
   ·exact a0a (by simpa [A0,eqI] using c)
   ·exact c3l hz s h
theorem b3r {l:List Step} {i:Nat} {s:Step} (h:one4M l i s=0):
  1≤s.kind∧s.kind≤8∧a7v s=true∧a1n s i=false∧(0 < i→a9i l i=true)∧a7w l i≤7∧U7 s.kind s.arg=true∧(s.kind=7→P9 s.expr=0):=by
 unfold one4M at h
 split at h
 ·simp at h
 rename_i c1
 split at h
 ·simp at h
 rename_i c2
 split at h
 ·simp at h
 rename_i c3
 split at h
 ·simp at h
 rename_i c4
 have hk:inR s.kind 1 8=true∧a7v s=true:=by
  cases a:inR s.kind 1 8 <;> cases b:a7v s <;> simp [a,b,orB,A0] at c1 ⊢
 have hk1:1≤s.kind∧s.kind≤8:=by have:=hk.1; simp [inR,A2,leI] at this; exact this
 have tl:a6r s=0→U7 s.kind s.arg=true∧(s.kind=7→P9 s.expr=0):=by
  intro ht
  unfold a6r at ht
  split at ht
  ·simp at ht
  ·rename_i d
   refine ⟨by simpa [A0] using d,fun h7=>?_⟩
   rw [if_pos (by simp [eqI,h7])] at ht
   exact ht
 have ht:a6r s=0:=by
  split at h
  ·split at h
   ·rename_i d; rw [h] at d; simp [A0,eqI] at d
   ·exact h
  ·exact h
 obtain ⟨t1,t2⟩:=tl ht
 refine ⟨hk1.1,hk1.2,hk.2,by simpa using c2,fun h0=>?_,by simp [ltI] at c4; omega,t1,t2⟩
 have:ltI 0 (i:Int)=true:=by simp [ltI]; omega
 rw [this] at c3
 simpa [A2,A0] using c3
section
variable {l:List Step}
theorem Wf.at (w:Wf l) {k:Nat} (h:k < l.length):one4M l k l[k]=0:=w.one k _ (List.getElem?_eq_getElem h)
theorem a8k {k:Nat} (h:k < l.length):A8 l (k:Int)=(l[k]).kind:=by simp [A8,h]
theorem a8p {k:Nat} (h:k < l.length):parOf l k=(l[k]).parent:=by simp [parOf,h]
theorem Wf.kind (w:Wf l) {k:Nat} (h:k < l.length):1≤(l[k]).kind∧(l[k]).kind≤8:=⟨(b3r (w.at h)).1,(b3r (w.at h)).2.1⟩
theorem Wf.cond (w:Wf l) {s:Step} (hs:s∈l) (hne:s.cond≠[]):ExprOk s.cond:=f0j hne (c3l w.typ s hs).1
theorem Wf.expr (w:Wf l) {k:Nat} (h:k < l.length) (h7:(l[k]).kind=7):ExprOk (l[k]).expr∧0≤(l[k]).arg∧(l[k]).arg≤3:=by
 have p:=b3r (w.at h)
 have hx:=p.2.2.2.2.2.2.2 h7
 refine ⟨f0j (want:=1) (fun e=>?_) (c3l w.typ _ (List.getElem_mem h)).2,?_⟩
 ·rw [e] at hx; simp [P9,orB,ltI] at hx
 ·have:=p.2.2.2.2.2.2.1
  rw [h7] at this
  simp [U7,eqI,inR,A2,leI] at this
  exact this
theorem Wf.par (w:Wf l) {k:Nat} (h:k < l.length) (h0:0 < k):∃ q:Nat,parOf l k=q∧q < k:=by
 obtain ⟨a,h1,h2⟩:=w.ok.par k h h0
 exact ⟨a,by rw [a8p h,h1],h2⟩
theorem Wf.par0 (w:Wf l):parOf l 0=-1:=by
 have h:0 < l.length:=by have:=w.ok.pos; omega
 rw [a8p h]; exact w.ok.par0 h
inductive Und (l:List Step) (a:Nat):Nat→Prop
 | self:Und l a a
 | up {i q:Nat}:i < l.length→parOf l i=(q:Int)→q < i→Und l a q→Und l a i
theorem Und.le {a i:Nat} (h:Und l a i):a≤i:=by
 induction h with
 | self=>exact Nat.le_refl _
 | up _ _ h2 _ ih=>omega
theorem Und.trans {a b c:Nat} (h1:Und l a b) (h2:Und l b c):Und l a c:=by
 induction h2 with
 | self=>exact h1
 | up g1 g2 g3 _ ih=>exact .up g1 g2 g3 ih
theorem Und.down {a i q:Nat} (h:Und l a i) (hn:a≠i) (hp:parOf l i=(q:Int)):Und l a q:=by
 cases h with
 | self=>exact absurd rfl hn
 | up g1 g2 g3 g4=>
  rw [hp] at g2
  have:q=_:=Int.ofNat.inj g2
  rw [this]; exact g4
theorem Und.both {a b i:Nat} (h1:Und l a i) (h2:Und l b i) (hab:b≤a):Und l b a:=by
 induction h1 with
 | self=>exact h2
 | @up j _ g1 g2 g3 g4 ih=>
  by_cases e:b=j
  ·have:=g4.le; omega
  ·exact ih (h2.down e g2)
theorem Wf.root (w:Wf l):∀ {i:Nat},i < l.length→Und l 0 i:=by
 intro i
 induction i using Nat.strongRecOn with
 | ind i ih=>
  intro hi
  rcases Nat.eq_zero_or_pos i with h | h
  ·subst h; exact .self
  ·obtain ⟨q,h1,h2⟩:=w.par hi h
   exact .up hi h1 h2 (ih q h2 (by omega))
theorem Wf.ahead (w:Wf l) {i:Nat}:Ahead l i:=fun k hk _=>by
 rcases Nat.eq_zero_or_pos k with h | h
 ·subst h
  have:=w.ok.par0 hk
  omega
 ·obtain ⟨q,h1,h2⟩:=w.ok.par k hk h
  omega
def dep (l:List Step) (i:Nat):Int:=a7w l i
theorem Wf.dep_up (w:Wf l) {i q:Nat} (hi:i < l.length) (hp:parOf l i=(q:Int)) (hq:q < i):dep l i=dep l q+1:=by
 unfold dep a7w
 conv=>lhs; unfold deepM
 rw [if_pos (by simp [leI])]
 simp only [Int.toNat_natCast,hp]
 rw [c1u (l:=l) (i:=l.length) (Nat.le_refl _) w.ahead (i+1) (q+2) q (by omega) (by omega) (by omega) (by omega)]
 omega
theorem Und.dep (w:Wf l) {a i:Nat} (h:Und l a i):Ft.dep l a≤Ft.dep l i∧(a≠i→Ft.dep l a < Ft.dep l i):=by
 induction h with
 | self=>exact ⟨Int.le_refl _,fun h=>absurd rfl h⟩
 | up g1 g2 g3 _ ih=>
  rw [w.dep_up g1 g2 g3]
  omega
theorem d7m (w:Wf l) {p:Nat}:∀ (f:Nat) (i:Int),i < l.length→P2 l p f i=true→∃ j:Nat,i=j∧Und l p j
 | 0,i,_,h=>by simp [P2] at h
 | f+1,i,hi,h=>by
  unfold P2 at h
  split at h
  ·rename_i c
   obtain ⟨j,rfl⟩:=Int.eq_ofNat_of_zero_le (show 0≤i by simpa [leI] using c)
   split at h
   ·rename_i d
    have:(j:Int)=p:=by simpa [eqI] using d
    have:j=p:=Int.ofNat.inj this
    subst this
    exact ⟨j,rfl,.self⟩
   ·have hj:j < l.length:=by omega
    rw [Int.toNat_natCast] at h
    have hpl:parOf l j < l.length:=by
     rcases Nat.eq_zero_or_pos j with h' | h'
     ·subst h'; rw [w.par0]; omega
     ·obtain ⟨q,h1,h2⟩:=w.par hj h'; omega
    obtain ⟨q,h1,h2⟩:=d7m w f (parOf l j) hpl h
    rcases Nat.eq_zero_or_pos j with h' | h'
    ·subst h'; rw [w.par0] at h1; omega
    ·obtain ⟨q',h3,h4⟩:=w.par hj h'
     have:q=q':=by omega
     subst this
     exact ⟨j,rfl,.up hj h3 h4 h2⟩
  ·simp at h
theorem Wf.before (w:Wf l) {i q:Nat} (hi:i < l.length) (h0:0 < i) (hp:parOf l i=(q:Int)):Und l q (i - 1):=by
 have hl:=(b3r (w.at hi)).2.2.2.2.1 h0
 unfold a9i at hl
 rw [hp] at hl
 obtain ⟨j,h1,h2⟩:=d7m w _ _ (by omega) hl
 have:j=i - 1:=by omega
 rw [← this]; exact h2
theorem Wf.piece (w:Wf l) {a i:Nat} (hi:i < l.length) (h:Und l a i) (hn:a < i):Und l a (i - 1)∧dep l a < dep l i:=by
 obtain ⟨q,h1,h2⟩:=w.par hi (by omega)
 have hq:=h.down (by omega) h1
 exact ⟨hq.trans (w.before hi (by omega) h1),(h.dep w).2 (by omega)⟩
theorem Wf.piece2 (w:Wf l) {a i:Nat} (hi:i < l.length) (hn:a < i) (hb:Und l a (i - 1)) (hd:dep l a < dep l i):Und l a i:=by
 obtain ⟨q,h1,h2⟩:=w.par hi (by omega)
 have hq:=w.before hi (by omega) h1
 rcases Nat.lt_or_ge q a with h | h
 ·have:=(hb.both hq (by omega)).dep w
  rw [w.dep_up hi h1 h2] at hd
  omega
 ·exact .up hi h1 h2 (hq.both hb h)
theorem Wf.between (w:Wf l) {a i:Nat} (hi:i < l.length) (h:Und l a i):∀ (n j:Nat),j+n=i→a≤j→Und l a j
  | 0, j, e, _ => by have : j = i := by omega
                     rw [this]; exact h
  | n+1,j,e,ha=>by
    have h1:=Wf.between w hi h n (j+1) (by omega) (by omega)
    have:=(w.piece (i:=j+1) (by omega) h1 (by omega)).1
    simpa using this
end
attribute [local congr] K9
attribute [local simp] J8 K0 J0 J9 H3 J6 H4 G4 H5 G1
def a3h (l:List Step) (a:Int):Nat→Int→Int
 | 0,i=>i
 | f+1,i=>if ltI a i=true then a3h l a f (parOf l i.toNat) else i
def a5w (l:List Step) (a i:Nat):Bool:=eqI (a3h l a (i+1) i) a
theorem f5a {l:List Step} (w:Wf l) (a:Nat):∀ (f i:Nat),i≤f→i < l.length→
  A5 E (orc E) (287:Nat) (f+1) (B3 f287 0) ⟨18,[(0,.sl 124 (l.map (sT 219))),(1,vI i),(2,vI a)],[],2⟩=
  some (.exit 0,⟨18,[(0,.sl 124 (l.map (sT 219))),(1,vI (a3h l a (f+1) i)),(2,vI a),(9,vB false)],[],2⟩)
 | f,i,hf,hi=>by
  cases c:ltI (a:Int) (i:Int)
  ·have e:a3h l a (f+1) i=i:=by simp [a3h,c]
   rw [e]
   refine D6 ?_ (by simp)
   simp +contextual -dsimp [f287,c]
  ·have h0:a < i:=by simp [ltI] at c; exact c
   obtain ⟨q,h1,h2⟩:=w.par hi (by omega)
   have hp:(l[i]).parent=q:=by rw [← a8p hi]; exact h1
   cases f with
   | zero=>omega
   | succ f=>
    have e:a3h l a (f+1+1) i=a3h l a (f+1) q:=by
     conv=>lhs; unfold a3h
     rw [if_pos c,Int.toNat_natCast,h1]
    rw [e]
    refine C0 ?_ (f5a w a f q (by omega) (by omega))
    simp (maxSteps:=1000000) +contextual -dsimp [f287,c,hi,hp]
theorem g2l {l:List Step} (w:Wf l) (a i:Nat) (hi:i < l.length):fo 287 [A (.sl 124 (l.map (sT 219))),A (vI i),A (vI a)]=some (R (vB (a5w l a i))):=by
 have hlp:=f5a w a i i (Nat.le_refl _) hi
 refine h0q (i+1) ?_
 simp -dsimp [f287] at hlp
 simp (maxSteps:=1000000) +contextual -dsimp [f287,hlp,a5w]
theorem d7n {l:List Step} (w:Wf l) (a:Nat):∀ (f i:Nat),i≤f→i < l.length→(a3h l a (f+1) i=a ↔ Und l a i)
 | f,i,hf,hi=>by
  by_cases h:a < i
  ·obtain ⟨q,h1,h2⟩:=w.par hi (by omega)
   cases f with
   | zero=>omega
   | succ f=>
    have e:a3h l a (f+1+1) i=a3h l a (f+1) q:=by
     conv=>lhs; unfold a3h
     rw [if_pos (by simp [ltI]; omega),Int.toNat_natCast,h1]
    rw [e,d7n w a f q (by omega) (by omega)]
    exact ⟨fun g=>.up hi h1 h2 g,fun g=>g.down (by omega) h1⟩
  ·have e:a3h l a (f+1) i=i:=by unfold a3h; rw [if_neg (by simp [ltI]; omega)]
   rw [e]
   constructor
   ·intro g
    have:i=a:=Int.ofNat.inj g
    rw [this]; exact .self
   ·intro g; have:=g.le
    have:i=a:=by omega
    rw [this]
theorem c3m {l:List Step} (w:Wf l) {a i:Nat} (hi:i < l.length):a5w l a i=true ↔ Und l a i:=by
 unfold a5w
 rw [← d7n w a i i (Nat.le_refl _) hi]
 simp [eqI]
def b8s (l:List Step) (a:Nat) (_:Nat) (acc:List Int) (x:Nat):List Int:=if a5w l a x=true then acc++[(x:Int)] else acc
def K3 (l:List Step) (a:Nat):List Int:=N5 (b8s l a) 0 [] (List.range' a (l.length - a))
theorem d3p {β:Type} {p:β→Bool} {f:β→Int}:∀ (r:List β) (i:Nat) (acc:List Int),N5 (fun _ acc x=>if p x=true then acc++[f x] else acc) i acc r=acc++(r.filter p).map f
 | [],_,acc=>by simp [N5]
 | x::r,i,acc=>by
  simp only [N5]
  rw [d3p r]
  cases h:p x <;> simp [h]
theorem c3n (l:List Step) (a:Nat):K3 l a=((List.range' a (l.length - a)).filter (a5w l a)).map (fun x:Nat=>(x:Int)):=by
 unfold K3 b8s
 rw [d3p]; rfl
theorem d3q {l:List Step} {a:Nat} {k:Int} (h:k∈K3 l a):∃ x:Nat,k=x∧a≤x∧x < l.length∧a5w l a x=true:=by
 rw [c3n,List.mem_map] at h
 obtain ⟨x,h1,rfl⟩:=h
 rw [List.mem_filter,List.mem_range'_1] at h1
 exact ⟨x,rfl,by omega,by omega,h1.2⟩
theorem h5p {l:List Step} (w:Wf l) (a:Nat) (ha:a < l.length):
  A5 E (orc E) (251:Nat) ((List.range' a (l.length - a)).length+1) (B3 f251 0) ⟨24,[(0,.sl 124 (l.map (sT 219))),(1,vI a),(5,.ref 5 1 [] 0 0),(6,vI (a+0:Nat))],[(5,⟨1,1,false,[.own 2 []]⟩)],2⟩=
  some (.exit 0,⟨24,[(0,.sl 124 (l.map (sT 219))),(1,vI a),(5,.ref 5 1 [] 0 (K3 l a).length),(6,vI l.length),(12,vB false)],[(5,⟨1,1,false,[.own 2 (iE (K3 l a))]⟩)],2⟩):=by
 have hle:=w.ok.le
 have hlen:(List.range' a (l.length - a)).length=l.length - a:=by simp
 have h:=a4e (f:=251) (id:=0) (code:=B3 f251 0) (List.range' a (l.length - a)) (fun i acc=>acc.length≤i)
  (fun i acc=>⟨24,[(0,.sl 124 (l.map (sT 219))),(1,vI a),(5,.ref 5 1 [] 0 acc.length),(6,vI (a+i:Nat))],[(5,⟨1,1,false,[.own 2 (iE acc)]⟩)],2⟩) (b8s l a)
  (fun acc=>⟨24,[(0,.sl 124 (l.map (sT 219))),(1,vI a),(5,.ref 5 1 [] 0 acc.length),(6,vI l.length),(12,vB false)],[(5,⟨1,1,false,[.own 2 (iE acc)]⟩)],2⟩)
 refine h ?_ ?_ [] (Nat.le_refl _)
 ·intro k acc _
  have e:a+(l.length - a)=l.length:=by omega
  have hlt:=a2m l.length
  rw [hlen,e]
  simp +contextual -dsimp [f251,hlt]
 ·intro k i acc hi hI
  rw [hlen] at hi
  have hx0:(List.range' a (l.length - a))[i]'(by simp; exact hi)=a+i:=by simp
  rw [hx0]
  obtain ⟨x,hx⟩:∃ x,x=a+i:=⟨_,rfl⟩
  have hx1:a+(i+1)=x+1:=by omega
  simp only [← hx,hx1]
  have hai:x < l.length:=by omega
  have hlt:=O4 hai
  have hw:=N6 hai (by omega)
  have hm1:acc.length+1≤B9:=by unfold B9; omega
  have g:=g2l w a x hai
  unfold b8s
  cases c:a5w l a x
  ·rw [c] at g
   refine ⟨?_,by simp; omega⟩
   simp (maxSteps:=1000000) +contextual -dsimp [f251,hlt,hw,g]
  ·rw [c] at g
   refine ⟨?_,by simp; omega⟩
   simp (maxSteps:=1000000) +contextual -dsimp [f251,hlt,hw,g,hm1,List.set]
theorem d7o (l:List Step) (a:Nat):(K3 l a).length≤l.length:=by
 rw [c3n]
 have:=List.length_filter_le (a5w l a) (List.range' a (l.length - a))
 simp at this ⊢; omega
theorem h1q {l:List Step} (w:Wf l) (a:Nat) (ha:a < l.length):fo 251 [A (.sl 124 (l.map (sT 219))),A (vI a)]=some ⟨.own 2 (iE (K3 l a)),[],true⟩:=by
 have hlp:=h5p w a ha
 have hc:H7 (iE (K3 l a))=true:=by generalize K3 l a=k; induction k <;> simp_all [H7,P1,clean]
 have e0:(List.range' a (l.length - a)).length=l.length - a:=by simp
 rw [e0] at hlp
 refine g9v (l.length - a+1) ?_
 simp -dsimp [f251,iE] at hlp
 simp (maxSteps:=1000000) +contextual -dsimp [f251,hlp,hc,List.set]
theorem h5q (l:List Int) (hl:l.length < 2 ^ 62) (v:Int):
  b1b 0 (fun _=>⟨19,[(0,iS l),(1,vI v),(7,vI l.length),(8,vI l.length),(9,vB false)],[],2⟩) (fun e st=>∃ rt,st=⟨19,[(4,vI e)],rt,2⟩)
   (A5 E (orc E) (248:Nat) (l.length+1) (B3 f248 0) ⟨19,[(0,iS l),(1,vI v),(7,vI l.length),(8,vI (0:Nat))],[],2⟩)
   (U4 (fun (i:Nat) (_:Unit) (x:Int)=>if eqI v x=true then (.inl (i:Int):Int ⊕ Unit) else .inr ()) 0 () l):=by
 refine b3p (f:=248) (id:=0) (code:=B3 f248 0) l (fun _ _=>True) (fun i _=>⟨19,[(0,iS l),(1,vI v),(7,vI l.length),(8,vI i)],[],2⟩) _ _ _ ?_ ?_ l 0 () rfl (Nat.zero_le _) trivial
 ·intro k s _
  have hlt:=a2m l.length
  simp +contextual -dsimp [f248,hlt]
 ·intro k i _ hi _
  have hlt:=O4 hi
  have hw:=N6 hi hl
  cases c:eqI v l[i]
  ·refine ⟨fun s' hs=>⟨?_,trivial⟩,fun e he=>by simp at he⟩
   simp (maxSteps:=1000000) +contextual -dsimp [f248,hlt,hi,hw,c]
  ·refine ⟨fun s' hs=>by simp at hs,fun e he=>?_⟩
   simp only [if_true,Sum.inl.injEq] at he
   subst he
   refine ⟨⟨19,[(4,vI i)],[],2⟩,?_,_,rfl⟩
   simp (maxSteps:=1000000) +contextual -dsimp [f248,hlt,hi,hw,c]
def a3i (v:Int) (l:List Int):Int:=D1 (fun x=>eqI v x) 0 l
theorem d7p (v:Int):∀ (l:List Int) (i:Nat),U4 (fun (i:Nat) (_:Unit) (x:Int)=>if eqI v x=true then (.inl (i:Int):Int ⊕ Unit) else .inr ()) i () l=
  if ltI (D1 (fun x=>eqI v x) i l) 0=true then .inr () else .inl (D1 (fun x=>eqI v x) i l)
 | [],i=>by simp [U4,D1,ltI]
 | x::l,i=>by
  unfold U4 D1
  cases c:eqI v x
  ·simp only [Bool.false_eq_true,if_false]; exact d7p v l (i+1)
  ·simp [ltI]
theorem h1r (l:List Int) (hl:l.length < 2 ^ 62) (v:Int):fo 248 [A (iS l),A (vI v)]=some (R (vI (a3i v l))):=by
 have hlp:=h5q l hl v
 rw [d7p] at hlp
 refine g9s (l.length+1) ?_
 unfold a3i
 cases c:ltI (D1 (fun x=>eqI v x) 0 l) 0
 ·rw [c,if_neg (by simp)] at hlp
  obtain ⟨_,hlp,rt,rfl⟩:=hlp
  simp -dsimp [f248] at hlp
  simp (maxSteps:=1000000) +contextual -dsimp [f248,hlp,c]
 ·rw [c,if_pos rfl] at hlp
  unfold b1b at hlp
  simp -dsimp [f248] at hlp
  have e:=b3w c
  rw [e]
  simp (maxSteps:=1000000) +contextual -dsimp [f248,hlp]
end Go.TM.Ft
