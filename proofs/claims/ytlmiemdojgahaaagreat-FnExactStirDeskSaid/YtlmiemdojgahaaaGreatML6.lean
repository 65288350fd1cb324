/- What functions of the program come to, by the machine. -/
import Derived.Test.YtlmiemdojgahaaaGreatML5
import Derived.Test.YtlmiemdojgahaaaGreatML4
set_option linter.unusedSimpArgs false
set_option linter.unusedVariables false
set_option maxHeartbeats 1000000
namespace Go.TM.Ft
theorem f0y {l:List Node} (hz:T0 0 l=0):∀ n,n∈l→1≤n.kind∧n.kind≤10:=fun n hn=>by
 obtain⟨k,hk,he⟩:=List.getElem_of_mem hn
 have h:=Rn hz k n (by simp[hk,he])
 rw[←Ka] at h
 unfold gL at h
 split at h
 ·simp at h
 ·rename_i c
  simp[A2,A5,A6,B5] at c
  exact c
theorem d6i {k:Int} (h:k≤10):(partB k).1=oI k∧(partB k).2=dP k:=by
 unfold partB oI dP
 simp only[B5,A0,A7]
 by_cases a:k≤6
 ·have b:¬ k=9:=by omega
  have c:¬ k=10:=by omega
  have d:¬ 7≤k:=by omega
  simp[a,b,c,d]
 ·by_cases b:k≤8
  ·have b':¬ k=9:=by omega
   have c:¬ k=10:=by omega
   have d:7≤k:=by omega
   simp[a,b,b',c,d]
  ·have d:7≤k:=by omega
   have e:k=9∨k=10:=by omega
   simp[a,b,d]
   omega
theorem c9d:∀ (l:List Node) (acc:List Int),(∀ n,n∈l→1≤n.kind∧n.kind≤10)→S4 l acc=R1 l acc
 | [],_,_=>rfl
 | n::l,acc,h=>by
  obtain⟨h1,h2⟩:=d6i (h n (by simp)).2
  have e:eU n acc=nH n acc:=by
   unfold eU nH
   rw[h1];rfl
  unfold S4 R1
  rw[e,h2,c9d l _ fun n hn=>h n (by simp[hn])]
theorem d0p (l:List Node):kE l=((eH l).2,(eH l).1):=by
 unfold kE eH
 rw[Wc]
 by_cases h:bI l=0
 ·have hq:¬ (A2 (A0 (bI l) 0)=true):=by simp[A2,A0,h]
  have hz:T0 0 l=0:=by
   unfold bI at h
   split at h
   ·simp at h
   ·split at h
    ·rename_i c;rw[h] at c;simp[A2,A0] at c
    ·rename_i c;simpa[A2,A0] using c
  rw[if_neg hq,if_neg hq,c9d l [] (f0y hz)]
  split<;>rfl
 ·have hq:A2 (A0 (bI l) 0)=true:=by simp[A2,A0,h]
  rw[if_pos hq,if_pos hq]
theorem a5d (l:List Node) (want:Int):fJ l want=aD l want:=by
 unfold fJ aD C5
 rw[d0p]
 simp only
 by_cases h0:A0 l.length 0=true
 ·rw[if_pos h0,if_pos h0]
 rw[if_neg h0,if_neg h0]
 by_cases h:(eH l).1=0
 ·have hq:¬ (A2 (A0 (eH l).1 0)=true):=by simp[A2,A0,h]
  have Rg:A0 (eH l).1 0=true:=by simp[A0,h]
  rw[if_neg hq,if_pos Rg]
 ·have hq:A2 (A0 (eH l).1 0)=true:=by simp[A2,A0,h]
  have Rg:¬ A0 (eH l).1 0=true:=by simp[A0,h]
  rw[if_pos hq,if_neg Rg]
theorem d2l (s:ByteArray):qT s=vQ s:=by
 unfold qT vQ C5
 cases h1:aX s.data.toList<;>cases h2:kG s cU<;>simp[A7,A2,A0]
theorem Uo {l:List Step} {p:Int} {i:Nat} (hi:i≤l.length) (ha:Ahead l i):∀ (g:Nat) (at_:Int),-1≤at_→at_<i→at_<p→Z7 l p g at_=false
 | 0,_,_,_,_=>rfl
 | g+1,at_,h1,h2,h3=>by
  unfold Z7
  by_cases h:0≤at_
  ·have hk:at_.toNat<l.length:=by omega
   obtain⟨a1,a2⟩:=ha at_.toNat hk (by omega)
   have hp:parOf l at_.toNat=(l[at_.toNat]).parent:=by simp[parOf,hk]
   rw[if_pos (by simp[B5,h]),if_neg (by simp[A0];omega),hp]
   exact Uo hi ha g _ a1 (by omega) (by omega)
  ·rw[if_neg (by simp[B5];omega)]
theorem c6j {l:List Step} {p:Int} {i:Nat} {list:List Int} (hi:i≤l.length) (ha:Ahead l i) (hl:list.length=i) (hq:∀ k,k<i→list[k]?=some (parOf l k)) (lN:0≤p):
  ∀ (f g:Nat) (at_:Int),-1≤at_→at_<i→at_<f→at_<g→(dS list p f at_=p↔Z7 l p g at_=true)
 | 0,g,at_,h1,h2,h3,h4=>by
  have e:at_=-1:=by omega
  rw[Uo hi ha g at_ h1 h2 (by omega)]
  simp[dS];omega
 | f+1,0,at_,h1,h2,h3,h4=>by
  have e:at_=-1:=by omega
  subst e
  have:A3 p (-1)=false:=by simp[A3];omega
  simp[dS,Z7,this];omega
 | f+1,g+1,at_,h1,h2,h3,h4=>by
  rcases Int.lt_trichotomy at_ p with h | h | h
  ·rw[Uo hi ha (g+1) at_ h1 h2 h]
   have:A3 p at_=false:=by simp[A3];omega
   simp[dS,this];omega
  ·subst h
   have:A3 at_ at_=false:=by simp[A3]
   simp[dS,Z7,this,B5,lN,A0]
  ·have hk:at_.toNat<l.length:=by omega
   obtain⟨a1,a2⟩:=ha at_.toNat hk (by omega)
   have hp:parOf l at_.toNat=(l[at_.toNat]).parent:=by simp[parOf,hk]
   have e1:A3 p at_=true:=by simp[A3];omega
   have e2:list.getD at_.toNat (-1)=parOf l at_.toNat:=by rw[List.getD_eq_getElem?_getD,hq at_.toNat (by omega)];rfl
   have e3:B5 0 at_=true:=by simp[B5];omega
   have e4:A0 at_ p=false:=by simp[A0];omega
   unfold dS Z7
   rw[e1,e3,e4,e2]
   simp only[if_true,Bool.false_eq_true,if_false]
   exact c6j hi ha hl hq lN f g _ (by omega) (by omega) (by omega) (by omega)
theorem Jm {l:List Step} {i:Nat} (hi:i≤l.length) (ha:Ahead l i):∀ (f g:Nat) (at_:Int),-1≤at_→at_<i→at_<f→at_<g→deepM l f at_=deepM l g at_
 | 0,g,at_,h1,h2,h3,h4=>by
  have e:at_=-1:=by omega
  subst e
  cases g<;>simp[deepM,B5]
 | f+1,0,at_,h1,h2,h3,h4=>by
  have e:at_=-1:=by omega
  subst e
  simp[deepM,B5]
 | f+1,g+1,at_,h1,h2,h3,h4=>by
  unfold deepM
  by_cases h:0≤at_
  ·have hk:at_.toNat<l.length:=by omega
   obtain⟨a1,a2⟩:=ha at_.toNat hk (by omega)
   have hp:parOf l at_.toNat=(l[at_.toNat]).parent:=by simp[parOf,hk]
   rw[Jm hi ha f g (parOf l at_.toNat) (by omega) (by omega) (by omega) (by omega)]
  ·rw[if_neg (by simp[B5];omega),if_neg (by simp[B5];omega)]
theorem b0z (k:Int):A0 (X9 k).2 0=A2 (A5 k 5 8):=by
 unfold X9
 by_cases h5:k=5
 ·subst h5;rfl
 by_cases h6:k=6
 ·subst h6;rfl
 by_cases h7:k=7
 ·subst h7;rfl
 by_cases h8:k=8
 ·subst h8;rfl
 have:¬ (5≤k∧k≤8):=by omega
 simp[A2,A5,A6,A0,B5,h5,h6,h7,h8]
 omega
theorem a6e (s:Step):A2 (nU s)=iF s:=by
 unfold nU iF
 rw[b0z]
 have hx:A3 0 s.expr.length=A2 (A0 s.expr.length 0):=by
  cases s.expr<;>simp[A3,A2,A0];omega
 rw[hx]
 cases A0 s.kind 2<;>cases kG s.name cU<;>cases A5 s.kind 5 8<;>cases A0 s.arg 0<;>cases A0 s.kind 7<;>cases A0 s.expr.length 0<;>rfl
structure Left (l:List Step) (i:Nat) (list deep:List Int):Prop where
 le:i≤l.length
 ahead:Ahead l i
 tree:Tree list
 len:list.length=i
 dlen:deep.length=i
 at_:∀ k,k<i→list[k]?=some (parOf l k)
 deeps:∀ k,k<i→deep[k]?=some (deepM l (k+2) k)
 bd:∀ d,d∈deep→0≤d∧d≤list.length
theorem b5b {l:List Step} {i:Nat} {list deep:List Int} (h:Left l i list deep) (hi:i<l.length) (h1:-1≤parOf l i) (h2:parOf l i<i):bE deep (parOf l i)=deepM l (i+2) i:=by
 have e:deepM l (i+2) i=1+deepM l (i+1) (parOf l i):=by
  conv=>lhs;unfold deepM
  rw[if_pos (by simp[B5])];simp
 rw[e]
 unfold bE
 by_cases h0:0≤parOf l i
 ·have hk:=h.deeps (parOf l i).toNat (by omega)
  rw[if_pos (by simp[B5,h0]),List.getD_eq_getElem?_getD,hk]
  have:=Jm h.le h.ahead ((parOf l i).toNat+2) (i+1) (parOf l i) h1 h2 (by omega) (by omega)
  have e2:(((parOf l i).toNat:Nat):Int)=parOf l i:=by omega
  simp only[Option.getD_some,e2,this];omega
 ·rw[if_neg (by simp[B5];omega)]
  have e:parOf l i=-1:=by omega
  rw[e]
  cases i<;>simp[deepM,B5]
theorem d6t (s:Step) (_hk:A5 s.kind 1 8=true) (ha:iF s=false) (h2:¬ s.kind=2):lV s=rS s:=by
 unfold lV rS ci
 rw[Wc]
 by_cases h7:s.kind=7
 ·have e:aY s.kind s.arg=A5 s.arg 0 3:=by simp[aY,h7,A0]
  have e2:X9 s.kind=(0,3):=by simp[X9,h7,A0]
  rw[e,e2]
  simp only[h7]
  cases A5 s.arg 0 3<;>simp[A2,A0,C5]
 ·have e:aY s.kind s.arg=A5 s.arg (X9 s.kind).1 (X9 s.kind).2:=by
   by_cases h5:s.kind=5
   ·simp[aY,X9,h5,A0]
   by_cases h6:s.kind=6∨s.kind=8
   ·rcases h6 with h6 | h6<;>simp[aY,X9,h6,A0]
   ·have h6':¬ s.kind=6:=by omega
    have h8':¬ s.kind=8:=by omega
    have eV:s.arg=0:=by
     unfold iF at ha
     rw[b0z] at ha
     have:A5 s.kind 5 8=false:=by simp[A5,A6,B5];omega
     simp[this,A7,A6,A2,A0] at ha
     exact ha.1.2
    simp[aY,X9,h5,h6',h8',h7,A0,eV,A5,A6,B5]
  rw[e]
  simp only[A0]
  cases A5 s.arg (X9 s.kind).1 (X9 s.kind).2<;>simp[A2,h7,h2]
theorem d7g {l:List Step} {i:Nat} {list deep:List Int} (h:Left l i list deep) (hi:i<l.length):one4M l i l[i]=aI l[i] list deep:=by
 have hp:parOf l i=(l[i]).parent:=by simp[parOf,hi]
 unfold one4M aI
 by_cases c1:A7 (A2 (A5 (l[i]).kind 1 8)) (A2 (nU l[i]))=true
 ·have c1':=c1
  rw[a6e] at c1'
  have e:cY l[i] list deep=1:=by simp[cY,ci,c1',C5,A0]
  rw[if_pos c1,e];rfl
 rw[if_neg c1]
 rw[a6e] at c1
 have hk:A5 (l[i]).kind 1 8=true:=by
  cases h:A5 (l[i]).kind 1 8
  ·rw[h] at c1;exact absurd rfl c1
  ·rfl
 have ha:iF l[i]=false:=by
  rw[hk] at c1
  simpa[A7,A2] using c1
 have eA:cY l[i] list deep=(R0 list deep (l[i]).parent).1:=by simp[cY,ci,hk,ha,A7,A2,C5,A0]
 rw[eA]
 have ebad:dC list (l[i]).parent=dG l[i] i:=by unfold dC dG;rw[h.len]
 by_cases c2:dG l[i] i=true
 ·have e:(R0 list deep (l[i]).parent).1=3:=by unfold R0;rw[ebad,if_pos c2]
  rw[if_pos c2,e];rfl
 rw[if_neg c2]
 have c2':dG l[i] i=false:=by simpa using c2
 obtain⟨p1,p2⟩:-1≤(l[i]).parent∧(l[i]).parent<i:=by
  unfold dG at c2'
  simp only[A7,A6,A2,A5,B5,A3,A0,Bool.or_eq_false_iff,Bool.and_eq_false_iff,Bool.not_eq_false',decide_eq_true_eq,decide_eq_false_iff_not,beq_eq_false_iff_ne,beq_iff_eq,Bool.and_eq_true] at c2'
  omega
 have ecl:A2 (A0 (dS list (l[i]).parent list.length (list.length - 1)) (l[i]).parent)=A6 (A3 0 (i:Int)) (A2 (rM l i)):=by
  rw[h.len]
  rcases Nat.eq_zero_or_pos i with h0 | h0
  ·have e:(l[i]).parent=-1:=by omega
   rw[e,h0];rfl
  ·have p0:0≤(l[i]).parent:=by
    unfold dG at c2'
    simp only[A7,A6,A2,A5,B5,A3,A0,Bool.or_eq_false_iff,Bool.and_eq_false_iff,Bool.not_eq_false',decide_eq_true_eq,decide_eq_false_iff_not,beq_eq_false_iff_ne,beq_iff_eq,Bool.and_eq_true] at c2'
    omega
   have:=c6j h.le h.ahead h.len h.at_ p0 i (i+1) ((i:Int) - 1) (by omega) (by omega) (by omega) (by omega)
   have e1:A3 0 (i:Int)=true:=by simp[A3];omega
   unfold rM
   rw[hp,e1]
   cases hl:Z7 l (l[i]).parent (i+1) ((i:Int) - 1)
   ·rw[hl] at this
    simp at this
    simp[A2,A6,A0,this]
   ·rw[hl] at this
    simp at this
    simp[A2,A6,A0,this]
 by_cases c3:A6 (A3 0 (i:Int)) (A2 (rM l i))=true
 ·have e:(R0 list deep (l[i]).parent).1=1:=by unfold R0;rw[ebad,if_neg c2,ecl,if_pos c3]
  rw[if_pos c3,e];rfl
 rw[if_neg c3]
 have e:(R0 list deep (l[i]).parent).1=0:=by unfold R0;rw[ebad,if_neg c2,ecl,if_neg c3]
 have hq:¬ A2 (A0 (0:Int) 0)=true:=by simp[A2,A0]
 rw[e,if_neg hq]
 have ed:=b5b h hi (by omega) (by omega)
 rw[hp] at ed
 rw[ed]
 unfold nV ci
 by_cases c4:A3 7 (deepM l (i+2) i)=true
 ·rw[if_pos c4,if_pos c4];rfl
 rw[if_neg c4,if_neg c4,if_neg hq]
 by_cases c5:(l[i]).kind=2
 ·have Yf:A0 (l[i]).kind 2=true:=by simp[A0,c5]
  unfold rS
  rw[if_pos Yf,if_pos Yf,d2l]
  by_cases c6:vQ (l[i]).name=0
  ·rw[c6,if_neg hq]
   simp[lV,c5,aY,A0,A2]
  ·rw[if_pos (by simp[A2,A0,c6])]
 ·rw[if_neg (by simp[A0,c5])]
  exact d6t _ hk ha c5
theorem e8o {l:List Step} {i:Nat} {list deep:List Int} (h:Left l i list deep) (hi:i<l.length) (hz:aI l[i] list deep=0):
  (R0 list deep (l[i]).parent).2.1=list++[(l[i]).parent]∧(R0 list deep (l[i]).parent).2.2=deep++[bE deep (l[i]).parent]∧
  Left l (i+1) (list++[(l[i]).parent]) (deep++[bE deep (l[i]).parent]):=by
 obtain⟨n1,n2,n3,n4,n5⟩:=Vj hz h.tree (by rw[h.dlen,h.len]) h.bd
 have hp:parOf l i=(l[i]).parent:=by simp[parOf,hi]
 rw[h.len] at n4
 refine⟨by rw[n1],by rw[n1],?_⟩
 have ed:=b5b h hi (by omega) (by omega)
 rw[hp] at ed
 constructor
 ·omega
 ·intro k iA N6
  rcases Nat.lt_or_ge k i with h' | h'
  ·exact h.ahead k iA h'
  ·have e:k=i:=by omega
   subst e;exact⟨n3,n4⟩
 ·exact n2
 ·simp[h.len]
 ·simp[h.dlen]
 ·intro k hk
  rcases Nat.lt_or_ge k i with h' | h'
  ·rw[List.getElem?_append_left (by rw[h.len];exact h')];exact h.at_ k h'
  ·have e:k=i:=by omega
   subst e
   rw[List.getElem?_append_right (by rw[h.len];omega)];simp[h.len,hp]
 ·intro k hk
  rcases Nat.lt_or_ge k i with h' | h'
  ·rw[List.getElem?_append_left (by rw[h.dlen];exact h')];exact h.deeps k h'
  ·have e:k=i:=by omega
   subst e
   rw[List.getElem?_append_right (by rw[h.dlen];omega)];simp[h.dlen,ed]
 ·exact n5
theorem a0j {l:List Step}:∀ (rest:List Step) (i:Nat) (list deep:List Int),l.drop i=rest→Left l i list deep→
  aM l i rest=(T2 rest list deep).1∧(aM l i rest=0→Ahead l l.length)
 | [],i,list,deep,h,hl=>by
  have G5:l.length≤i:=by simpa using h
  have e:i=l.length:=by have:=hl.le;omega
  subst e
  exact⟨rfl,fun _=>hl.ahead⟩
 | s::rest,i,list,deep,h,hl=>by
  obtain⟨hi,hc,hr⟩:=F6 h
  subst hc
  have e:=d7g hl hi
  unfold aM T2
  rw[e]
  by_cases hz:aI l[i] list deep=0
  ·obtain⟨e1,e2,M7⟩:=e8o hl hi hz
   rw[if_pos (by simp[A0,hz]),if_neg (by simp[A2,A0,hz]),e1,e2]
   exact a0j rest (i+1) _ _ hr M7
  ·rw[if_neg (by simp[A0,hz]),if_pos (by simp[A2,A0,hz])]
   exact⟨rfl,fun h=>absurd h hz⟩
theorem Nx {p:Int}:∀ (r:List Step) (i:Nat),(i=0→∀ s,r[0]?=some s→s.parent≠p)→C0 p i r=D4 p i r
 | [],_,_=>rfl
 | s::r,i,h=>by
  unfold C0 D4
  rw[Nx r (i+1) (fun h0 s' _=>absurd h0 (by omega))]
  by_cases h0:i=0
  ·have:=h h0 s (by simp)
   have e1:A0 s.parent p=false:=by simp[A0,this]
   simp[e1,A6]
  ·have e1:A3 0 (i:Int)=true:=by simp[A3];omega
   simp[e1,A6]
theorem Vx (p:Int):∀ (r:List Step) (i:Nat),(D4 p i r).length≤r.length
 | [],_=>Nat.le_refl _
 | s::r,i=>by
  have:=Vx p r (i+1)
  unfold D4
  split
  ·simp;omega
  ·simp;omega
theorem e6t {k n:Int} (_h0:0≤n) (h:n≤24):A5 n (T3 k).1 (T3 k).2=iZ k n:=by
 unfold T3 iZ
 by_cases h1:k=1
 ·have:n≤24:=h
  simp[h1,A0,A5,A6,B5,this]
 by_cases h3:k=3
 ·simp[h3,A0,A5,A6,B5,A7,h]
 by_cases h4:k=4
 ·simp[h4,A0,A5,A6,B5,A7,h]
 have hx:∀ m:Int,A5 n m m=A0 n m:=fun m=>by
  unfold A5 A6 B5 A0
  by_cases a:n=m
  ·simp[a]
  ·have e:(n==m)=false:=by simp[a]
   rw[e]
   have:¬ (m≤n∧n≤m):=by omega
   simp
   intro h;omega
 by_cases h8:k=8
 ·simp[h8,A0,hx,A7]
 ·have q1:A0 k 1=false:=by simp[A0,h1]
  have q3:A0 k 3=false:=by simp[A0,h3]
  have q4:A0 k 4=false:=by simp[A0,h4]
  have q8:A0 k 8=false:=by simp[A0,h8]
  simp[q1,q3,q4,q8,A7,hx]
theorem e8d {l:List Step} (hl:l.length≤24) (h0:parOf l 0=-1) (hp:∀ k,0<k→k<l.length→0≤parOf l k) {i:Nat} (hi:i<l.length):qX l i l[i]=condFaultM l i:=by
 have hk:∀ p:Int,0≤p→C0 p 0 l=D4 p 0 l:=fun p hp=>Nx l 0 fun _ s hs=>by
  have:parOf l 0=s.parent:=by simp[parOf,hs]
  omega
 have U0:jI l i=A3 0 (l[i]).cond.length:=by simp[jI,hi]
 have hco:condOf l i=(l[i]).cond:=by simp[condOf,hi]
 have sF:C2 l i=(l[i]).kind:=by simp[C2,hi]
 have hwant:oQ l i=nE l i:=by
  unfold oQ nE
  rcases Nat.eq_zero_or_pos i with e | e
  ·subst e
   rw[if_pos (by simp[A7,A0]),if_pos (by rw[h0];simp[A7,A3])]
  ·have h1:=hp i e hi
   have e1:A0 (i:Int) 0=false:=by simp[A0];omega
   have e2:A3 (parOf l i) 0=false:=by simp[A3];omega
   rw[e1,e2,hk _ h1]
   have:∀ a b:Int,A0 a b=A0 b a:=fun a b=>by simp[A0,Bool.beq_comm]
   rw[this (i:Int)]
 have hn:=Vx i l 0
 unfold qX condFaultM uG kidsN
 rw[U0,hco,sF,hwant,hk i (by omega),e6t (by omega) (by omega),Wc]
 cases iZ (l[i]).kind (D4 i 0 l).length
 ·simp[A2,C5,A0,A7]
 ·cases nE l i<;>cases A3 0 (l[i]).cond.length<;>simp[A2,C5,A0,W4,A7]
theorem b2f {l:List Step} (hl:l.length≤24) (h0:parOf l 0=-1) (hp:∀ k,0<k→k<l.length→0≤parOf l k):∀ (rest:List Step) (i:Nat),l.drop i=rest→dN l i rest=bV l rest.length i
 | [],i,h=>rfl
 | s::rest,i,h=>by
  obtain⟨hi,hc,hr⟩:=F6 h
  subst hc
  have e:=e8d hl h0 hp hi
  unfold dN
  rw[e,List.length_cons]
  unfold bV
  rw[b2f hl h0 hp rest (i+1) hr]
  by_cases hz:condFaultM l i=0
  ·rw[if_pos (by simp[A0,hz]),if_neg (by simp[A2,A0,hz])]
  ·rw[if_neg (by simp[A0,hz]),if_pos (by simp[A2,A0,hz])]
theorem Ts:∀ (l:List Step),fW l=procC l
 | []=>rfl
 | s::l=>by
  unfold fW procC nG C5
  rw[a5d,a5d,Ts l]
  by_cases h1:aD s.cond 2=0
  ·have q:A0 (aD s.cond 2) 0=true:=by simp[A0,h1]
   rw[if_pos q]
   by_cases h2:aD s.expr 1=0
   ·rw[if_pos (by simp[A0,h2]),if_neg (by simp[A2,A0,h2])]
   ·rw[if_neg (by simp[A0,h2]),if_pos (by simp[A2,A0,h2])]
  ·have q:¬ A0 (aD s.cond 2) 0=true:=by simp[A0,h1]
   rw[if_neg q,if_neg q,if_pos (by simp[A2,A0,h1])]
theorem d4f {l:List Step} {s:Step} (h:one4M l 0 s=0):s.parent=-1:=by
 unfold one4M at h
 split at h
 ·simp at h
 ·split at h
  ·simp at h
  ·rename_i c
   simp[dG,A7,A6,A2,A0,A3] at c
   exact c
theorem d7p {l:List Step} {i:Nat} {s:Step} (h:one4M l i s=0) (hi:0<i):0≤s.parent:=by
 unfold one4M at h
 split at h
 ·simp at h
 ·split at h
  ·simp at h
  ·rename_i c
   have c:dG s i=false:=by simpa using c
   unfold dG at c
   simp only[A7,A6,A2,A5,B5,A3,A0,Bool.or_eq_false_iff,Bool.and_eq_false_iff,Bool.not_eq_false',decide_eq_true_eq,decide_eq_false_iff_not,beq_eq_false_iff_ne,beq_iff_eq,Bool.and_eq_true] at c
   omega
theorem Gq {l:List Step}:∀ {r:List Step} {i:Nat},aM l i r=0→∀ (k:Nat) (s:Step),r[k]?=some s→one4M l (i+k) s=0
 | [],i,_,k,n,h=>by simp at h
 | x::r,i,hz,k,s,h=>by
  unfold aM at hz
  split at hz
  ·rename_i hc
   cases k with
   | zero=>simp at h;subst h;simpa[A0] using hc
   | succ k=>
    have:=Gq hz k s (by simpa using h)
    have e:i+1+k=i+(k+1):=by omega
    rw[←e];exact this
  ·rename_i hc;exact absurd (by simp[A0,hz]) hc
theorem Gg (l:List Step):aN l=Q4 l:=by
 unfold aN Q4
 by_cases hl:1≤l.length∧l.length≤24
 ·have e1:¬ A7 (A3 l.length 1) (A3 24 l.length)=true:=by simp[A7,A3];omega
  have e2:¬ A2 (A5 l.length 1 24)=true:=by simp[A2,A5,A6,B5];omega
  rw[if_neg e1,if_neg e2]
  obtain⟨o1,o2⟩:=a0j (l:=l) l 0 [] [] rfl ⟨Nat.zero_le _,fun k _ h=>by omega,fun k h=>by simp at h,rfl,rfl,fun k h=>by omega,fun k h=>by omega,by simp⟩
  rw[o1] at o2 ⊢
  by_cases hz:(T2 l [] []).1=0
  ·have K6:aM l 0 l=0:=by rw[o1,hz]
   have ha:=o2 hz
   have h0:parOf l 0=-1:=by
    have h:=Gq K6 0 l[0] (by simp)
    have:=d4f h
    have e:l[0]?=some l[0]:=by simp
    simp only[parOf,e,this]
   have hp:∀ k,0<k→k<l.length→0≤parOf l k:=fun k h1 h2=>by
    have h:=Gq K6 k l[k] (by simp[h2])
    have:=d7p h (by omega)
    simp[parOf,h2,this]
   have hs:=b2f hl.2 h0 hp l 0 rfl
   have q:A0 (T2 l [] []).1 0=true:=by simp[A0,hz]
   have q2:¬ A2 (A0 (T2 l [] []).1 0)=true:=by simp[A2,A0,hz]
   rw[if_pos q,if_neg q2,hs,Ts]
   by_cases hb:bV l l.length 0=0
   ·rw[if_pos (by simp[A0,hb]),if_neg (by simp[A2,A0,hb])]
    by_cases hc:procC l=0
    ·rw[if_neg (by simp[A2,A0,hc]),hc]
    ·rw[if_pos (by simp[A2,A0,hc])]
   ·rw[if_neg (by simp[A0,hb]),if_pos (by simp[A2,A0,hb])]
  ·rw[if_neg (by simp[A0,hz]),if_pos (by simp[A2,A0,hz])]
 ·have e1:A7 (A3 l.length 1) (A3 24 l.length)=true:=by simp[A7,A3];omega
  have e2:A2 (A5 l.length 1 24)=true:=by simp[A2,A5,A6,B5];omega
  rw[if_pos e1,if_pos e2]
open Go Go.TM Go.Proofs Go.Proofs.Tryz
set_option maxRecDepth 20000
structure Wf (l:List Step):Prop where
 ok:ProcOk l
 one:∀ (k:Nat) (s:Step),l[k]?=some s→one4M l k s=0
 typ:procC l=0
theorem Wm {l:List Step} (h:Q4 l=0):Wf l:=by
 have ok:=Gz h
 have h4:aN l=0:=by rw[Gg];exact h
 unfold aN at h4
 split at h4
 ·simp at h4
 split at h4
 ·rename_i c2
  split at h4
  ·rename_i c3
   exact⟨ok,fun k s hs=>by have:=Gq (by simpa[A0] using c2) k s hs;simpa using this,by rw[←Ts];exact h4⟩
  ·rename_i c3;rw[h4] at c3;simp[A0] at c3
 ·rename_i c2;rw[h4] at c2;simp[A0] at c2
theorem b0x {l:List Node}:∀ (r:List Node) (i:Nat) (acc:List Int),l.drop i=r→acc.length=i→(∀ k,k<i→acc[k]?=(l[k]?).map fun n=>(partB n.kind).2)→(R1 r acc).1=true→
  (R1 r acc).2=acc++r.map (fun n=>(partB n.kind).2)∧∀ (k:Nat) (n:Node),i≤k→l[k]?=some n→nH n ((R1 r acc).2.take k)=false
 | [],i,acc,hd,ha,_,ht=>by
  refine⟨by simp[R1],fun k n hk hn=>?_⟩
  have:l.length≤i:=List.drop_eq_nil_iff.1 hd
  rw[List.getElem?_eq_none (by omega)] at hn;simp at hn
 | x::r,i,acc,hd,ha,hp,ht=>by
  obtain⟨hi,hc,hr⟩:=F6 hd
  unfold R1 at ht ⊢
  split at ht
  ·simp at ht
  ·rename_i hb
   rw[if_neg hb]
   have hb':nH x acc=false:=by simpa using hb
   obtain⟨g1,g2⟩:=b0x (l:=l) r (i+1) (acc++[(partB x.kind).2]) hr (by simp[ha]) (fun k hk=>by
    rcases Nat.lt_or_ge k i with h | h
    ·rw[List.getElem?_append_left (by omega)];exact hp k h
    ·have e:k=i:=by omega
     subst e
     rw[List.getElem?_append_right (by omega),List.getElem?_eq_getElem hi,hc]
     simp[ha]) ht
   refine⟨by rw[g1];simp,fun k n hk hn=>?_⟩
   rcases Nat.lt_or_ge i k with h | h
   ·exact g2 k n h hn
   ·have e:k=i:=by omega
    subst e
    rw[List.getElem?_eq_getElem hi,hc] at hn
    simp only[Option.some.injEq] at hn
    subst hn
    rw[g1,List.append_assoc,List.take_append_of_le_length (by omega),List.take_of_length_le (by omega)]
    exact hb'
theorem c1m {l:List Node} {want:Int} (R5:l≠[]) (h:aD l want=0):ExprOk l:=by
 unfold aD at h
 split at h
 ·rename_i c
  simp[A0] at c
  exact absurd c R5
 obtain⟨h1,h2⟩:=P9 h
 unfold eH at h1
 split at h1
 ·rename_i c;simp only at h1;rw[h1] at c;simp[A2,A0] at c
 rename_i c0
 have e0:bI l=0:=by simpa[A2,A0] using c0
 obtain⟨g1,g2,g3⟩:=c9c e0
 split at h1
 ·rename_i c1
  obtain⟨t1,t2⟩:=b0x (l:=l) l 0 [] rfl rfl (fun k h=>by omega) c1
  have nd:∀ (k:Nat) (n:Node),l[k]?=some n→nodeFaultM n (k:Nat)=0:=fun k n hn=>by have:=Nl g3 k n hn;simpa using this
  refine⟨g1,g2,nd,fun k n hn hk=>?_⟩
  have hb:=t2 k n (Nat.zero_le _) hn
  have hkl:k<l.length:=by
   rcases Nat.lt_or_ge k l.length with h | h
   ·exact h
   ·rw[List.getElem?_eq_none h] at hn;simp at hn
  have at_:∀ x:Int,0≤x→x≤(k:Int) - 1→B4 ((R1 l []).2.take k) x=(partB (kindN l x)).2:=by
   intro x mK hx1
   obtain⟨y,rfl⟩:=Int.eq_ofNat_of_zero_le mK
   have hy:y<k:=by omega
   have cP:y<l.length:=by omega
   rw[t1]
   simp[B4,List.getElem?_take,hy,kindN,cP]
  unfold nH at hb
  have nk:=Cw (nd k n hn)
  have N6:A3 2 n.kind=true:=by simp[A3];exact hk
  rw[N6] at hb
  rcases nk with q | q | q | q
  ·omega
  ·omega
  ·rw[at_ _ q.2.2.1 q.2.2.2] at hb
   have tI:A5 n.kind 3 9=false:=by rw[q.1];rfl
   rw[tI] at hb
   simp[A7,A6,A2,A0] at hb
   exact⟨hb,fun h=>by omega⟩
  ·rw[at_ _ q.2.2.1 q.2.2.2.1,at_ _ q.2.2.2.2.1 q.2.2.2.2.2] at hb
   have tI:A5 n.kind 3 9=true:=by simp[A5,A6,B5];omega
   rw[tI] at hb
   simp[A7,A6,A2,A0] at hb
   exact⟨hb.1,fun _=>hb.2⟩
 ·simp at h1
theorem Qa:∀ {l:List Step},procC l=0→∀ s,s∈l→aD s.cond 2=0∧aD s.expr 1=0
 | [],_,s,h=>by simp at h
 | x::l,hz,s,h=>by
  unfold procC at hz
  split at hz
  ·rename_i c;rw[hz] at c;simp[A2,A0] at c
  ·rename_i c
   rcases List.mem_cons.1 h with rfl | h
   ·exact P9 (by simpa[A2,A0] using c)
   ·exact Qa hz s h
theorem zY {l:List Step} {i:Nat} {s:Step} (h:one4M l i s=0):
  1≤s.kind∧s.kind≤8∧nU s=true∧dG s i=false∧(0<i→rM l i=true)∧nV l i≤7∧aY s.kind s.arg=true∧(s.kind=7→aK s.expr=0):=by
 unfold one4M at h
 split at h
 ·simp at h
 rename_i c1
 split at h
 ·simp at h
 rename_i c2
 split at h
 ·simp at h
 rename_i c3
 split at h
 ·simp at h
 rename_i c4
 have hk:A5 s.kind 1 8=true∧nU s=true:=by
  cases a:A5 s.kind 1 8<;>cases b:nU s<;>simp[a,b,A7,A2] at c1 ⊢
 have iA:1≤s.kind∧s.kind≤8:=by have:=hk.1;simp[A5,A6,B5] at this;exact this
 have tl:lV s=0→aY s.kind s.arg=true∧(s.kind=7→aK s.expr=0):=by
  intro ht
  unfold lV at ht
  split at ht
  ·simp at ht
  ·rename_i d
   refine⟨by simpa[A2] using d,fun h7=>?_⟩
   rw[if_pos (by simp[A0,h7])] at ht
   exact ht
 have ht:lV s=0:=by
  split at h
  ·split at h
   ·rename_i d;rw[h] at d;simp[A2,A0] at d
   ·exact h
  ·exact h
 obtain⟨t1,t2⟩:=tl ht
 refine⟨iA.1,iA.2,hk.2,by simpa using c2,fun h0=>?_,by simp[A3] at c4;omega,t1,t2⟩
 have:A3 0 (i:Int)=true:=by simp[A3];omega
 rw[this] at c3
 simpa[A6,A2] using c3
section
variable {l:List Step}
theorem Wf.at (w:Wf l) {k:Nat} (h:k<l.length):one4M l k l[k]=0:=w.one k _ (List.getElem?_eq_getElem h)
theorem rE {k:Nat} (h:k<l.length):C2 l (k:Int)=(l[k]).kind:=by simp[C2,h]
theorem qP {k:Nat} (h:k<l.length):parOf l k=(l[k]).parent:=by simp[parOf,h]
theorem Wf.kind (w:Wf l) {k:Nat} (h:k<l.length):1≤(l[k]).kind∧(l[k]).kind≤8:=⟨(zY (w.at h)).1,(zY (w.at h)).2.1⟩
theorem Wf.cond (w:Wf l) {s:Step} (hs:s∈l) (R5:s.cond≠[]):ExprOk s.cond:=c1m R5 (Qa w.typ s hs).1
theorem Wf.expr (w:Wf l) {k:Nat} (h:k<l.length) (h7:(l[k]).kind=7):ExprOk (l[k]).expr∧0≤(l[k]).arg∧(l[k]).arg≤3:=by
 have p:=zY (w.at h)
 have hx:=p.2.2.2.2.2.2.2 h7
 refine⟨c1m (want:=1) (fun e=>?_) (Qa w.typ _ (List.getElem_mem h)).2,?_⟩
 ·rw[e] at hx;simp[aK,A7,A3] at hx
 ·have:=p.2.2.2.2.2.2.1
  rw[h7] at this
  simp[aY,A0,A5,A6,B5] at this
  exact this
theorem Wf.par (w:Wf l) {k:Nat} (h:k<l.length) (h0:0<k):∃ q:Nat,parOf l k=q∧q<k:=by
 obtain⟨a,h1,h2⟩:=w.ok.par k h h0
 exact⟨a,by rw[qP h,h1],h2⟩
theorem Wf.par0 (w:Wf l):parOf l 0=-1:=by
 have h:0<l.length:=by have:=w.ok.pos;omega
 rw[qP h];exact w.ok.par0 h
inductive Und (l:List Step) (a:Nat):Nat→Prop
 | self:Und l a a
 | up {i q:Nat}:i<l.length→parOf l i=(q:Int)→q<i→Und l a q→Und l a i
theorem Und.le {a i:Nat} (h:Und l a i):a≤i:=by
 induction h with
 | self=>exact Nat.le_refl _
 | up _ _ h2 _ ih=>omega
theorem Und.trans {a b c:Nat} (h1:Und l a b) (h2:Und l b c):Und l a c:=by
 induction h2 with
 | self=>exact h1
 | up g1 g2 g3 _ ih=>exact .up g1 g2 g3 ih
theorem Und.down {a i q:Nat} (h:Und l a i) (hn:a≠i) (hp:parOf l i=(q:Int)):Und l a q:=by
 cases h with
 | self=>exact absurd rfl hn
 | up g1 g2 g3 g4=>
  rw[hp] at g2
  have:q=_:=Int.ofNat.inj g2
  rw[this];exact g4
theorem Und.both {a b i:Nat} (h1:Und l a i) (h2:Und l b i) (fE:b≤a):Und l b a:=by
 induction h1 with
 | self=>exact h2
 | @up j _ g1 g2 g3 g4 ih=>
  by_cases e:b=j
  ·have:=g4.le;omega
  ·exact ih (h2.down e g2)
theorem Wf.root (w:Wf l):∀ {i:Nat},i<l.length→Und l 0 i:=by
 intro i
 induction i using Nat.strongRecOn with
 | ind i ih=>
  intro hi
  rcases Nat.eq_zero_or_pos i with h | h
  ·subst h;exact .self
  ·obtain⟨q,h1,h2⟩:=w.par hi h
   exact .up hi h1 h2 (ih q h2 (by omega))
theorem Wf.ahead (w:Wf l) {i:Nat}:Ahead l i:=fun k hk _=>by
 rcases Nat.eq_zero_or_pos k with h | h
 ·subst h
  have:=w.ok.par0 hk
  omega
 ·obtain⟨q,h1,h2⟩:=w.ok.par k hk h
  omega
def dep (l:List Step) (i:Nat):Int:=nV l i
theorem Wf.dep_up (w:Wf l) {i q:Nat} (hi:i<l.length) (hp:parOf l i=(q:Int)) (hq:q<i):dep l i=dep l q+1:=by
 unfold dep nV
 conv=>lhs;unfold deepM
 rw[if_pos (by simp[B5])]
 simp only[Int.toNat_natCast,hp]
 rw[Jm (l:=l) (i:=l.length) (Nat.le_refl _) w.ahead (i+1) (q+2) q (by omega) (by omega) (by omega) (by omega)]
 omega
theorem Und.dep (w:Wf l) {a i:Nat} (h:Und l a i):Ft.dep l a≤Ft.dep l i∧(a≠i→Ft.dep l a<Ft.dep l i):=by
 induction h with
 | self=>exact⟨Int.le_refl _,fun h=>absurd rfl h⟩
 | up g1 g2 g3 _ ih=>
  rw[w.dep_up g1 g2 g3]
  omega
theorem c8c (w:Wf l) {p:Nat}:∀ (f:Nat) (i:Int),i<l.length→Z7 l p f i=true→∃ j:Nat,i=j∧Und l p j
 | 0,i,_,h=>by simp[Z7] at h
 | f+1,i,hi,h=>by
  unfold Z7 at h
  split at h
  ·rename_i c
   obtain⟨j,rfl⟩:=Int.eq_ofNat_of_zero_le (show 0≤i by simpa[B5] using c)
   split at h
   ·rename_i d
    have:(j:Int)=p:=by simpa[A0] using d
    have:j=p:=Int.ofNat.inj this
    subst this
    exact⟨j,rfl,.self⟩
   ·have hj:j<l.length:=by omega
    rw[Int.toNat_natCast] at h
    have R8:parOf l j<l.length:=by
     rcases Nat.eq_zero_or_pos j with h' | h'
     ·subst h';rw[w.par0];omega
     ·obtain⟨q,h1,h2⟩:=w.par hj h';omega
    obtain⟨q,h1,h2⟩:=c8c w f (parOf l j) R8 h
    rcases Nat.eq_zero_or_pos j with h' | h'
    ·subst h';rw[w.par0] at h1;omega
    ·obtain⟨q',h3,h4⟩:=w.par hj h'
     have:q=q':=by omega
     subst this
     exact⟨j,rfl,.up hj h3 h4 h2⟩
  ·simp at h
theorem Wf.before (w:Wf l) {i q:Nat} (hi:i<l.length) (h0:0<i) (hp:parOf l i=(q:Int)):Und l q (i - 1):=by
 have hl:=(zY (w.at hi)).2.2.2.2.1 h0
 unfold rM at hl
 rw[hp] at hl
 obtain⟨j,h1,h2⟩:=c8c w _ _ (by omega) hl
 have:j=i - 1:=by omega
 rw[←this];exact h2
theorem Wf.piece (w:Wf l) {a i:Nat} (hi:i<l.length) (h:Und l a i) (hn:a<i):Und l a (i - 1)∧dep l a<dep l i:=by
 obtain⟨q,h1,h2⟩:=w.par hi (by omega)
 have hq:=h.down (by omega) h1
 exact⟨hq.trans (w.before hi (by omega) h1),(h.dep w).2 (by omega)⟩
theorem Wf.piece2 (w:Wf l) {a i:Nat} (hi:i<l.length) (hn:a<i) (hb:Und l a (i - 1)) (hd:dep l a<dep l i):Und l a i:=by
 obtain⟨q,h1,h2⟩:=w.par hi (by omega)
 have hq:=w.before hi (by omega) h1
 rcases Nat.lt_or_ge q a with h | h
 ·have:=(hb.both hq (by omega)).dep w
  rw[w.dep_up hi h1 h2] at hd
  omega
 ·exact .up hi h1 h2 (hq.both hb h)
theorem Wf.between (w:Wf l) {a i:Nat} (hi:i<l.length) (h:Und l a i):∀ (n j:Nat),j+n=i→a≤j→Und l a j
  | 0, j, e, _ => by have : j = i := by omega
                     rw[this];exact h
  | n+1,j,e,ha=>by
    have h1:=Wf.between w hi h n (j+1) (by omega) (by omega)
    have:=(w.piece (i:=j+1) (by omega) h1 (by omega)).1
    simpa using this
end
attribute [local congr] O3
attribute [local simp] L9 M4 K0 L6 J6 L4 J8 J1 K5 I6
def gN (l:List Step) (a:Int):Nat→Int→Int
 | 0,i=>i
 | f+1,i=>if A3 a i=true then gN l a f (parOf l i.toNat) else i
def lJ (l:List Step) (a i:Nat):Bool:=A0 (gN l a (i+1) i) a
theorem a6l {l:List Step} (w:Wf l) (a:Nat):∀ (f i:Nat),i≤f→i<l.length→
  B7 E (orc E) (287:Nat) (f+1) (C1 f287 0) ⟨18,[(0,.sl 124 (l.map (sT 219))),(1,vI i),(2,vI a)],[],2⟩=
  some (.exit 0,⟨18,[(0,.sl 124 (l.map (sT 219))),(1,vI (gN l a (f+1) i)),(2,vI a),(9,vB false)],[],2⟩)
 | f,i,hf,hi=>by
  cases c:A3 (a:Int) (i:Int)
  ·have e:gN l a (f+1) i=i:=by simp[gN,c]
   rw[e]
   refine G3 ?_ (by simp)
   simp +contextual -dsimp [f287,c]
  ·have h0:a<i:=by simp[A3] at c;exact c
   obtain⟨q,h1,h2⟩:=w.par hi (by omega)
   have hp:(l[i]).parent=q:=by rw[←qP hi];exact h1
   cases f with
   | zero=>omega
   | succ f=>
    have e:gN l a (f+1+1) i=gN l a (f+1) q:=by
     conv=>lhs;unfold gN
     rw[if_pos c,Int.toNat_natCast,h1]
    rw[e]
    refine D6 ?_ (a6l w a f q (by omega) (by omega))
    simp (maxSteps:=1000000) +contextual -dsimp [f287,c,hi,hp]
theorem d1n {l:List Step} (w:Wf l) (a i:Nat) (hi:i<l.length):fo 287 [A (.sl 124 (l.map (sT 219))),A (vI i),A (vI a)]=some (R (vB (lJ l a i))):=by
 have A4:=a6l w a i i (Nat.le_refl _) hi
 refine e9p (i+1) ?_
 simp -dsimp [f287] at A4
 simp (maxSteps:=1000000) +contextual -dsimp [f287,A4,lJ]
theorem b8e {l:List Step} (w:Wf l) (a:Nat):∀ (f i:Nat),i≤f→i<l.length→(gN l a (f+1) i=a↔Und l a i)
 | f,i,hf,hi=>by
  by_cases h:a<i
  ·obtain⟨q,h1,h2⟩:=w.par hi (by omega)
   cases f with
   | zero=>omega
   | succ f=>
    have e:gN l a (f+1+1) i=gN l a (f+1) q:=by
     conv=>lhs;unfold gN
     rw[if_pos (by simp[A3];omega),Int.toNat_natCast,h1]
    rw[e,b8e w a f q (by omega) (by omega)]
    exact⟨fun g=>.up hi h1 h2 g,fun g=>g.down (by omega) h1⟩
  ·have e:gN l a (f+1) i=i:=by unfold gN;rw[if_neg (by simp[A3];omega)]
   rw[e]
   constructor
   ·intro g
    have:i=a:=Int.ofNat.inj g
    rw[this];exact .self
   ·intro g;have:=g.le
    have:i=a:=by omega
    rw[this]
theorem Te {l:List Step} (w:Wf l) {a i:Nat} (hi:i<l.length):lJ l a i=true↔Und l a i:=by
 unfold lJ
 rw[←b8e w a i i (Nat.le_refl _) hi]
 simp[A0]
def Cm (l:List Step) (a:Nat) (_:Nat) (acc:List Int) (x:Nat):List Int:=if lJ l a x=true then acc++[(x:Int)] else acc
def O7 (l:List Step) (a:Nat):List Int:=S8 (Cm l a) 0 [] (List.range' a (l.length - a))
theorem b3x {β:Type} {p:β→Bool} {f:β→Int}:∀ (r:List β) (i:Nat) (acc:List Int),S8 (fun _ acc x=>if p x=true then acc++[f x] else acc) i acc r=acc++(r.filter p).map f
 | [],_,acc=>by simp[S8]
 | x::r,i,acc=>by
  simp only[S8]
  rw[b3x r]
  cases h:p x<;>simp[h]
theorem Mk (l:List Step) (a:Nat):O7 l a=((List.range' a (l.length - a)).filter (lJ l a)).map (fun x:Nat=>(x:Int)):=by
 unfold O7 Cm
 rw[b3x];rfl
theorem c8z {l:List Step} {a:Nat} {k:Int} (h:k∈O7 l a):∃ x:Nat,k=x∧a≤x∧x<l.length∧lJ l a x=true:=by
 rw[Mk,List.mem_map] at h
 obtain⟨x,h1,rfl⟩:=h
 rw[List.mem_filter,List.mem_range'_1] at h1
 exact⟨x,rfl,by omega,by omega,h1.2⟩
theorem d0l {l:List Step} (w:Wf l) (a:Nat) (ha:a<l.length):
  B7 E (orc E) (251:Nat) ((List.range' a (l.length - a)).length+1) (C1 f251 0) ⟨24,[(0,.sl 124 (l.map (sT 219))),(1,vI a),(5,.ref 5 1 [] 0 0),(6,vI (a+0:Nat))],[(5,⟨1,1,false,[.own 2 []]⟩)],2⟩=
  some (.exit 0,⟨24,[(0,.sl 124 (l.map (sT 219))),(1,vI a),(5,.ref 5 1 [] 0 (O7 l a).length),(6,vI l.length),(12,vB false)],[(5,⟨1,1,false,[.own 2 (iE (O7 l a))]⟩)],2⟩):=by
 have D8:=w.ok.le
 have D7:(List.range' a (l.length - a)).length=l.length - a:=by simp
 have h:=iJ (f:=251) (id:=0) (code:=C1 f251 0) (List.range' a (l.length - a)) (fun i acc=>acc.length≤i)
  (fun i acc=>⟨24,[(0,.sl 124 (l.map (sT 219))),(1,vI a),(5,.ref 5 1 [] 0 acc.length),(6,vI (a+i:Nat))],[(5,⟨1,1,false,[.own 2 (iE acc)]⟩)],2⟩) (Cm l a)
  (fun acc=>⟨24,[(0,.sl 124 (l.map (sT 219))),(1,vI a),(5,.ref 5 1 [] 0 acc.length),(6,vI l.length),(12,vB false)],[(5,⟨1,1,false,[.own 2 (iE acc)]⟩)],2⟩)
 refine h ?_ ?_ [] (Nat.le_refl _)
 ·intro k acc _
  have e:a+(l.length - a)=l.length:=by omega
  have A1:=cF l.length
  rw[D7,e]
  simp +contextual -dsimp [f251,A1]
 ·intro k i acc hi hI
  rw[D7] at hi
  have mK:(List.range' a (l.length - a))[i]'(by simp;exact hi)=a+i:=by simp
  rw[mK]
  obtain⟨x,hx⟩:∃ x,x=a+i:=⟨_,rfl⟩
  have hx1:a+(i+1)=x+1:=by omega
  simp only[←hx,hx1]
  have mS:x<l.length:=by omega
  have A1:=U2 mS
  have hw:=S6 mS (by omega)
  have H9:acc.length+1≤D0:=by unfold D0;omega
  have g:=d1n w a x mS
  unfold Cm
  cases c:lJ l a x
  ·rw[c] at g
   refine⟨?_,by simp;omega⟩
   simp (maxSteps:=1000000) +contextual -dsimp [f251,A1,hw,g]
  ·rw[c] at g
   refine⟨?_,by simp;omega⟩
   simp (maxSteps:=1000000) +contextual -dsimp [f251,A1,hw,g,H9,List.set]
theorem c6u (l:List Step) (a:Nat):(O7 l a).length≤l.length:=by
 rw[Mk]
 have:=List.length_filter_le (lJ l a) (List.range' a (l.length - a))
 simp at this ⊢;omega
theorem f3j {l:List Step} (w:Wf l) (a:Nat) (ha:a<l.length):fo 251 [A (.sl 124 (l.map (sT 219))),A (vI a)]=some ⟨.own 2 (iE (O7 l a)),[],true⟩:=by
 have A4:=d0l w a ha
 have hc:K1 (iE (O7 l a))=true:=by generalize O7 l a=k;induction k<;>simp_all [K1,U9,clean]
 have e0:(List.range' a (l.length - a)).length=l.length - a:=by simp
 rw[e0] at A4
 refine d3v (l.length - a+1) ?_
 simp -dsimp [f251,iE] at A4
 simp (maxSteps:=1000000) +contextual -dsimp [f251,A4,hc,List.set]
theorem e7v (l:List Int) (hl:l.length<2 ^ 62) (v:Int):
  iK 0 (fun _=>⟨19,[(0,iS l),(1,vI v),(7,vI l.length),(8,vI l.length),(9,vB false)],[],2⟩) (fun e st=>∃ rt,st=⟨19,[(4,vI e)],rt,2⟩)
   (B7 E (orc E) (248:Nat) (l.length+1) (C1 f248 0) ⟨19,[(0,iS l),(1,vI v),(7,vI l.length),(8,vI (0:Nat))],[],2⟩)
   (Q7 (fun (i:Nat) (_:Unit) (x:Int)=>if A0 v x=true then (.inl (i:Int):Int ⊕ Unit) else .inr ()) 0 () l):=by
 refine sA (f:=248) (id:=0) (code:=C1 f248 0) l (fun _ _=>True) (fun i _=>⟨19,[(0,iS l),(1,vI v),(7,vI l.length),(8,vI i)],[],2⟩) _ _ _ ?_ ?_ l 0 () rfl (Nat.zero_le _) trivial
 ·intro k s _
  have A1:=cF l.length
  simp +contextual -dsimp [f248,A1]
 ·intro k i _ hi _
  have A1:=U2 hi
  have hw:=S6 hi hl
  cases c:A0 v l[i]
  ·refine⟨fun s' hs=>⟨?_,trivial⟩,fun e he=>by simp at he⟩
   simp (maxSteps:=1000000) +contextual -dsimp [f248,A1,hi,hw,c]
  ·refine⟨fun s' hs=>by simp at hs,fun e he=>?_⟩
   simp only[if_true,Sum.inl.injEq] at he
   subst he
   refine⟨⟨19,[(4,vI i)],[],2⟩,?_,_,rfl⟩
   simp (maxSteps:=1000000) +contextual -dsimp [f248,A1,hi,hw,c]
def gP (v:Int) (l:List Int):Int:=G8 (fun x=>A0 v x) 0 l
theorem c1s (v:Int):∀ (l:List Int) (i:Nat),Q7 (fun (i:Nat) (_:Unit) (x:Int)=>if A0 v x=true then (.inl (i:Int):Int ⊕ Unit) else .inr ()) i () l=
  if A3 (G8 (fun x=>A0 v x) i l) 0=true then .inr () else .inl (G8 (fun x=>A0 v x) i l)
 | [],i=>by simp[Q7,G8,A3]
 | x::l,i=>by
  unfold Q7 G8
  cases c:A0 v x
  ·simp only[Bool.false_eq_true,if_false];exact c1s v l (i+1)
  ·simp[A3]
theorem d5t (l:List Int) (hl:l.length<2 ^ 62) (v:Int):fo 248 [A (iS l),A (vI v)]=some (R (vI (gP v l))):=by
 have A4:=e7v l hl v
 rw[c1s] at A4
 refine d9e (l.length+1) ?_
 unfold gP
 cases c:A3 (G8 (fun x=>A0 v x) 0 l) 0
 ·rw[c,if_neg (by simp)] at A4
  obtain⟨_,A4,rt,rfl⟩:=A4
  simp -dsimp [f248] at A4
  simp (maxSteps:=1000000) +contextual -dsimp [f248,A4,c]
 ·rw[c,if_pos rfl] at A4
  unfold iK at A4
  simp -dsimp [f248] at A4
  have e:=zW c
  rw[e]
  simp (maxSteps:=1000000) +contextual -dsimp [f248,A4]
end Go.TM.Ft
