/- What functions of the program come to, by the machine. -/
import Derived.Test.YtlmiemdojgahaaaGreatML3
import Derived.Test.YtlmiemdojgahaaaGreatML2
set_option linter.unusedSimpArgs false
set_option linter.unusedVariables false
set_option maxHeartbeats 4000000
namespace Go.TM.Ft
open Go Go.TM Go.Proofs Go.Proofs.Tryz
set_option maxRecDepth 20000
attribute [local congr] O3
attribute [local simp] L9 M4 K0 L6 J6 L4 J8 J1 K5 I6
def aM (l:List Step):Nat→List Step→Int
 | _,[]=>0
 | i,s::r=>if A0 (one4M l i s) 0=true then aM l (i+1) r else one4M l i s
theorem c3s {l:List Step} {i:Nat} {s:Step} (h:A0 (one4M l i s) 0=true):dG s i=false:=by
 unfold one4M at h
 split at h
 ·simp[A0] at h
 ·split at h
  ·simp[A0] at h
  ·rename_i c;simpa using c
abbrev qZ (l:List Step):Prop:=∀ s,s∈l→s.name.size<2 ^ 62∧s.cond.length<2 ^ 62∧s.expr.length<2 ^ 62
theorem Xr (all:List Step) (B9:all.length≤24) (hf:qZ all):∀ (rest:List Step) (i:Nat),all.drop i=rest→Ahead all i→
  B7 E (orc E) (157:Nat) (rest.length+1) (C1 f157 0) ⟨58,[(0,.sl 124 (all.map (sT 219))),(3,vI i)],[],2⟩=
  (if A0 (aM all i rest) 0=true then some (.exit 0,⟨58,[(0,.sl 124 (all.map (sT 219))),(3,vI (i+rest.length:Nat)),(20,vB false)],[],2⟩) else some (.ret,⟨58,[(2,vI (aM all i rest))],[],2⟩))
 | [],i,h,_=>by
  have G5:all.length≤i:=by simpa using h
  have A1:A3 (i:Int) (all.length:Int)=false:=C9 (by omega)
  rw[D5]
  simp +contextual -dsimp [f157,A1,aM,A0]
 | s::rest,i,h,ha=>by
  obtain⟨hi,hc,hr⟩:=F6 h
  have A1:A3 (i:Int) (all.length:Int)=true:=F5 (by omega)
  have hw:IntKind.i64.wrap ((i:Int)+1)=((i+1:Nat):Int):=by rw[B6]<;>omega
  have he:i+1+rest.length=i+(rest.length+1):=by omega
  have hs:=hf s (by rw[←hc];exact List.getElem_mem _)
  have g:=e2d all B9 i hi ha (by rw[hc];exact hs.1) (by rw[hc];exact hs.2.2)
  rw[hc] at g
  cases c:A0 (one4M all i s) 0
  ·have hm:aM all i (s::rest)=one4M all i s:=by simp[aM,c]
   rw[hm,c,if_neg (by simp)]
   refine G3 ?_ (by simp)
   simp (maxSteps:=1000000) +contextual -dsimp [f157,A1,g,c]
  ·have X8:Ahead all (i+1):=fun k hk N6=>by
    by_cases e:k=i
    ·subst e;rw[hc];exact Wg (c3s c)
    ·exact ha k hk (by omega)
   have ih:=Xr all B9 hf rest (i+1) hr X8
   rw[he] at ih
   have hm:aM all i (s::rest)=aM all (i+1) rest:=by simp[aM,c]
   rw[hm]
   refine D6 ?_ (by simpa only[List.length_cons] using ih)
   simp (maxSteps:=1000000) +contextual -dsimp [f157,A1,hw,g,c]
def nG (s:Step):Int:=if A0 (fJ s.cond 2) 0=true then fJ s.expr 1 else fJ s.cond 2
def fW:List Step→Int
 | []=>0
 | s::r=>if A0 (nG s) 0=true then fW r else nG s
theorem a9l (all:List Step) (B9:all.length≤24) (hf:qZ all):∀ (rest:List Step) (i:Nat),all.drop i=rest→
  B7 E (orc E) (157:Nat) (rest.length+1) (C1 f157 1) ⟨58,[(0,.sl 124 (all.map (sT 219))),(6,vI i)],[],2⟩=
  (if A0 (fW rest) 0=true then some (.exit 2,⟨58,[(0,.sl 124 (all.map (sT 219))),(6,vI (i+rest.length:Nat)),(37,vB false)],[],2⟩) else some (.ret,⟨58,[(2,vI (fW rest))],[],2⟩))
 | [],i,h=>by
  have G5:all.length≤i:=by simpa using h
  have A1:A3 (i:Int) (all.length:Int)=false:=C9 (by omega)
  rw[D5]
  simp +contextual -dsimp [f157,A1,fW,A0]
 | s::rest,i,h=>by
  obtain⟨hi,hc,hr⟩:=F6 h
  have A1:A3 (i:Int) (all.length:Int)=true:=F5 (by omega)
  have hw:IntKind.i64.wrap ((i:Int)+1)=((i+1:Nat):Int):=by rw[B6]<;>omega
  have he:i+1+rest.length=i+(rest.length+1):=by omega
  have hs:=hf s (by rw[←hc];exact List.getElem_mem _)
  have g1:=b2l s.cond hs.2.1 2
  have g2:=b2l s.expr hs.2.2 1
  cases c:A0 (nG s) 0
  ·have hm:fW (s::rest)=nG s:=by simp[fW,c]
   rw[hm,c,if_neg (by simp)]
   refine G3 ?_ (by simp)
   cases c1:A0 (fJ s.cond 2) 0
   ·simp (maxSteps:=1000000) +contextual -dsimp [f157,A1,hi,hc,g1,c1,nG]
   ·have c2:A0 (fJ s.expr 1) 0=false:=by simpa[nG,c1] using c
    simp (maxSteps:=1000000) +contextual -dsimp [f157,A1,hi,hc,g1,g2,c1,c2,nG]
  ·have ih:=a9l all B9 hf rest (i+1) hr
   rw[he] at ih
   have hm:fW (s::rest)=fW rest:=by simp[fW,c]
   rw[hm]
   refine D6 ?_ (by simpa only[List.length_cons] using ih)
   cases c1:A0 (fJ s.cond 2) 0
   ·rw[nG,c1] at c;simp[c1] at c
   ·have c2:A0 (fJ s.expr 1) 0=true:=by simpa[nG,c1] using c
    simp (maxSteps:=1000000) +contextual -dsimp [f157,A1,hi,hc,hw,g1,g2,c1,c2]
def aN (l:List Step):Int:=
 if A7 (A3 l.length 1) (A3 24 l.length)=true then 2
 else if A0 (aM l 0 l) 0=true then (if A0 (dN l 0 l) 0=true then fW l else dN l 0 l) else aM l 0 l
theorem c1q {l:List Step}:∀ {r:List Step} {i:Nat},A0 (aM l i r) 0=true→∀ (k:Nat) (s:Step),r[k]?=some s→A0 (one4M l (i+k) s) 0=true
 | [],i,_,k,n,h=>by simp at h
 | x::r,i,hz,k,s,h=>by
  unfold aM at hz
  split at hz
  ·rename_i hc
   cases k with
   | zero=>simp at h;subst h;exact hc
   | succ k=>
    have:=c1q hz k s (by simpa using h)
    have e:i+1+k=i+(k+1):=by omega
    rw[←e];exact this
  ·rename_i hc;exact absurd hz hc
theorem e7d {l:List Step} (h:A0 (aM l 0 l) 0=true):∀ k (_hk:k<l.length),-1≤parOf l k∧parOf l k<k:=fun k hk=>by
 have:=Wg (c3s (c1q h k l[k] (by simp[hk])))
 have e:parOf l k=(l[k]).parent:=by simp[parOf,hk]
 rw[e];omega
theorem Sw (l:List Step) (hl:l.length<2 ^ 62) (hf:qZ l):fo 157 [A (.sl 124 (l.map (sT 219)))]=some (R (vI (aN l))):=by
 cases c1:A7 (A3 l.length 1) (A3 24 l.length)
 ·have M7:1≤l.length∧l.length≤24:=by simp[A7,A3] at c1;omega
  have ha:=Xr l M7.2 hf l 0 rfl (fun k _ h=>absurd h (by omega))
  have hb:=a9l l M7.2 hf l 0 rfl
  simp -dsimp [f157] at ha hb
  refine c0f (l.length+1) ?_
  cases c2:A0 (aM l 0 l) 0
  ·rw[c2] at ha
   simp (maxSteps:=1000000) +contextual -dsimp [f157,c1,c2,ha,aN]
  ·rw[c2] at ha
   have g:=d8q l M7.2 (fun k hk=>by have:=e7d c2 k hk;omega) (fun s hs=>(hf s hs).2.1)
   cases c3:A0 (dN l 0 l) 0
   ·simp (maxSteps:=1000000) +contextual -dsimp [f157,c1,c2,c3,ha,g,aN]
   ·cases c4:A0 (fW l) 0
    ·rw[c4] at hb
     simp (maxSteps:=1000000) +contextual -dsimp [f157,c1,c2,c3,ha,hb,g,aN]
    ·rw[c4] at hb
     have e4:fW l=0:=by simpa[A0] using c4
     simp (maxSteps:=1000000) +contextual -dsimp [f157,c1,c2,c3,e4,ha,hb,g,aN]
 ·refine c0f 1 ?_
  simp (maxSteps:=1000000) +contextual -dsimp [f157,c1,aN]
def T2:List Step→List Int→List Int→Int×List Int×List Int
 | [],list,deep=>(0,list,deep)
 | s::r,list,deep=>
  if A2 (A0 (aI s list deep) 0)=true then (aI s list deep,(R0 list deep s.parent).2.1,(R0 list deep s.parent).2.2)
  else T2 r (R0 list deep s.parent).2.1 (R0 list deep s.parent).2.2
structure FitS (s:Step):Prop where
 p1:-9223372036854775808≤s.parent
 p2:s.parent<9223372036854775808
 name:s.name.size<2 ^ 62
 cond:s.cond.length<2 ^ 62
 expr:s.expr.length<2 ^ 62
theorem Vj {s:Step} {list deep:List Int} (h:aI s list deep=0) (ht:Tree list) (hd:deep.length=list.length) (hv:∀ d,d∈deep→0≤d∧d≤list.length):
  R0 list deep s.parent=(0,list++[s.parent],deep++[bE deep s.parent])∧Tree (list++[s.parent])∧-1≤s.parent∧s.parent<list.length∧
   (∀ d,d∈deep++[bE deep s.parent]→0≤d∧d≤(list++[s.parent]).length):=by
 have hz:cY s list deep=0:=by
  unfold aI at h
  split at h
  ·rename_i c;rw[h] at c;simp[A2,A0] at c
  ·rename_i c;simpa[A2,A0] using c
 have h1:=(P9 hz).2
 have mG:R0 list deep s.parent=(0,list++[s.parent],deep++[bE deep s.parent])∧dC list s.parent=false:=by
  unfold R0 at h1 ⊢
  split at h1
  ·simp at h1
  ·rename_i d1
   rw[if_neg d1]
   split at h1
   ·simp at h1
   ·rename_i d2
    rw[if_neg d2]
    exact⟨rfl,by simpa using d1⟩
 obtain⟨mG,c1⟩:=mG
 have lA:-1≤s.parent∧s.parent<list.length:=by
  simp only[dC,A7,A6,A2,A0,A3,A5,B5,Bool.or_eq_false_iff,Bool.and_eq_false_iff,Bool.not_eq_false',beq_eq_false_iff_ne,beq_iff_eq,decide_eq_false_iff_not,decide_eq_true_eq,Bool.and_eq_true] at c1
  omega
 refine⟨mG,fun k hk=>?_,lA.1,lA.2,fun d mP=>?_⟩
 ·rcases Nat.lt_or_ge k list.length with h' | h'
  ·rw[List.getElem_append_left h'];exact ht k h'
  ·have:k=list.length:=by simp at hk;omega
   subst this
   simp
   exact lA
 ·simp only[List.length_append,List.length_cons,List.length_nil]
  rcases List.mem_append.1 mP with mP | mP
  ·have:=hv d mP;omega
  ·simp only[List.mem_singleton] at mP
   subst mP
   unfold bE
   split
   ·rename_i hp
    obtain⟨k,hk⟩:=Int.eq_ofNat_of_zero_le (show 0≤s.parent by simpa[B5] using hp)
    have N6:k<deep.length:=by omega
    rw[hk]
    simp[N6]
    have:=hv deep[k] (List.getElem_mem N6)
    omega
   ·omega
theorem b9l (all:List Step) (B9:all.length≤24) (hf:∀ s,s∈all→FitS s):∀ (rest:List Step) (i:Nat) (list deep:List Int),all.drop i=rest→Tree list→list.length=i→deep.length=list.length→(∀ d,d∈deep→0≤d∧d≤list.length)→
    B7 E (orc E) (167:Nat) (rest.length+1) (C1 f167 0) ⟨61,[(0,.sl 124 (all.map (sT 219))),(3,.ptr 17 1 [] 0),(18,.sl 124 (all.map (sT 219))),(19,vI all.length),(20,vI i)],[(17,pR 1 1 list deep)],2⟩=
    (if A0 (T2 rest list deep).1 0 = true then some (.exit 0, ⟨61, [(0, .sl 124 (all.map (sT 219))), (3, .ptr 17 1 [] 0), (18, .sl 124 (all.map (sT 219))), (19, vI all.length), (20, vI (i + rest.length : Nat)), (21, vB false)], [(17, pR 1 1 (T2 rest list deep).2.1 (T2 rest list deep).2.2)], 2⟩)
     else some (.ret,⟨61,[(2,vI (T2 rest list deep).1)],[],2⟩))
  | [],i,list,deep,h,ht,hl,hd,hv=>by
    have G5:all.length≤i:=by simpa using h
    have A1:A3 (i:Int) (all.length:Int)=false:=C9 (by omega)
    rw[D5]
    simp +contextual -dsimp [f167,A1,T2,D2]
  | s::rest,i,list,deep,h,ht,hl,hd,hv=>by
    obtain⟨hi,hc,hr⟩:=F6 h
    have A1:A3 (i:Int) (all.length:Int)=true:=F5 (by omega)
    have hw:IntKind.i64.wrap ((i:Int)+1)=((i+1:Nat):Int):=by rw[B6]<;>omega
    have he:i+1+rest.length=i+(rest.length+1):=by omega
    have hs:=hf s (by rw[←hc];exact List.getElem_mem hi)
    have g:=d2c s list deep hs.p1 hs.p2 ht (by omega) hd (fun d mP=>by have:=hv d mP;omega) hs.name hs.expr
    cases c:A0 (aI s list deep) 0
    · have hm : (T2 (s :: rest) list deep).1 = aI s list deep := by simp [T2, c, A2]
      rw[hm,c,if_neg (by simp)]
      refine G3 ?_ (by simp)
      simp (maxSteps:=1000000) +contextual -dsimp [f167,A1,hi,hc,g,c,List.set]
    · obtain ⟨n1, n2, n3, n4, n5⟩ := Vj (by simpa [A0] using c) ht hd hv
      have ih:=b9l all B9 hf rest (i+1) (list++[s.parent]) (deep++[bE deep s.parent]) hr n2 (by simp;omega) (by simp;omega) n5
      rw[he] at ih
      have hm:T2 (s::rest) list deep=T2 rest (list++[s.parent]) (deep++[bE deep s.parent]):=by simp[T2,c,A2,n1]
      rw[hm]
      rw[n1] at g
      refine D6 ?_ (by simpa only[List.length_cons] using ih)
      simp (maxSteps:=1000000) +contextual -dsimp [f167,A1,hi,hc,hw,g,c,List.set]
def bV (l:List Step):Nat→Nat→Int
 | 0,_=>0
 | f+1,i=>if A2 (A0 (condFaultM l i) 0)=true then condFaultM l i else bV l f (i+1)
theorem a2d (l:List Step) (hl:l.length≤24) (hp:∀ k,0<k→k<l.length→0≤parOf l k∧parOf l k<l.length) (hc:∀ k,(condOf l k).length<2 ^ 62):∀ (f i:Nat),i+f=l.length→
    B7 E (orc E) (167:Nat) (f+1) (C1 f167 1) ⟨61,[(0,.sl 124 (l.map (sT 219))),(32,vI l.length),(33,vI i)],[],2⟩=
    (if A0 (bV l f i) 0 = true then some (.exit 2, ⟨61, [(0, .sl 124 (l.map (sT 219))), (32, vI l.length), (33, vI l.length), (34, vB false)], [], 2⟩)
     else some (.ret,⟨61,[(2,vI (bV l f i))],[],2⟩))
  | 0,i,h=>by
    have e:i=l.length:=by omega
    subst e
    have A1:A3 (l.length:Int) (l.length:Int)=false:=C9 (by omega)
    rw[D5]
    simp +contextual -dsimp [f167,A1,bV,D2]
  | f+1,i,h=>by
    have hi:i<l.length:=by omega
    have A1:A3 (i:Int) (l.length:Int)=true:=F5 (by omega)
    have hw:IntKind.i64.wrap ((i:Int)+1)=((i+1:Nat):Int):=by rw[B6]<;>omega
    have g:=e2l l (by omega) i hi (fun h0=>hp i h0 hi) (hc i)
    cases c:A0 (condFaultM l i) 0
    · have hm : bV l (f + 1) i = condFaultM l i := by simp [bV, c, A2]
      rw[hm,c,if_neg (by simp)]
      refine G3 ?_ (by simp)
      simp (maxSteps:=1000000) +contextual -dsimp [f167,A1,g,c]
    · have ih := a2d l hl hp hc f (i + 1) (by omega)
      have hm:bV l (f+1) i=bV l f (i+1):=by simp[bV,c,A2]
      rw[hm]
      refine D6 ?_ ih
      simp (maxSteps:=1000000) +contextual -dsimp [f167,A1,hw,g,c]
def procC:List Step→Int
 | []=>0
 | s::r=>if A2 (A0 (C5 (aD s.cond 2) (aD s.expr 1)) 0)=true then C5 (aD s.cond 2) (aD s.expr 1) else procC r
theorem a5p (all:List Step) (B9:all.length≤24) (hf:∀ s,s∈all→FitS s):∀ (rest:List Step) (i:Nat),all.drop i=rest→
    B7 E (orc E) (167:Nat) (rest.length+1) (C1 f167 2) ⟨61,[(43,.sl 124 (all.map (sT 219))),(44,vI all.length),(45,vI i)],[],2⟩=
    (if A0 (procC rest) 0 = true then some (.exit 4, ⟨61, [(43, .sl 124 (all.map (sT 219))), (44, vI all.length), (45, vI (i + rest.length : Nat)), (46, vB false)], [], 2⟩)
     else some (.ret,⟨61,[(2,vI (procC rest))],[],2⟩))
  | [],i,h=>by
    have G5:all.length≤i:=by simpa using h
    have A1:A3 (i:Int) (all.length:Int)=false:=C9 (by omega)
    rw[D5]
    simp +contextual -dsimp [f167,A1,procC,D2]
  | s::rest,i,h=>by
    obtain⟨hi,hc,hr⟩:=F6 h
    have A1:A3 (i:Int) (all.length:Int)=true:=F5 (by omega)
    have hw:IntKind.i64.wrap ((i:Int)+1)=((i+1:Nat):Int):=by rw[B6]<;>omega
    have he:i+1+rest.length=i+(rest.length+1):=by omega
    have hs:=hf s (by rw[←hc];exact List.getElem_mem hi)
    have g1:=Xp s.cond hs.cond 2
    have g2:=Xp s.expr hs.expr 1
    cases c:A0 (C5 (aD s.cond 2) (aD s.expr 1)) 0
    · have hm : procC (s :: rest) = C5 (aD s.cond 2) (aD s.expr 1) := by simp [procC, c, A2]
      rw[hm,c,if_neg (by simp)]
      refine G3 ?_ (by simp)
      simp (maxSteps:=1000000) +contextual -dsimp [f167,Y8,A1,hi,hc,g1,g2,c,List.set]
    · have ih := a5p all B9 hf rest (i + 1) hr
      rw[he] at ih
      have hm:procC (s::rest)=procC rest:=by simp[procC,c,A2]
      rw[hm]
      refine D6 ?_ (by simpa only[List.length_cons] using ih)
      simp (maxSteps:=1000000) +contextual -dsimp [f167,Y8,A1,hi,hc,hw,g1,g2,c,List.set]
theorem d7q {s:Step} {list deep:List Int} (h:aI s list deep=0):dC list s.parent=false:=by
 have hz:cY s list deep=0:=by
  unfold aI at h
  split at h
  ·rename_i c;rw[h] at c;simp[A2,A0] at c
  ·rename_i c;simpa[A2,A0] using c
 have h1:=(P9 hz).2
 unfold R0 at h1
 split at h1
 ·simp at h1
 ·rename_i d1;simpa using d1
theorem Uz:∀ {rest:List Step} {list deep:List Int},Tree list→deep.length=list.length→(∀ d,d∈deep→0≤d∧d≤list.length)→(T2 rest list deep).1=0→
  ∀ (k:Nat) (s:Step),rest[k]?=some s→-1≤s.parent∧s.parent<(list.length+k:Nat)∧(0<list.length+k→0≤s.parent)
 | [],_,_,_,_,_,_,k,s,hk=>by simp at hk
 | x::rest,list,deep,ht,hd,hv,h,k,s,hk=>by
  cases c:A0 (aI x list deep) 0
  ·have hm:(T2 (x::rest) list deep).1=aI x list deep:=by simp[T2,c,A2]
   rw[hm] at h;rw[h] at c;simp[A0] at c
  ·have hz:aI x list deep=0:=by simpa[A0] using c
   obtain⟨n1,n2,n3,n4,n5⟩:=Vj hz ht hd hv
   have hm:T2 (x::rest) list deep=T2 rest (list++[x.parent]) (deep++[bE deep x.parent]):=by simp[T2,c,A2,n1]
   rw[hm] at h
   cases k with
   | zero=>
    simp at hk;subst hk
    refine⟨n3,by simpa using n4,fun h0=>?_⟩
    have hb:=d7q hz
    simp only[dC,A7,A6,A2,A0,A3,A5,B5,Bool.or_eq_false_iff,Bool.and_eq_false_iff,Bool.not_eq_false',beq_eq_false_iff_ne,beq_iff_eq,decide_eq_false_iff_not,decide_eq_true_eq,Bool.and_eq_true] at hb
    omega
   | succ k=>
    have:=Uz n2 (by simp;omega) n5 h k s (by simpa using hk)
    simp only[List.length_append,List.length_cons,List.length_nil] at this
    have e:list.length+(0+1)+k=list.length+(k+1):=by omega
    rw[e] at this
    exact this
def Q4 (l:List Step):Int:=
 if A2 (A5 l.length 1 24)=true then 2
 else if A2 (A0 (T2 l [] []).1 0)=true then (T2 l [] []).1
 else if A2 (A0 (bV l l.length 0) 0)=true then bV l l.length 0
 else if A2 (A0 (procC l) 0)=true then procC l else 0
theorem Vr (l:List Step) (hl:l.length<2 ^ 62) (hf:∀ s,s∈l→FitS s):fo 167 [A (.sl 124 (l.map (sT 219)))]=some (R (vI (Q4 l))):=by
 cases c1:A5 l.length 1 24
 ·refine a7q 1 ?_
  simp (maxSteps:=1000000) +contextual -dsimp [f167,H5,c1,Q4]
 ·have M7:1≤l.length∧l.length≤24:=by simp[A5,A6,B5] at c1;omega
  have ha:=b9l l M7.2 hf l 0 [] [] rfl (fun k h=>by simp at h) rfl rfl (by simp)
  refine a7q (l.length+1) ?_
  simp -dsimp [f167,pR,iE] at ha
  cases c2:A0 (T2 l [] []).1 0
  ·rw[c2] at ha
   simp (maxSteps:=1000000) +contextual -dsimp [f167,H5,c1,c2,ha,Q4]
  ·have eD:=Uz (rest:=l) (list:=[]) (deep:=[]) (fun k h=>by simp at h) rfl (by simp) (by simpa[A0] using c2)
   have hb:=a2d l M7.2 (fun k h0 hk=>by
    have:=eD k l[k] (by simp[hk])
    have e:parOf l k=(l[k]).parent:=by simp[parOf,hk]
    rw[e]
    simp at this
    omega) (fun k=>by
    unfold condOf
    split
    ·rename_i s hs;exact (hf s (List.mem_of_getElem? hs)).cond
    ·simp) l.length 0 (by omega)
   have fI:=a5p l M7.2 hf l 0 rfl
   rw[c2] at ha
   simp -dsimp [f167] at hb fI
   cases c3:A0 (bV l l.length 0) 0
   ·rw[c3] at hb
    simp (maxSteps:=1000000) +contextual -dsimp [f167,H5,c1,c2,c3,ha,hb,Q4]
   ·rw[c3] at hb
    cases c4:A0 (procC l) 0
    ·rw[c4] at fI
     simp (maxSteps:=1000000) +contextual -dsimp [f167,H5,c1,c2,c3,c4,ha,hb,fI,Q4]
    ·rw[c4] at fI
     simp (maxSteps:=1000000) +contextual -dsimp [f167,H5,c1,c2,c3,c4,ha,hb,fI,Q4]
theorem a5t {p:Int}:∀ {l:List Step} {i:Nat} {k:Int},k∈C0 p i l→∃ a:Nat,k=a∧a<i+l.length
 | [],i,k,h=>by simp[C0] at h
 | x::l,i,k,h=>by
  unfold C0 at h
  have tl:k∈C0 p (i+1) l→∃ a:Nat,k=a∧a<i+(x::l).length:=fun h=>by
   obtain⟨a,h1,h2⟩:=a5t h
   exact⟨a,h1,by simp;omega⟩
  split at h
  ·rcases List.mem_cons.1 h with rfl | h
   ·exact⟨i,rfl,by simp⟩
   ·exact tl h
  ·exact tl h
theorem Pp (p:Int):∀ (l:List Step) (i:Nat),(C0 p i l).length≤l.length
 | [],_=>Nat.le_refl _
 | s::l,i=>by
  have:=Pp p l (i+1)
  unfold C0
  split
  ·simp;omega
  ·simp;omega
def eN (k:Int) (c:Chart) (on over:Int) (list:List Int) (due:Bool):Bool:=
 if A7 (A0 k 1) (A0 k 3)=true then (if A2 (A0 on 1)=true then false else W4 false due)
 else if A0 k 4=true then (if A7 (A0 on 0) (A2 (A0 (on+over) list.length))=true then false else W4 false due)
 else if A0 k 8=true then (if A2 (A0 on 1)=true then false else W4 (A0 (B4 c.acts (B4 list 0)) 1) due)
 else if A0 k 6=true then W4 true due
 else if A0 k 7=true then false
 else W4 false due
def lZ (l:List Step) (c:Chart) (i:Nat):Bool:=
 if A6 (A0 (B4 c.acts i) 2) (A7 (A0 i 0) (A2 (A0 (C2 l (parOf l i)) 4)))=true then false
 else if A2 (A0 (B4 c.acts i) 1)=true then A6 (A0 ((G1 c.acts 1 (C0 i 0 l) 0:Nat)+(G1 c.acts 2 (C0 i 0 l) 0:Nat)) 0) (A0 (B4 c.dues i) 0)
 else eN (C2 l i) c (G1 c.acts 1 (C0 i 0 l) 0:Nat) (G1 c.acts 2 (C0 i 0 l) 0:Nat) (C0 i 0 l) (A2 (A0 (B4 c.dues i) 0))
theorem f0i (l:List Step) (hl:l.length≤24) (c:Chart) (ha:c.acts.length=l.length) (hd:c.dues.length=l.length) (i:Nat) (hi:i<l.length) (hp:0<i→∃ a:Nat,(l[i]).parent=a∧a<l.length):
  fo 284 [A (.ipt (bT l c)),A (vI i)]=some (R (vB (lZ l c i))):=by
 have g1:=wW l (by omega) i
 have hk:∀ k,k∈C0 i 0 l→∃ a:Nat,k=a∧a<c.acts.length:=fun k h=>by
  obtain⟨a,h1,h2⟩:=a5t h
  exact⟨a,h1,by omega⟩
 have hfew:=Pp i l 0
 have g2:=b9j l c 1 (by omega) (C0 i 0 l) (by omega) hk
 have g3:=b9j l c 2 (by omega) (C0 i 0 l) (by omega) hk
 have K8:i<c.acts.length:=by omega
 have U8:i<c.dues.length:=by omega
 have rD:B4 c.acts (i:Int)=c.acts[i]:=bF K8
 have sS:B4 c.dues (i:Int)=c.dues[i]:=bF U8
 have mV:C2 l i=(l[i]).kind:=by simp[C2,hi]
 have hpi:parOf l i=(l[i]).parent:=by simp[parOf,hi]
 have b1:=pB c.acts 1 (C0 i 0 l) 0
 have b2:=pB c.acts 2 (C0 i 0 l) 0
 have N2:=Y3 (C0 i 0 l)
 unfold lZ
 rw[rD,sS,mV,hpi]
 have G2:G1 c.acts 1 (C0 i 0 l) 0=1→0<(C0 i 0 l).length:=fun h=>by omega
 generalize hon:G1 c.acts 1 (C0 i 0 l) 0=on at *
 generalize Bo:G1 c.acts 2 (C0 i 0 l) 0=ov at *
 have hw:IntKind.i64.wrap ((on:Int)+ov)=(on:Int)+ov:=by rw[B6]<;>omega
 generalize C0 i 0 l=ks at *
 have hlks:ks.length≤24:=by omega
 have he:A0 (i:Int) 0=true∨(A0 (i:Int) 0=false∧∃ (a:Nat) (h:a<l.length),(l[i]).parent=a∧C2 l (l[i]).parent=l[a].kind):=by
  rcases Nat.eq_zero_or_pos i with h | h
  ·left;simp[h,A0]
  ·right
   obtain⟨a,h1,h2⟩:=hp h
   exact⟨by simp[A0];omega,a,h2,h1,by rw[h1];simp[C2,h2]⟩
 refine d2p 1 ?_
 cases q0:A0 c.acts[i] 2
 ·cases q2:A0 c.acts[i] 1
  ·simp (maxSteps:=1000000) +contextual -dsimp [f284,g1,g2,g3,K8,U8,hi,N2,q0,q2,hw,List.set]
  ·cases e1:A0 (l[i].kind) 1
   ·cases e3:A0 (l[i].kind) 3
    ·cases e4:A0 (l[i].kind) 4
     ·cases e8:A0 (l[i].kind) 8
      ·cases e6:A0 (l[i].kind) 6
       ·cases e7:A0 (l[i].kind) 7
        ·simp (maxSteps:=1000000) +contextual -dsimp [f284,g1,g2,g3,K8,U8,hi,N2,q0,q2,List.set,eN,e1,e3,e4,e8,e6,e7]
        ·simp (maxSteps:=1000000) +contextual -dsimp [f284,g1,g2,g3,K8,hi,N2,q0,q2,List.set,eN,e1,e3,e4,e8,e6,e7]
       ·simp (maxSteps:=1000000) +contextual -dsimp [f284,g1,g2,g3,K8,U8,hi,N2,q0,q2,List.set,eN,e1,e3,e4,e8,e6]
      ·cases o1:A0 (on:Int) 1
       ·simp (maxSteps:=1000000) +contextual -dsimp [f284,g1,g2,g3,K8,hi,N2,q0,q2,List.set,eN,e1,e3,e4,e8,o1]
       ·have dO:0<ks.length:=G2 (by simp[A0] at o1;omega)
        obtain⟨a,ka,cI⟩:=hk (ks[0]) (List.getElem_mem _)
        have vJ:B4 ks 0=ks[0]:=bF dO
        have aA:B4 c.acts (a:Int)=c.acts[a]:=bF cI
        simp (maxSteps:=1000000) +contextual -dsimp [f284,g1,g2,g3,K8,U8,hi,N2,q0,q2,List.set,eN,e1,e3,e4,e8,o1,dO,vJ,ka,aA,cI]
     ·cases o1:A0 (on:Int) 0
      ·cases o2:A0 ((on:Int)+ov) ks.length
       ·simp (maxSteps:=1000000) +contextual -dsimp [f284,g1,g2,g3,K8,hi,N2,q0,q2,hw,List.set,eN,e1,e3,e4,o1,o2]
       ·simp (maxSteps:=1000000) +contextual -dsimp [f284,g1,g2,g3,K8,U8,hi,N2,q0,q2,hw,List.set,eN,e1,e3,e4,o1,o2]
      ·simp (maxSteps:=1000000) +contextual -dsimp [f284,g1,g2,g3,K8,hi,N2,q0,q2,List.set,eN,e1,e3,e4,o1]
    ·cases o1:A0 (on:Int) 1
     ·simp (maxSteps:=1000000) +contextual -dsimp [f284,g1,g2,g3,K8,hi,N2,q0,q2,List.set,eN,e1,e3,o1]
     ·simp (maxSteps:=1000000) +contextual -dsimp [f284,g1,g2,g3,K8,U8,hi,N2,q0,q2,List.set,eN,e1,e3,o1]
   ·cases o1:A0 (on:Int) 1
    ·simp (maxSteps:=1000000) +contextual -dsimp [f284,g1,g2,g3,K8,hi,N2,q0,q2,List.set,eN,e1,o1]
    ·simp (maxSteps:=1000000) +contextual -dsimp [f284,g1,g2,g3,K8,U8,hi,N2,q0,q2,List.set,eN,e1,o1]
 ·have q2:A0 c.acts[i] 1=false:=by simp[A0] at q0 ⊢;omega
  rcases he with he | ⟨he,a,p2,p1,p3⟩
  ·simp (maxSteps:=1000000) +contextual -dsimp [f284,g1,g2,g3,K8,hi,N2,he,q0,List.set]
  ·rw[p3]
   cases q3:A0 (l[a].kind) 4
   ·simp (maxSteps:=1000000) +contextual -dsimp [f284,g1,g2,g3,K8,hi,N2,he,p1,p2,q0,q3,List.set]
   ·simp (maxSteps:=1000000) +contextual -dsimp [f284,g1,g2,g3,K8,U8,hi,N2,he,p1,p2,q0,q2,q3,hw,List.set]
theorem a2k (l:List Step):∀ (f i:Nat),i+f=l.length→bV l f i=0→∀ k,i≤k→k<l.length→condFaultM l k=0
 | 0,i,h,_,k,h1,h2=>by omega
 | f+1,i,h,hz,k,h1,h2=>by
  unfold bV at hz
  split at hz
  ·rename_i c;rw[hz] at c;simp[A2,A0] at c
  ·rename_i c
   rcases Nat.lt_or_ge i k with h' | h'
   ·exact a2k l f (i+1) (by omega) hz k h' h2
   ·have e:k=i:=by omega
    subst e;simpa[A2,A0] using c
structure ProcOk (l:List Step):Prop where
 pos:1≤l.length
 le:l.length≤24
 par:∀ (k:Nat) (h:k<l.length),0<k→∃ a:Nat,(l[k]).parent=a∧a<k
 par0:∀ (h:0<l.length),(l[0]).parent=-1
 cond:∀ k,k<l.length→condFaultM l k=0
theorem Gz {l:List Step} (h:Q4 l=0):ProcOk l:=by
 unfold Q4 at h
 split at h
 ·simp at h
 ·rename_i c1
  have hl:1≤l.length∧l.length≤24:=by simp[A2,A5,A6,B5] at c1;omega
  split at h
  ·rename_i c2;rw[h] at c2;simp[A2,A0] at c2
  ·rename_i c2
   have c2:(T2 l [] []).1=0:=by simpa[A2,A0] using c2
   split at h
   ·rename_i c3;rw[h] at c3;simp[A2,A0] at c3
   ·rename_i c3
    have c3:bV l l.length 0=0:=by simpa[A2,A0] using c3
    have eD:=Uz (rest:=l) (list:=[]) (deep:=[]) (fun k h=>by simp at h) rfl (by simp) c2
    refine⟨hl.1,hl.2,fun k hk h0=>?_,fun h0=>?_,fun k hk=>a2k l l.length 0 (by omega) c3 k (Nat.zero_le _) hk⟩
    ·have:=eD k l[k] (by simp[hk])
     simp at this
     obtain⟨a,ha⟩:=Int.eq_ofNat_of_zero_le (this.2.2 h0)
     exact⟨a,ha,by omega⟩
    ·have:=eD 0 l[0] (by simp[h0])
     simp at this
     omega
def cG (l:List Step) (c:Chart):Nat→Nat→Bool
 | 0,_=>true
 | f+1,i=>if lZ l c i=true then cG l c f (i+1) else false
theorem b1y (l:List Step) (hl:l.length≤24) (c:Chart) (ha:c.acts.length=l.length) (hd:c.dues.length=l.length) (hp:∀ (i:Nat) (h:i<l.length),0<i→∃ a:Nat,(l[i]).parent=a∧a<l.length):∀ (f i:Nat),i+f=l.length→
    B7 E (orc E) (245:Nat) (f+1) (C1 f245 0) ⟨45,[(0,.ipt (bT l c)),(28,vI l.length),(29,vI i)],[],2⟩=
    (if cG l c f i = true then some (.exit 0, ⟨45, [(0, .ipt (bT l c)), (28, vI l.length), (29, vI l.length), (30, vB false)], [], 2⟩)
     else some (.ret,⟨45,[(2,vB false)],[],2⟩))
  | 0,i,h=>by
    have e:i=l.length:=by omega
    subst e
    have A1:A3 (l.length:Int) (l.length:Int)=false:=C9 (by omega)
    rw[D5]
    simp +contextual -dsimp [f245,A1,cG]
  | f+1,i,h=>by
    have hi:i<l.length:=by omega
    have A1:A3 (i:Int) (l.length:Int)=true:=F5 (by omega)
    have hw:IntKind.i64.wrap ((i:Int)+1)=((i+1:Nat):Int):=by rw[B6]<;>omega
    have g:=f0i l hl c ha hd i hi (hp i hi)
    cases q:lZ l c i
    · have hm : cG l c (f + 1) i = false := by simp [cG, q]
      rw[hm,if_neg (by simp)]
      refine G3 ?_ (by simp)
      simp (maxSteps:=1000000) +contextual -dsimp [f245,A1,g,q]
    · have ih := b1y l hl c ha hd hp f (i + 1) (by omega)
      have hm:cG l c (f+1) i=cG l c f (i+1):=by simp[cG,q]
      rw[hm]
      refine D6 ?_ ih
      simp (maxSteps:=1000000) +contextual -dsimp [f245,A1,g,q,hw]
def R9 (m:Int) (l:List Int):Bool:=A2 (aH (cR m) l)
theorem Im (l:List Int) (hl:l.length<2 ^ 62) (m:Int):fo 244 [A (iS l),A (vI m)]=some (R (vB (R9 m l))):=f1g l hl m
def tQ (l:List Step) (c:Chart):Bool:=
 if A2 (A0 c.status 1)=true then A6 (R9 0 c.acts) (R9 0 c.dues)
 else if cG l c l.length 0=true then A0 (B4 c.acts 0) 1 else false
theorem e1d (l:List Step) (G2:0<l.length) (hl:l.length≤24) (c:Chart) (ha:c.acts.length=l.length) (hd:c.dues.length=l.length) (hp:∀ (i:Nat) (h:i<l.length),0<i→∃ a:Nat,(l[i]).parent=a∧a<l.length):
  fo 245 [A (.ipt (bT l c))]=some (R (vB (tQ l c))):=by
 have g1:=Im c.acts (by omega) 0
 have g2:=Im c.dues (by omega) 0
 have A4:=b1y l hl c ha hd hp l.length 0 (by omega)
 have eV:0<c.acts.length:=by omega
 have hs:B4 c.acts 0=c.acts[0]:=bF eV
 unfold tQ
 refine f0o (l.length+1) ?_
 simp -dsimp [f245] at A4
 cases q1:A0 c.status 1
 ·simp (maxSteps:=1000000) +contextual -dsimp [f245,q1,g1,g2]
 ·cases q2:cG l c l.length 0
  ·rw[q2] at A4
   simp (maxSteps:=1000000) +contextual -dsimp [f245,q1,A4]
  ·rw[q2] at A4
   simp (maxSteps:=1000000) +contextual -dsimp [f245,q1,A4,eV,hs]
structure FitC (c:Chart):Prop where
 vars:c.vars.length<2 ^ 62
 acts:c.acts.length<2 ^ 62
 dues:c.dues.length<2 ^ 62
def kP (l:List Step) (c:Chart):Int:=
 C5 (Q4 l) (C5 (ci (A7 (A2 (A5 c.status 1 3)) (A2 (A5 c.now 0 1000000))) 3) (C5 (W6 c.vars) (ci (A7 (A2 (A0 c.acts.length l.length)) (A2 (A0 c.dues.length l.length))) 2)))
def chartM (l:List Step) (c:Chart):Int:=
 if A2 (A0 (kP l c) 0)=true then kP l c
 else if A7 (A2 (R9 2 c.acts)) (A2 (R9 (c.now+99) c.dues))=true then 3
 else ci (A2 (tQ l c)) 1
theorem jT {b:Bool} {k:Int} (hk:k≠0) (h:ci b k=0):b=false:=by
 cases b
 ·rfl
 ·exact absurd h (by simpa[ci] using hk)
theorem Dc {l:List Step} {c:Chart} (h:kP l c=0):Q4 l=0∧(1≤c.status∧c.status≤3)∧(0≤c.now∧c.now≤1000000)∧W6 c.vars=0∧c.acts.length=l.length∧c.dues.length=l.length:=by
 unfold kP at h
 obtain⟨h1,h2⟩:=P9 h
 obtain⟨h3,h4⟩:=P9 h2
 obtain⟨h5,h6⟩:=P9 h4
 have h3:=jT (by omega) h3
 have h6:=jT (by omega) h6
 simp[A7,A2,A5,A6,B5,A0] at h3 h6
 exact⟨h1,by omega,by omega,h5,by omega,by omega⟩
theorem Ud (l:List Step) (hl:l.length<2 ^ 62) (hf:∀ s,s∈l→FitS s) (c:Chart) (hc:FitC c):
  fo 186 [A (.sl 124 (l.map (sT 219))),A (.agg (cT c))]=some (R (vI (chartM l c))):=by
 have g1:=Vr l hl hf
 have g2:=c7h c.vars hc.vars
 have g3:=d9j (Q4 l) (ci (A7 (A2 (A5 c.status 1 3)) (A2 (A5 c.now 0 1000000))) 3) (W6 c.vars) (ci (A7 (A2 (A0 c.acts.length l.length)) (A2 (A0 c.dues.length l.length))) 2)
 have g4:=Im c.acts hc.acts 2
 have g5:=Im c.dues hc.dues (c.now+99)
 refine e4j 1 ?_
 cases q1:A0 (kP l c) 0
 ·have q1':=q1
  unfold kP at q1'
  simp (maxSteps:=1000000) +contextual -dsimp [f186,g1,g2,g3,H5,oJ,O4,q1',chartM,kP,List.set]
 ·have e0:kP l c=0:=by simpa[A0] using q1
  obtain⟨z1,z2,z3,z4,z5,z6⟩:=Dc e0
  have ok:=Gz z1
  have hw:IntKind.i64.wrap (c.now+99)=c.now+99:=by rw[B6]<;>omega
  have g6:=e1d l (by have:=ok.pos;omega) ok.le c z5 z6 (fun i hi h0=>by
   obtain⟨a,h1,h2⟩:=ok.par i hi h0
   exact⟨a,h1,by omega⟩)
  have e0':=e0
  unfold kP at e0'
  cases q2:R9 2 c.acts
  ·simp (maxSteps:=1000000) +contextual -dsimp [f186,g1,g2,g3,g4,H5,oJ,O4,e0',e0,D2,q2,chartM,List.set]
  ·cases q3:R9 (c.now+99) c.dues
   ·simp (maxSteps:=1000000) +contextual -dsimp [f186,g1,g2,g3,g4,g5,H5,oJ,O4,e0',e0,D2,q2,q3,hw,chartM,List.set]
   ·simp (maxSteps:=1000000) +contextual -dsimp [f186,g1,g2,g3,g4,g5,g6,H5,oJ,O4,e0',e0,D2,q2,q3,hw,chartM,List.set]
def Q7 {α σ ε:Type} (g:Nat→σ→α→ε ⊕ σ):Nat→σ→List α→ε ⊕ σ
 | _,s,[]=>.inr s
 | i,s,x::r=>match g i s x with | .inr s'=>Q7 g (i+1) s' r | .inl e=>.inl e
def iK {σ ε:Type} (id:Nat) (Z:σ→St) (X:ε→St→Prop) (r:Option (Ex×St)):ε ⊕ σ→Prop
 | .inr s=>r=some (.exit id,Z s)
 | .inl e=>∃ st,r=some (.ret,st)∧X e st
theorem sA {α σ ε:Type} {f id:Nat} {code:Code} (all:List α) (I:Nat→σ→Prop) (S:Nat→σ→St) (g:Nat→σ→α→ε ⊕ σ) (Z:σ→St) (X:ε→St→Prop)
  (hz:∀ k s,I all.length s→D3 E (orc E) f (B7 E (orc E) f k) code (S all.length s)=some (.exit id,Z s))
  (hs:∀ k i s (h:i<all.length),I i s→(∀ s',g i s all[i]=.inr s'→D3 E (orc E) f (B7 E (orc E) f k) code (S i s)=some (.normal,S (i+1) s')∧I (i+1) s')∧
   (∀ e,g i s all[i]=.inl e→∃ st,D3 E (orc E) f (B7 E (orc E) f k) code (S i s)=some (.ret,st)∧X e st)):
  ∀ (rest:List α) (i:Nat) (s:σ),all.drop i=rest→i≤all.length→I i s→
   iK id Z X (B7 E (orc E) f (rest.length+1) code (S i s)) (Q7 g i s rest)
 | [],i,s,h,hi,hI=>by
  have e:i=all.length:=by have:=List.drop_eq_nil_iff.1 h;omega
  subst e
  exact G3 (hz _ s hI) (by simp)
 | x::rest,i,s,h,hi,hI=>by
  obtain⟨hi,hc,hr⟩:=F6 h
  obtain⟨h1,h2⟩:=hs (rest.length+1) i s hi hI
  unfold Q7
  rw[hc] at h1 h2
  cases q:g i s x with
  | inr s'=>
   obtain⟨g1,g2⟩:=h1 s' q
   have ih:=sA all I S g Z X hz hs rest (i+1) s' hr hi g2
   rw[←D6 (E:=E) (call:=orc E) g1 rfl] at ih
   exact ih
  | inl e=>
   obtain⟨st,g1,g2⟩:=h2 e q
   exact⟨st,G3 g1 (by simp),g2⟩
def S8 {α σ:Type} (g:Nat→σ→α→σ):Nat→σ→List α→σ
 | _,s,[]=>s
 | i,s,x::r=>S8 g (i+1) (g i s x) r
theorem b3p {α σ ε:Type} (g:Nat→σ→α→σ):∀ (l:List α) (i:Nat) (s:σ),Q7 (ε:=ε) (fun i s x=>.inr (g i s x)) i s l=.inr (S8 g i s l)
 | [],_,_=>rfl
 | x::l,i,s=>by simp only[Q7,S8];exact b3p g l (i+1) (g i s x)
theorem iJ {α σ:Type} {f id:Nat} {code:Code} (all:List α) (I:Nat→σ→Prop) (S:Nat→σ→St) (g:Nat→σ→α→σ) (Z:σ→St)
  (hz:∀ k s,I all.length s→D3 E (orc E) f (B7 E (orc E) f k) code (S all.length s)=some (.exit id,Z s))
  (hs:∀ k i s (h:i<all.length),I i s→D3 E (orc E) f (B7 E (orc E) f k) code (S i s)=some (.normal,S (i+1) (g i s all[i]))∧I (i+1) (g i s all[i])) (s0:σ) (h0:I 0 s0):
  B7 E (orc E) f (all.length+1) code (S 0 s0)=some (.exit id,Z (S8 g 0 s0 all)):=by
 have:=sA (f:=f) (id:=id) (code:=code) (ε:=Empty) all I S (fun i s x=>.inr (g i s x)) Z (fun e _=>nomatch e) hz
  (fun k i s h hI=>⟨fun s' he=>by simp only[Sum.inr.injEq] at he;subst he;exact hs k i s h hI,fun e=>nomatch e⟩) all 0 s0 rfl (Nat.zero_le _) h0
 rw[b3p] at this
 exact this
theorem S6 {i n:Nat} (h:i<n) (hn:n<2 ^ 62):IntKind.i64.wrap ((i:Int)+1)=((i+1:Nat):Int):=by rw[B6]<;>omega
theorem U2 {i n:Nat} (h:i<n):A3 (i:Int) (n:Int)=true:=F5 (by omega)
theorem cF (n:Nat):A3 (n:Int) (n:Int)=false:=C9 (by omega)
theorem a8f (b:Bool):ci b 1=0∨ci b 1=1:=by cases b<;>simp[ci]
def T5 (k a b:Int):Int:=
 if A0 k 3=true then a+b else if A0 k 4=true then a - b else if A0 k 5=true then a*b else if A0 k 6=true then Int.tdiv a b
 else if A0 k 7=true then ci (A3 a b) 1 else if A0 k 8=true then ci (A0 a b) 1 else if A0 k 9=true then a*b else 1 - a
def U1 (k b:Int):Bool:=A6 (A0 k 6) (A0 b 0)
def Y4 (vars acc:List Int) (n:Node):Int:=
 if A0 n.kind 1=true then n.value else if A0 n.kind 2=true then B4 vars n.value else T5 n.kind (B4 acc n.left) (B4 acc n.right)
def Ii (vars acc:List Int) (n:Node):Bool:=A7 (U1 n.kind (B4 acc n.right)) (badV (Y4 vars acc n))
def iG (vars:List Int) (_:Nat) (acc:List Int) (n:Node):Unit ⊕ List Int:=if Ii vars acc n=true then .inl () else .inr (acc++[Y4 vars acc n])
def gM (l:List Node) (vars:List Int):Option Int:=match Q7 (iG vars) 0 [] l with | .inr acc=>some (B4 acc ((l.length:Int) - 1)) | .inl _=>none
section
variable (P:Program) (t:TypeId) (x y:Operand)
theorem Zc (k:IntKind) (a b:Int):H7 P (do eqGuard .mul t x y (.int k a) (.int k b);binOp .mul t (.int k a) (.int k b))=some (.int k (k.wrap (a*b))):=by cases k<;>rfl
theorem f1n:H7 P (do eqGuard .and t x y (.int .i64 0) (.int .i64 0);binOp .and t (.int .i64 0) (.int .i64 0))=some (.int .i64 0):=by rfl
theorem d9v:H7 P (do eqGuard .and t x y (.int .i64 0) (.int .i64 1);binOp .and t (.int .i64 0) (.int .i64 1))=some (.int .i64 0):=by rfl
theorem d5x:H7 P (do eqGuard .and t x y (.int .i64 1) (.int .i64 0);binOp .and t (.int .i64 1) (.int .i64 0))=some (.int .i64 0):=by rfl
theorem e8y:H7 P (do eqGuard .and t x y (.int .i64 1) (.int .i64 1);binOp .and t (.int .i64 1) (.int .i64 1))=some (.int .i64 1):=by rfl
theorem Up (a b:Int) (h:b≠0):H7 P (do eqGuard .quo t x y (.int .i64 a) (.int .i64 b);binOp .quo t (.int .i64 a) (.int .i64 b))=some (.int .i64 (IntKind.i64.wrap (Int.tdiv a b))):=by
 unfold binOp
 simp[eqGuard,h,Op.intDiv]
 rfl
end
end Go.TM.Ft
