/- What functions of the program come to, by the machine. -/
import Derived.Test.YtlmiemdojgahaaaGreatKL3
import Derived.Test.YtlmiemdojgahaaaGreatKL2
set_option linter.unusedSimpArgs false
set_option linter.unusedVariables false
set_option maxHeartbeats 4000000
namespace Go.TM.Ft
open Go Go.TM Go.Proofs Go.Proofs.Tryz
set_option maxRecDepth 20000
attribute [local congr] M0
attribute [local simp] K2 K6 J4 K3 H7 J9 H8 G9 J1 G3
def V2 (l:List Step):Nat→List Step→Int
 | _,[]=>0
 | i,s::r=>if eqI (one4M l i s) 0=true then V2 l (i+1) r else one4M l i s
theorem e1s {l:List Step} {i:Nat} {s:Step} (h:eqI (one4M l i s) 0=true):a1p s i=false:=by
 unfold one4M at h
 split at h
 ·simp [eqI] at h
 ·split at h
  ·simp [eqI] at h
  ·rename_i c; simpa using c
abbrev b1m (l:List Step):Prop:=∀ s,s∈l→s.name.size < 2 ^ 62∧s.cond.length < 2 ^ 62∧s.expr.length < 2 ^ 62
theorem f6e (all:List Step) (hall:all.length≤24) (hf:b1m all):∀ (rest:List Step) (i:Nat),all.drop i=rest→Ahead all i→
  A6 E (orc E) (157:Nat) (rest.length+1) (A8 f157 0) ⟨58,[(0,.sl 124 (all.map (sT 219))),(3,vI i)],[],2⟩=
  (if eqI (V2 all i rest) 0=true then some (.exit 0,⟨58,[(0,.sl 124 (all.map (sT 219))),(3,vI (i+rest.length:Nat)),(20,vB false)],[],2⟩) else some (.ret,⟨58,[(2,vI (V2 all i rest))],[],2⟩))
 | [],i,h,_=>by
  have hge:all.length≤i:=by simpa using h
  have hlt:ltI (i:Int) (all.length:Int)=false:=B6 (by omega)
  rw [C3]
  simp +contextual -dsimp [f157,hlt,V2,eqI]
 | s::rest,i,h,ha=>by
  obtain ⟨hi,hc,hr⟩:=C6 h
  have hlt:ltI (i:Int) (all.length:Int)=true:=C4 (by omega)
  have hw:IntKind.i64.wrap ((i:Int)+1)=((i+1:Nat):Int):=by rw [A5] <;> omega
  have he:i+1+rest.length=i+(rest.length+1):=by omega
  have hs:=hf s (by rw [← hc]; exact List.getElem_mem _)
  have g:=i1v all hall i hi ha (by rw [hc]; exact hs.1) (by rw [hc]; exact hs.2.2)
  rw [hc] at g
  cases c:eqI (one4M all i s) 0
  ·have hm:V2 all i (s::rest)=one4M all i s:=by simp [V2,c]
   rw [hm,c,if_neg (by simp)]
   refine D3 ?_ (by simp)
   simp (maxSteps:=1000000) +contextual -dsimp [f157,hlt,g,c]
  ·have ha2:Ahead all (i+1):=fun k hk hk2=>by
    by_cases e:k=i
    ·subst e; rw [hc]; exact c7n (e1s c)
    ·exact ha k hk (by omega)
   have ih:=f6e all hall hf rest (i+1) hr ha2
   rw [he] at ih
   have hm:V2 all i (s::rest)=V2 all (i+1) rest:=by simp [V2,c]
   rw [hm]
   refine C1 ?_ (by simpa only [List.length_cons] using ih)
   simp (maxSteps:=1000000) +contextual -dsimp [f157,hlt,hw,g,c]
def a6v (s:Step):Int:=if eqI (a2y s.cond 2) 0=true then a2y s.expr 1 else a2y s.cond 2
def a3g:List Step→Int
 | []=>0
 | s::r=>if eqI (a6v s) 0=true then a3g r else a6v s
theorem f6f (all:List Step) (hall:all.length≤24) (hf:b1m all):∀ (rest:List Step) (i:Nat),all.drop i=rest→
  A6 E (orc E) (157:Nat) (rest.length+1) (A8 f157 1) ⟨58,[(0,.sl 124 (all.map (sT 219))),(6,vI i)],[],2⟩=
  (if eqI (a3g rest) 0=true then some (.exit 2,⟨58,[(0,.sl 124 (all.map (sT 219))),(6,vI (i+rest.length:Nat)),(37,vB false)],[],2⟩) else some (.ret,⟨58,[(2,vI (a3g rest))],[],2⟩))
 | [],i,h=>by
  have hge:all.length≤i:=by simpa using h
  have hlt:ltI (i:Int) (all.length:Int)=false:=B6 (by omega)
  rw [C3]
  simp +contextual -dsimp [f157,hlt,a3g,eqI]
 | s::rest,i,h=>by
  obtain ⟨hi,hc,hr⟩:=C6 h
  have hlt:ltI (i:Int) (all.length:Int)=true:=C4 (by omega)
  have hw:IntKind.i64.wrap ((i:Int)+1)=((i+1:Nat):Int):=by rw [A5] <;> omega
  have he:i+1+rest.length=i+(rest.length+1):=by omega
  have hs:=hf s (by rw [← hc]; exact List.getElem_mem _)
  have g1:=d7j s.cond hs.2.1 2
  have g2:=d7j s.expr hs.2.2 1
  cases c:eqI (a6v s) 0
  ·have hm:a3g (s::rest)=a6v s:=by simp [a3g,c]
   rw [hm,c,if_neg (by simp)]
   refine D3 ?_ (by simp)
   cases c1:eqI (a2y s.cond 2) 0
   ·simp (maxSteps:=1000000) +contextual -dsimp [f157,hlt,hi,hc,g1,c1,a6v]
   ·have c2:eqI (a2y s.expr 1) 0=false:=by simpa [a6v,c1] using c
    simp (maxSteps:=1000000) +contextual -dsimp [f157,hlt,hi,hc,g1,g2,c1,c2,a6v]
  ·have ih:=f6f all hall hf rest (i+1) hr
   rw [he] at ih
   have hm:a3g (s::rest)=a3g rest:=by simp [a3g,c]
   rw [hm]
   refine C1 ?_ (by simpa only [List.length_cons] using ih)
   cases c1:eqI (a2y s.cond 2) 0
   ·rw [a6v,c1] at c; simp [c1] at c
   ·have c2:eqI (a2y s.expr 1) 0=true:=by simpa [a6v,c1] using c
    simp (maxSteps:=1000000) +contextual -dsimp [f157,hlt,hi,hc,hw,g1,g2,c1,c2]
def V6 (l:List Step):Int:=
 if orB (ltI l.length 1) (ltI 24 l.length)=true then 2
 else if eqI (V2 l 0 l) 0=true then (if eqI (a1f l 0 l) 0=true then a3g l else a1f l 0 l) else V2 l 0 l
theorem e1t {l:List Step}:∀ {r:List Step} {i:Nat},eqI (V2 l i r) 0=true→∀ (k:Nat) (s:Step),r[k]?=some s→eqI (one4M l (i+k) s) 0=true
 | [],i,_,k,n,h=>by simp at h
 | x::r,i,hz,k,s,h=>by
  unfold V2 at hz
  split at hz
  ·rename_i hc
   cases k with
   | zero=>simp at h; subst h; exact hc
   | succ k=>
    have:=e1t hz k s (by simpa using h)
    have e:i+1+k=i+(k+1):=by omega
    rw [← e]; exact this
  ·rename_i hc; exact absurd hz hc
theorem h4l {l:List Step} (h:eqI (V2 l 0 l) 0=true):∀ k (_hk:k < l.length),-1≤parOf l k∧parOf l k < k:=fun k hk=>by
 have:=c7n (e1s (e1t h k l[k] (by simp [hk])))
 have e:parOf l k=(l[k]).parent:=by simp [parOf,hk]
 rw [e]; omega
theorem d7k (l:List Step) (hl:l.length < 2 ^ 62) (hf:b1m l):fo 157 [A (.sl 124 (l.map (sT 219)))]=some (R (vI (V6 l))):=by
 cases c1:orB (ltI l.length 1) (ltI 24 l.length)
 ·have hl2:1≤l.length∧l.length≤24:=by simp [orB,ltI] at c1; omega
  have ha:=f6e l hl2.2 hf l 0 rfl (fun k _ h=>absurd h (by omega))
  have hb:=f6f l hl2.2 hf l 0 rfl
  simp -dsimp [f157] at ha hb
  refine e4e (l.length+1) ?_
  cases c2:eqI (V2 l 0 l) 0
  ·rw [c2] at ha
   simp (maxSteps:=1000000) +contextual -dsimp [f157,c1,c2,ha,V6]
  ·rw [c2] at ha
   have g:=h0s l hl2.2 (fun k hk=>by have:=h4l c2 k hk; omega) (fun s hs=>(hf s hs).2.1)
   cases c3:eqI (a1f l 0 l) 0
   ·simp (maxSteps:=1000000) +contextual -dsimp [f157,c1,c2,c3,ha,g,V6]
   ·cases c4:eqI (a3g l) 0
    ·rw [c4] at hb
     simp (maxSteps:=1000000) +contextual -dsimp [f157,c1,c2,c3,ha,hb,g,V6]
    ·rw [c4] at hb
     have e4:a3g l=0:=by simpa [eqI] using c4
     simp (maxSteps:=1000000) +contextual -dsimp [f157,c1,c2,c3,e4,ha,hb,g,V6]
 ·refine e4e 1 ?_
  simp (maxSteps:=1000000) +contextual -dsimp [f157,c1,V6]
def N7:List Step→List Int→List Int→Int × List Int × List Int
 | [],list,deep=>(0,list,deep)
 | s::r,list,deep=>
  if A0 (eqI (V1 s list deep) 0)=true then (V1 s list deep,(L6 list deep s.parent).2.1,(L6 list deep s.parent).2.2)
  else N7 r (L6 list deep s.parent).2.1 (L6 list deep s.parent).2.2
structure FitS (s:Step):Prop where
 p1:-9223372036854775808≤s.parent
 p2:s.parent < 9223372036854775808
 name:s.name.size < 2 ^ 62
 cond:s.cond.length < 2 ^ 62
 expr:s.expr.length < 2 ^ 62
theorem c3h {s:Step} {list deep:List Int} (h:V1 s list deep=0) (ht:Tree list) (hd:deep.length=list.length) (hv:∀ d,d∈deep→0≤d∧d≤list.length):
  L6 list deep s.parent=(0,list++[s.parent],deep++[a0a deep s.parent])∧Tree (list++[s.parent])∧-1≤s.parent∧s.parent < list.length∧
   (∀ d,d∈deep++[a0a deep s.parent]→0≤d∧d≤(list++[s.parent]).length):=by
 have hz:a1k s list deep=0:=by
  unfold V1 at h
  split at h
  ·rename_i c; rw [h] at c; simp [A0,eqI] at c
  ·rename_i c; simpa [A0,eqI] using c
 have h1:=(O1 hz).2
 have hnx:L6 list deep s.parent=(0,list++[s.parent],deep++[a0a deep s.parent])∧a1d list s.parent=false:=by
  unfold L6 at h1 ⊢
  split at h1
  ·simp at h1
  ·rename_i d1
   rw [if_neg d1]
   split at h1
   ·simp at h1
   ·rename_i d2
    rw [if_neg d2]
    exact ⟨rfl,by simpa using d1⟩
 obtain ⟨hnx,c1⟩:=hnx
 have hpr:-1≤s.parent∧s.parent < list.length:=by
  simp only [a1d,orB,A1,A0,eqI,ltI,inR,leI,Bool.or_eq_false_iff,Bool.and_eq_false_iff,Bool.not_eq_false',beq_eq_false_iff_ne,beq_iff_eq,decide_eq_false_iff_not,decide_eq_true_eq,Bool.and_eq_true] at c1
  omega
 refine ⟨hnx,fun k hk=>?_,hpr.1,hpr.2,fun d hdm=>?_⟩
 ·rcases Nat.lt_or_ge k list.length with h' | h'
  ·rw [List.getElem_append_left h']; exact ht k h'
  ·have:k=list.length:=by simp at hk; omega
   subst this
   simp
   exact hpr
 ·simp only [List.length_append,List.length_cons,List.length_nil]
  rcases List.mem_append.1 hdm with hdm | hdm
  ·have:=hv d hdm; omega
  ·simp only [List.mem_singleton] at hdm
   subst hdm
   unfold a0a
   split
   ·rename_i hp
    obtain ⟨k,hk⟩:=Int.eq_ofNat_of_zero_le (show 0≤s.parent by simpa [leI] using hp)
    have hk2:k < deep.length:=by omega
    rw [hk]
    simp [hk2]
    have:=hv deep[k] (List.getElem_mem hk2)
    omega
   ·omega
theorem f6g (all:List Step) (hall:all.length≤24) (hf:∀ s,s∈all→FitS s):∀ (rest:List Step) (i:Nat) (list deep:List Int),all.drop i=rest→Tree list→list.length=i→deep.length=list.length→(∀ d,d∈deep→0≤d∧d≤list.length)→
    A6 E (orc E) (167:Nat) (rest.length+1) (A8 f167 0) ⟨61,[(0,.sl 124 (all.map (sT 219))),(3,.ptr 17 1 [] 0),(18,.sl 124 (all.map (sT 219))),(19,vI all.length),(20,vI i)],[(17,pR 1 1 list deep)],2⟩=
    (if eqI (N7 rest list deep).1 0 = true then some (.exit 0, ⟨61, [(0, .sl 124 (all.map (sT 219))), (3, .ptr 17 1 [] 0), (18, .sl 124 (all.map (sT 219))), (19, vI all.length), (20, vI (i + rest.length : Nat)), (21, vB false)], [(17, pR 1 1 (N7 rest list deep).2.1 (N7 rest list deep).2.2)], 2⟩)
     else some (.ret,⟨61,[(2,vI (N7 rest list deep).1)],[],2⟩))
  | [],i,list,deep,h,ht,hl,hd,hv=>by
    have hge:all.length≤i:=by simpa using h
    have hlt:ltI (i:Int) (all.length:Int)=false:=B6 (by omega)
    rw [C3]
    simp +contextual -dsimp [f167,hlt,N7,B7]
  | s::rest,i,list,deep,h,ht,hl,hd,hv=>by
    obtain ⟨hi,hc,hr⟩:=C6 h
    have hlt:ltI (i:Int) (all.length:Int)=true:=C4 (by omega)
    have hw:IntKind.i64.wrap ((i:Int)+1)=((i+1:Nat):Int):=by rw [A5] <;> omega
    have he:i+1+rest.length=i+(rest.length+1):=by omega
    have hs:=hf s (by rw [← hc]; exact List.getElem_mem hi)
    have g:=g6j s list deep hs.p1 hs.p2 ht (by omega) hd (fun d hdm=>by have:=hv d hdm; omega) hs.name hs.expr
    cases c:eqI (V1 s list deep) 0
    · have hm : (N7 (s :: rest) list deep).1 = V1 s list deep := by simp [N7, c, A0]
      rw [hm,c,if_neg (by simp)]
      refine D3 ?_ (by simp)
      simp (maxSteps:=1000000) +contextual -dsimp [f167,hlt,hi,hc,g,c,List.set]
    · obtain ⟨n1, n2, n3, n4, n5⟩ := c3h (by simpa [eqI] using c) ht hd hv
      have ih:=f6g all hall hf rest (i+1) (list++[s.parent]) (deep++[a0a deep s.parent]) hr n2 (by simp; omega) (by simp; omega) n5
      rw [he] at ih
      have hm:N7 (s::rest) list deep=N7 rest (list++[s.parent]) (deep++[a0a deep s.parent]):=by simp [N7,c,A0,n1]
      rw [hm]
      rw [n1] at g
      refine C1 ?_ (by simpa only [List.length_cons] using ih)
      simp (maxSteps:=1000000) +contextual -dsimp [f167,hlt,hi,hc,hw,g,c,List.set]
def a0v (l:List Step):Nat→Nat→Int
 | 0,_=>0
 | f+1,i=>if A0 (eqI (condFaultM l i) 0)=true then condFaultM l i else a0v l f (i+1)
theorem f6h (l:List Step) (hl:l.length≤24) (hp:∀ k,0 < k→k < l.length→0≤parOf l k∧parOf l k < l.length) (hc:∀ k,(condOf l k).length < 2 ^ 62):∀ (f i:Nat),i+f=l.length→
    A6 E (orc E) (167:Nat) (f+1) (A8 f167 1) ⟨61,[(0,.sl 124 (l.map (sT 219))),(32,vI l.length),(33,vI i)],[],2⟩=
    (if eqI (a0v l f i) 0 = true then some (.exit 2, ⟨61, [(0, .sl 124 (l.map (sT 219))), (32, vI l.length), (33, vI l.length), (34, vB false)], [], 2⟩)
     else some (.ret,⟨61,[(2,vI (a0v l f i))],[],2⟩))
  | 0,i,h=>by
    have e:i=l.length:=by omega
    subst e
    have hlt:ltI (l.length:Int) (l.length:Int)=false:=B6 (by omega)
    rw [C3]
    simp +contextual -dsimp [f167,hlt,a0v,B7]
  | f+1,i,h=>by
    have hi:i < l.length:=by omega
    have hlt:ltI (i:Int) (l.length:Int)=true:=C4 (by omega)
    have hw:IntKind.i64.wrap ((i:Int)+1)=((i+1:Nat):Int):=by rw [A5] <;> omega
    have g:=g6i l (by omega) i hi (fun h0=>hp i h0 hi) (hc i)
    cases c:eqI (condFaultM l i) 0
    · have hm : a0v l (f + 1) i = condFaultM l i := by simp [a0v, c, A0]
      rw [hm,c,if_neg (by simp)]
      refine D3 ?_ (by simp)
      simp (maxSteps:=1000000) +contextual -dsimp [f167,hlt,g,c]
    · have ih := f6h l hl hp hc f (i + 1) (by omega)
      have hm:a0v l (f+1) i=a0v l f (i+1):=by simp [a0v,c,A0]
      rw [hm]
      refine C1 ?_ ih
      simp (maxSteps:=1000000) +contextual -dsimp [f167,hlt,hw,g,c]
def procC:List Step→Int
 | []=>0
 | s::r=>if A0 (eqI (B5 (U3 s.cond 2) (U3 s.expr 1)) 0)=true then B5 (U3 s.cond 2) (U3 s.expr 1) else procC r
theorem f6i (all:List Step) (hall:all.length≤24) (hf:∀ s,s∈all→FitS s):∀ (rest:List Step) (i:Nat),all.drop i=rest→
    A6 E (orc E) (167:Nat) (rest.length+1) (A8 f167 2) ⟨61,[(43,.sl 124 (all.map (sT 219))),(44,vI all.length),(45,vI i)],[],2⟩=
    (if eqI (procC rest) 0 = true then some (.exit 4, ⟨61, [(43, .sl 124 (all.map (sT 219))), (44, vI all.length), (45, vI (i + rest.length : Nat)), (46, vB false)], [], 2⟩)
     else some (.ret,⟨61,[(2,vI (procC rest))],[],2⟩))
  | [],i,h=>by
    have hge:all.length≤i:=by simpa using h
    have hlt:ltI (i:Int) (all.length:Int)=false:=B6 (by omega)
    rw [C3]
    simp +contextual -dsimp [f167,hlt,procC,B7]
  | s::rest,i,h=>by
    obtain ⟨hi,hc,hr⟩:=C6 h
    have hlt:ltI (i:Int) (all.length:Int)=true:=C4 (by omega)
    have hw:IntKind.i64.wrap ((i:Int)+1)=((i+1:Nat):Int):=by rw [A5] <;> omega
    have he:i+1+rest.length=i+(rest.length+1):=by omega
    have hs:=hf s (by rw [← hc]; exact List.getElem_mem hi)
    have g1:=d3p s.cond hs.cond 2
    have g2:=d3p s.expr hs.expr 1
    cases c:eqI (B5 (U3 s.cond 2) (U3 s.expr 1)) 0
    · have hm : procC (s :: rest) = B5 (U3 s.cond 2) (U3 s.expr 1) := by simp [procC, c, A0]
      rw [hm,c,if_neg (by simp)]
      refine D3 ?_ (by simp)
      simp (maxSteps:=1000000) +contextual -dsimp [f167,U5,hlt,hi,hc,g1,g2,c,List.set]
    · have ih := f6i all hall hf rest (i + 1) hr
      rw [he] at ih
      have hm:procC (s::rest)=procC rest:=by simp [procC,c,A0]
      rw [hm]
      refine C1 ?_ (by simpa only [List.length_cons] using ih)
      simp (maxSteps:=1000000) +contextual -dsimp [f167,U5,hlt,hi,hc,hw,g1,g2,c,List.set]
theorem h0t {s:Step} {list deep:List Int} (h:V1 s list deep=0):a1d list s.parent=false:=by
 have hz:a1k s list deep=0:=by
  unfold V1 at h
  split at h
  ·rename_i c; rw [h] at c; simp [A0,eqI] at c
  ·rename_i c; simpa [A0,eqI] using c
 have h1:=(O1 hz).2
 unfold L6 at h1
 split at h1
 ·simp at h1
 ·rename_i d1; simpa using d1
theorem c3i:∀ {rest:List Step} {list deep:List Int},Tree list→deep.length=list.length→(∀ d,d∈deep→0≤d∧d≤list.length)→(N7 rest list deep).1=0→
  ∀ (k:Nat) (s:Step),rest[k]?=some s→-1≤s.parent∧s.parent < (list.length+k:Nat)∧(0 < list.length+k→0≤s.parent)
 | [],_,_,_,_,_,_,k,s,hk=>by simp at hk
 | x::rest,list,deep,ht,hd,hv,h,k,s,hk=>by
  cases c:eqI (V1 x list deep) 0
  ·have hm:(N7 (x::rest) list deep).1=V1 x list deep:=by simp [N7,c,A0]
   rw [hm] at h; rw [h] at c; simp [eqI] at c
  ·have hz:V1 x list deep=0:=by simpa [eqI] using c
   obtain ⟨n1,n2,n3,n4,n5⟩:=c3h hz ht hd hv
   have hm:N7 (x::rest) list deep=N7 rest (list++[x.parent]) (deep++[a0a deep x.parent]):=by simp [N7,c,A0,n1]
   rw [hm] at h
   cases k with
   | zero=>
    simp at hk; subst hk
    refine ⟨n3,by simpa using n4,fun h0=>?_⟩
    have hb:=h0t hz
    simp only [a1d,orB,A1,A0,eqI,ltI,inR,leI,Bool.or_eq_false_iff,Bool.and_eq_false_iff,Bool.not_eq_false',beq_eq_false_iff_ne,beq_iff_eq,decide_eq_false_iff_not,decide_eq_true_eq,Bool.and_eq_true] at hb
    omega
   | succ k=>
    have:=c3i n2 (by simp; omega) n5 h k s (by simpa using hk)
    simp only [List.length_append,List.length_cons,List.length_nil] at this
    have e:list.length+(0+1)+k=list.length+(k+1):=by omega
    rw [e] at this
    exact this
def P6 (l:List Step):Int:=
 if A0 (inR l.length 1 24)=true then 2
 else if A0 (eqI (N7 l [] []).1 0)=true then (N7 l [] []).1
 else if A0 (eqI (a0v l l.length 0) 0)=true then a0v l l.length 0
 else if A0 (eqI (procC l) 0)=true then procC l else 0
theorem d3r (l:List Step) (hl:l.length < 2 ^ 62) (hf:∀ s,s∈l→FitS s):fo 167 [A (.sl 124 (l.map (sT 219)))]=some (R (vI (P6 l))):=by
 cases c1:inR l.length 1 24
 ·refine e4g 1 ?_
  simp (maxSteps:=1000000) +contextual -dsimp [f167,G1,c1,P6]
 ·have hl2:1≤l.length∧l.length≤24:=by simp [inR,A1,leI] at c1; omega
  have ha:=f6g l hl2.2 hf l 0 [] [] rfl (fun k h=>by simp at h) rfl rfl (by simp)
  refine e4g (l.length+1) ?_
  simp -dsimp [f167,pR,iE] at ha
  cases c2:eqI (N7 l [] []).1 0
  ·rw [c2] at ha
   simp (maxSteps:=1000000) +contextual -dsimp [f167,G1,c1,c2,ha,P6]
  ·have hpar:=c3i (rest:=l) (list:=[]) (deep:=[]) (fun k h=>by simp at h) rfl (by simp) (by simpa [eqI] using c2)
   have hb:=f6h l hl2.2 (fun k h0 hk=>by
    have:=hpar k l[k] (by simp [hk])
    have e:parOf l k=(l[k]).parent:=by simp [parOf,hk]
    rw [e]
    simp at this
    omega) (fun k=>by
    unfold condOf
    split
    ·rename_i s hs; exact (hf s (List.mem_of_getElem? hs)).cond
    ·simp) l.length 0 (by omega)
   have hcc:=f6i l hl2.2 hf l 0 rfl
   rw [c2] at ha
   simp -dsimp [f167] at hb hcc
   cases c3:eqI (a0v l l.length 0) 0
   ·rw [c3] at hb
    simp (maxSteps:=1000000) +contextual -dsimp [f167,G1,c1,c2,c3,ha,hb,P6]
   ·rw [c3] at hb
    cases c4:eqI (procC l) 0
    ·rw [c4] at hcc
     simp (maxSteps:=1000000) +contextual -dsimp [f167,G1,c1,c2,c3,c4,ha,hb,hcc,P6]
    ·rw [c4] at hcc
     simp (maxSteps:=1000000) +contextual -dsimp [f167,G1,c1,c2,c3,c4,ha,hb,hcc,P6]
theorem f6j {p:Int}:∀ {l:List Step} {i:Nat} {k:Int},k∈A7 p i l→∃ a:Nat,k=a∧a < i+l.length
 | [],i,k,h=>by simp [A7] at h
 | x::l,i,k,h=>by
  unfold A7 at h
  have tl:k∈A7 p (i+1) l→∃ a:Nat,k=a∧a < i+(x::l).length:=fun h=>by
   obtain ⟨a,h1,h2⟩:=f6j h
   exact ⟨a,h1,by simp; omega⟩
  split at h
  ·rcases List.mem_cons.1 h with rfl | h
   ·exact ⟨i,rfl,by simp⟩
   ·exact tl h
  ·exact tl h
theorem c5h (p:Int):∀ (l:List Step) (i:Nat),(A7 p i l).length≤l.length
 | [],_=>Nat.le_refl _
 | s::l,i=>by
  have:=c5h p l (i+1)
  unfold A7
  split
  ·simp; omega
  ·simp; omega
def a2k (k:Int) (c:Chart) (on over:Int) (list:List Int) (due:Bool):Bool:=
 if orB (eqI k 1) (eqI k 3)=true then (if A0 (eqI on 1)=true then false else eqB false due)
 else if eqI k 4=true then (if orB (eqI on 0) (A0 (eqI (on+over) list.length))=true then false else eqB false due)
 else if eqI k 8=true then (if A0 (eqI on 1)=true then false else eqB (eqI (A4 c.acts (A4 list 0)) 1) due)
 else if eqI k 6=true then eqB true due
 else if eqI k 7=true then false
 else eqB false due
def a6y (l:List Step) (c:Chart) (i:Nat):Bool:=
 if A1 (eqI (A4 c.acts i) 2) (orB (eqI i 0) (A0 (eqI (A9 l (parOf l i)) 4)))=true then false
 else if A0 (eqI (A4 c.acts i) 1)=true then A1 (eqI ((C7 c.acts 1 (A7 i 0 l) 0:Nat)+(C7 c.acts 2 (A7 i 0 l) 0:Nat)) 0) (eqI (A4 c.dues i) 0)
 else a2k (A9 l i) c (C7 c.acts 1 (A7 i 0 l) 0:Nat) (C7 c.acts 2 (A7 i 0 l) 0:Nat) (A7 i 0 l) (A0 (eqI (A4 c.dues i) 0))
theorem i5g (l:List Step) (hl:l.length≤24) (c:Chart) (ha:c.acts.length=l.length) (hd:c.dues.length=l.length) (i:Nat) (hi:i < l.length) (hp:0 < i→∃ a:Nat,(l[i]).parent=a∧a < l.length):
  fo 284 [A (.ipt (bT l c)),A (vI i)]=some (R (vB (a6y l c i))):=by
 have g1:=b5x l (by omega) i
 have hk:∀ k,k∈A7 i 0 l→∃ a:Nat,k=a∧a < c.acts.length:=fun k h=>by
  obtain ⟨a,h1,h2⟩:=f6j h
  exact ⟨a,h1,by omega⟩
 have hfew:=c5h i l 0
 have g2:=f6b l c 1 (by omega) (A7 i 0 l) (by omega) hk
 have g3:=f6b l c 2 (by omega) (A7 i 0 l) (by omega) hk
 have hia:i < c.acts.length:=by omega
 have hid:i < c.dues.length:=by omega
 have hsa:A4 c.acts (i:Int)=c.acts[i]:=a0b hia
 have hsd:A4 c.dues (i:Int)=c.dues[i]:=a0b hid
 have hki:A9 l i=(l[i]).kind:=by simp [A9,hi]
 have hpi:parOf l i=(l[i]).parent:=by simp [parOf,hi]
 have b1:=a8c c.acts 1 (A7 i 0 l) 0
 have b2:=a8c c.acts 2 (A7 i 0 l) 0
 have hse:=a2h (A7 i 0 l)
 unfold a6y
 rw [hsa,hsd,hki,hpi]
 have hl0:C7 c.acts 1 (A7 i 0 l) 0=1→0 < (A7 i 0 l).length:=fun h=>by omega
 generalize hon:C7 c.acts 1 (A7 i 0 l) 0=on at *
 generalize hov:C7 c.acts 2 (A7 i 0 l) 0=ov at *
 have hw:IntKind.i64.wrap ((on:Int)+ov)=(on:Int)+ov:=by rw [A5] <;> omega
 generalize A7 i 0 l=ks at *
 have hlks:ks.length≤24:=by omega
 have he:eqI (i:Int) 0=true∨(eqI (i:Int) 0=false∧∃ (a:Nat) (h:a < l.length),(l[i]).parent=a∧A9 l (l[i]).parent=l[a].kind):=by
  rcases Nat.eq_zero_or_pos i with h | h
  ·left; simp [h,eqI]
  ·right
   obtain ⟨a,h1,h2⟩:=hp h
   exact ⟨by simp [eqI]; omega,a,h2,h1,by rw [h1]; simp [A9,h2]⟩
 refine i0h 1 ?_
 cases q0:eqI c.acts[i] 2
 ·cases q2:eqI c.acts[i] 1
  ·simp (maxSteps:=1000000) +contextual -dsimp [f284,g1,g2,g3,hia,hid,hi,hse,q0,q2,hw,List.set]
  ·cases e1:eqI (l[i].kind) 1
   ·cases e3:eqI (l[i].kind) 3
    ·cases e4:eqI (l[i].kind) 4
     ·cases e8:eqI (l[i].kind) 8
      ·cases e6:eqI (l[i].kind) 6
       ·cases e7:eqI (l[i].kind) 7
        ·simp (maxSteps:=1000000) +contextual -dsimp [f284,g1,g2,g3,hia,hid,hi,hse,q0,q2,List.set,a2k,e1,e3,e4,e8,e6,e7]
        ·simp (maxSteps:=1000000) +contextual -dsimp [f284,g1,g2,g3,hia,hi,hse,q0,q2,List.set,a2k,e1,e3,e4,e8,e6,e7]
       ·simp (maxSteps:=1000000) +contextual -dsimp [f284,g1,g2,g3,hia,hid,hi,hse,q0,q2,List.set,a2k,e1,e3,e4,e8,e6]
      ·cases o1:eqI (on:Int) 1
       ·simp (maxSteps:=1000000) +contextual -dsimp [f284,g1,g2,g3,hia,hi,hse,q0,q2,List.set,a2k,e1,e3,e4,e8,o1]
       ·have hpos:0 < ks.length:=hl0 (by simp [eqI] at o1; omega)
        obtain ⟨a,ka,hla⟩:=hk (ks[0]) (List.getElem_mem _)
        have hs0:A4 ks 0=ks[0]:=a0b hpos
        have hs1:A4 c.acts (a:Int)=c.acts[a]:=a0b hla
        simp (maxSteps:=1000000) +contextual -dsimp [f284,g1,g2,g3,hia,hid,hi,hse,q0,q2,List.set,a2k,e1,e3,e4,e8,o1,hpos,hs0,ka,hs1,hla]
     ·cases o1:eqI (on:Int) 0
      ·cases o2:eqI ((on:Int)+ov) ks.length
       ·simp (maxSteps:=1000000) +contextual -dsimp [f284,g1,g2,g3,hia,hi,hse,q0,q2,hw,List.set,a2k,e1,e3,e4,o1,o2]
       ·simp (maxSteps:=1000000) +contextual -dsimp [f284,g1,g2,g3,hia,hid,hi,hse,q0,q2,hw,List.set,a2k,e1,e3,e4,o1,o2]
      ·simp (maxSteps:=1000000) +contextual -dsimp [f284,g1,g2,g3,hia,hi,hse,q0,q2,List.set,a2k,e1,e3,e4,o1]
    ·cases o1:eqI (on:Int) 1
     ·simp (maxSteps:=1000000) +contextual -dsimp [f284,g1,g2,g3,hia,hi,hse,q0,q2,List.set,a2k,e1,e3,o1]
     ·simp (maxSteps:=1000000) +contextual -dsimp [f284,g1,g2,g3,hia,hid,hi,hse,q0,q2,List.set,a2k,e1,e3,o1]
   ·cases o1:eqI (on:Int) 1
    ·simp (maxSteps:=1000000) +contextual -dsimp [f284,g1,g2,g3,hia,hi,hse,q0,q2,List.set,a2k,e1,o1]
    ·simp (maxSteps:=1000000) +contextual -dsimp [f284,g1,g2,g3,hia,hid,hi,hse,q0,q2,List.set,a2k,e1,o1]
 ·have q2:eqI c.acts[i] 1=false:=by simp [eqI] at q0 ⊢; omega
  rcases he with he | ⟨he,a,p2,p1,p3⟩
  ·simp (maxSteps:=1000000) +contextual -dsimp [f284,g1,g2,g3,hia,hi,hse,he,q0,List.set]
  ·rw [p3]
   cases q3:eqI (l[a].kind) 4
   ·simp (maxSteps:=1000000) +contextual -dsimp [f284,g1,g2,g3,hia,hi,hse,he,p1,p2,q0,q3,List.set]
   ·simp (maxSteps:=1000000) +contextual -dsimp [f284,g1,g2,g3,hia,hid,hi,hse,he,p1,p2,q0,q2,q3,hw,List.set]
theorem e1u (l:List Step):∀ (f i:Nat),i+f=l.length→a0v l f i=0→∀ k,i≤k→k < l.length→condFaultM l k=0
 | 0,i,h,_,k,h1,h2=>by omega
 | f+1,i,h,hz,k,h1,h2=>by
  unfold a0v at hz
  split at hz
  ·rename_i c; rw [hz] at c; simp [A0,eqI] at c
  ·rename_i c
   rcases Nat.lt_or_ge i k with h' | h'
   ·exact e1u l f (i+1) (by omega) hz k h' h2
   ·have e:k=i:=by omega
    subst e; simpa [A0,eqI] using c
structure ProcOk (l:List Step):Prop where
 pos:1≤l.length
 le:l.length≤24
 par:∀ (k:Nat) (h:k < l.length),0 < k→∃ a:Nat,(l[k]).parent=a∧a < k
 par0:∀ (h:0 < l.length),(l[0]).parent=-1
 cond:∀ k,k < l.length→condFaultM l k=0
theorem b8z {l:List Step} (h:P6 l=0):ProcOk l:=by
 unfold P6 at h
 split at h
 ·simp at h
 ·rename_i c1
  have hl:1≤l.length∧l.length≤24:=by simp [A0,inR,A1,leI] at c1; omega
  split at h
  ·rename_i c2; rw [h] at c2; simp [A0,eqI] at c2
  ·rename_i c2
   have c2:(N7 l [] []).1=0:=by simpa [A0,eqI] using c2
   split at h
   ·rename_i c3; rw [h] at c3; simp [A0,eqI] at c3
   ·rename_i c3
    have c3:a0v l l.length 0=0:=by simpa [A0,eqI] using c3
    have hpar:=c3i (rest:=l) (list:=[]) (deep:=[]) (fun k h=>by simp at h) rfl (by simp) c2
    refine ⟨hl.1,hl.2,fun k hk h0=>?_,fun h0=>?_,fun k hk=>e1u l l.length 0 (by omega) c3 k (Nat.zero_le _) hk⟩
    ·have:=hpar k l[k] (by simp [hk])
     simp at this
     obtain ⟨a,ha⟩:=Int.eq_ofNat_of_zero_le (this.2.2 h0)
     exact ⟨a,ha,by omega⟩
    ·have:=hpar 0 l[0] (by simp [h0])
     simp at this
     omega
def a0q (l:List Step) (c:Chart):Nat→Nat→Bool
 | 0,_=>true
 | f+1,i=>if a6y l c i=true then a0q l c f (i+1) else false
theorem g1i (l:List Step) (hl:l.length≤24) (c:Chart) (ha:c.acts.length=l.length) (hd:c.dues.length=l.length) (hp:∀ (i:Nat) (h:i < l.length),0 < i→∃ a:Nat,(l[i]).parent=a∧a < l.length):∀ (f i:Nat),i+f=l.length→
    A6 E (orc E) (245:Nat) (f+1) (A8 f245 0) ⟨45,[(0,.ipt (bT l c)),(28,vI l.length),(29,vI i)],[],2⟩=
    (if a0q l c f i = true then some (.exit 0, ⟨45, [(0, .ipt (bT l c)), (28, vI l.length), (29, vI l.length), (30, vB false)], [], 2⟩)
     else some (.ret,⟨45,[(2,vB false)],[],2⟩))
  | 0,i,h=>by
    have e:i=l.length:=by omega
    subst e
    have hlt:ltI (l.length:Int) (l.length:Int)=false:=B6 (by omega)
    rw [C3]
    simp +contextual -dsimp [f245,hlt,a0q]
  | f+1,i,h=>by
    have hi:i < l.length:=by omega
    have hlt:ltI (i:Int) (l.length:Int)=true:=C4 (by omega)
    have hw:IntKind.i64.wrap ((i:Int)+1)=((i+1:Nat):Int):=by rw [A5] <;> omega
    have g:=i5g l hl c ha hd i hi (hp i hi)
    cases q:a6y l c i
    · have hm : a0q l c (f + 1) i = false := by simp [a0q, q]
      rw [hm,if_neg (by simp)]
      refine D3 ?_ (by simp)
      simp (maxSteps:=1000000) +contextual -dsimp [f245,hlt,g,q]
    · have ih := g1i l hl c ha hd hp f (i + 1) (by omega)
      have hm:a0q l c (f+1) i=a0q l c f (i+1):=by simp [a0q,q]
      rw [hm]
      refine C1 ?_ ih
      simp (maxSteps:=1000000) +contextual -dsimp [f245,hlt,g,q,hw]
def smS (m:Int) (l:List Int):Bool:=A0 (V3 (a1o m) l)
theorem c0h (l:List Int) (hl:l.length < 2 ^ 62) (m:Int):fo 244 [A (iS l),A (vI m)]=some (R (vB (smS m l))):=g7w l hl m
def b1n (l:List Step) (c:Chart):Bool:=
 if A0 (eqI c.status 1)=true then A1 (smS 0 c.acts) (smS 0 c.dues)
 else if a0q l c l.length 0=true then eqI (A4 c.acts 0) 1 else false
theorem g6l (l:List Step) (hl0:0 < l.length) (hl:l.length≤24) (c:Chart) (ha:c.acts.length=l.length) (hd:c.dues.length=l.length) (hp:∀ (i:Nat) (h:i < l.length),0 < i→∃ a:Nat,(l[i]).parent=a∧a < l.length):
  fo 245 [A (.ipt (bT l c))]=some (R (vB (b1n l c))):=by
 have g1:=c0h c.acts (by omega) 0
 have g2:=c0h c.dues (by omega) 0
 have hlp:=g1i l hl c ha hd hp l.length 0 (by omega)
 have ha0:0 < c.acts.length:=by omega
 have hs:A4 c.acts 0=c.acts[0]:=a0b ha0
 unfold b1n
 refine h9f (l.length+1) ?_
 simp -dsimp [f245] at hlp
 cases q1:eqI c.status 1
 ·simp (maxSteps:=1000000) +contextual -dsimp [f245,q1,g1,g2]
 ·cases q2:a0q l c l.length 0
  ·rw [q2] at hlp
   simp (maxSteps:=1000000) +contextual -dsimp [f245,q1,hlp]
  ·rw [q2] at hlp
   simp (maxSteps:=1000000) +contextual -dsimp [f245,q1,hlp,ha0,hs]
structure FitC (c:Chart):Prop where
 vars:c.vars.length < 2 ^ 62
 acts:c.acts.length < 2 ^ 62
 dues:c.dues.length < 2 ^ 62
def a5r (l:List Step) (c:Chart):Int:=
 B5 (P6 l) (B5 (ci (orB (A0 (inR c.status 1 3)) (A0 (inR c.now 0 1000000))) 3) (B5 (M4 c.vars) (ci (orB (A0 (eqI c.acts.length l.length)) (A0 (eqI c.dues.length l.length))) 2)))
def chartM (l:List Step) (c:Chart):Int:=
 if A0 (eqI (a5r l c) 0)=true then a5r l c
 else if orB (A0 (smS 2 c.acts)) (A0 (smS (c.now+99) c.dues))=true then 3
 else ci (A0 (b1n l c)) 1
theorem a5h {b:Bool} {k:Int} (hk:k≠0) (h:ci b k=0):b=false:=by
 cases b
 ·rfl
 ·exact absurd h (by simpa [ci] using hk)
theorem b6y {l:List Step} {c:Chart} (h:a5r l c=0):P6 l=0∧(1≤c.status∧c.status≤3)∧(0≤c.now∧c.now≤1000000)∧M4 c.vars=0∧c.acts.length=l.length∧c.dues.length=l.length:=by
 unfold a5r at h
 obtain ⟨h1,h2⟩:=O1 h
 obtain ⟨h3,h4⟩:=O1 h2
 obtain ⟨h5,h6⟩:=O1 h4
 have h3:=a5h (by omega) h3
 have h6:=a5h (by omega) h6
 simp [orB,A0,inR,A1,leI,eqI] at h3 h6
 exact ⟨h1,by omega,by omega,h5,by omega,by omega⟩
theorem d2b (l:List Step) (hl:l.length < 2 ^ 62) (hf:∀ s,s∈l→FitS s) (c:Chart) (hc:FitC c):
  fo 186 [A (.sl 124 (l.map (sT 219))),A (.agg (cT c))]=some (R (vI (chartM l c))):=by
 have g1:=d3r l hl hf
 have g2:=d3q c.vars hc.vars
 have g3:=h4g (P6 l) (ci (orB (A0 (inR c.status 1 3)) (A0 (inR c.now 0 1000000))) 3) (M4 c.vars) (ci (orB (A0 (eqI c.acts.length l.length)) (A0 (eqI c.dues.length l.length))) 2)
 have g4:=c0h c.acts hc.acts 2
 have g5:=c0h c.dues hc.dues (c.now+99)
 refine h7s 1 ?_
 cases q1:eqI (a5r l c) 0
 ·have q1':=q1
  unfold a5r at q1'
  simp (maxSteps:=1000000) +contextual -dsimp [f186,g1,g2,g3,G1,b0m,O6,q1',chartM,a5r,List.set]
 ·have e0:a5r l c=0:=by simpa [eqI] using q1
  obtain ⟨z1,z2,z3,z4,z5,z6⟩:=b6y e0
  have ok:=b8z z1
  have hw:IntKind.i64.wrap (c.now+99)=c.now+99:=by rw [A5] <;> omega
  have g6:=g6l l (by have:=ok.pos; omega) ok.le c z5 z6 (fun i hi h0=>by
   obtain ⟨a,h1,h2⟩:=ok.par i hi h0
   exact ⟨a,h1,by omega⟩)
  have e0':=e0
  unfold a5r at e0'
  cases q2:smS 2 c.acts
  ·simp (maxSteps:=1000000) +contextual -dsimp [f186,g1,g2,g3,g4,G1,b0m,O6,e0',e0,B7,q2,chartM,List.set]
  ·cases q3:smS (c.now+99) c.dues
   ·simp (maxSteps:=1000000) +contextual -dsimp [f186,g1,g2,g3,g4,g5,G1,b0m,O6,e0',e0,B7,q2,q3,hw,chartM,List.set]
   ·simp (maxSteps:=1000000) +contextual -dsimp [f186,g1,g2,g3,g4,g5,g6,G1,b0m,O6,e0',e0,B7,q2,q3,hw,chartM,List.set]
abbrev eT (e:Engine):List T:=[.sl 160 (e.procs.map (pT 124 219)),.sl 163 (e.insts.map xT),vI e.now]
theorem c7o (e:Engine) (x:Inst) (a:Nat) (hx:x.proc=a) (ha:a < e.procs.length):fo 127 [A (.agg (eT e)),A (.agg (xT x))]=some ⟨.sl 124 ((e.procs[a]).map (sT 219)),[],false⟩:=by
 refine h6q 1 ?_
 simp (maxSteps:=1000000) +contextual -dsimp [f127,hx,ha]
def a4t (l:List Step) (acts:List Int) (step:Int):Bool:=A1 (A1 (inR step 0 ((l.length:Int) - 1)) (eqI (A9 l step) 2)) (eqI (A4 acts step) 1)
theorem d4x (l:List Step) (hl:l.length < 2 ^ 62) (c:Chart) (ha:c.acts.length=l.length) (step:Int):
  fo 194 [A (.sl 124 (l.map (sT 219))),A (.agg (cT c)),A (vI step)]=some (R (vB (a4t l c.acts step))):=by
 have g:=b4s step l.length hl
 unfold a4t
 refine h7z 1 ?_
 cases q:inR step 0 ((l.length:Int) - 1)
 ·simp (maxSteps:=1000000) +contextual -dsimp [f194,g,q]
 ·obtain ⟨k,rfl,hk⟩:∃ k:Nat,step=k∧k < l.length:=by
   simp [inR,A1,leI] at q
   obtain ⟨k,rfl⟩:=Int.eq_ofNat_of_zero_le q.1
   exact ⟨k,rfl,by omega⟩
  have hka:k < c.acts.length:=by omega
  have hs:A4 c.acts (k:Int)=c.acts[k]:=a0b hka
  have hki:A9 l k=(l[k]).kind:=by simp [A9,hk]
  simp (maxSteps:=1000000) +contextual -dsimp [f194,g,q,hk,hka,hs,hki]
def a1g (e:Engine) (i:Int):Inst:=e.insts.getD i.toNat ⟨0,⟨0,0,[],[],[]⟩⟩
def stepsOf (e:Engine) (x:Inst):List Step:=e.procs.getD x.proc.toNat []
def V7 (e:Engine) (i:Int) (step:Int):Bool:=a4t (stepsOf e (a1g e i)) (a1g e i).chart.acts step
theorem c5i (e:Engine) (i:Nat) (hi:i < e.insts.length) (a:Nat) (hx:(e.insts[i]).proc=a) (ha:a < e.procs.length) (hl:(e.procs[a]).length < 2 ^ 62)
  (hc:(e.insts[i]).chart.acts.length=(e.procs[a]).length) (step:Int):fo 202 [A (.agg (eT e)),A (vI i),A (vI step)]=some (R (vB (V7 e i step))):=by
 have g1:=c7o e (e.insts[i]) a hx ha
 have g2:=d4x (e.procs[a]) hl (e.insts[i]).chart hc step
 have e1:a1g e i=e.insts[i]:=by simp [a1g,hi]
 have e2:stepsOf e (e.insts[i])=e.procs[a]:=by simp [stepsOf,hx,ha]
 unfold V7
 rw [e1,e2]
 refine h8f 1 ?_
 simp (maxSteps:=1000000) +contextual -dsimp [f202,g1,g2,hi,List.set]
def a3d:List (List Step)→Int
 | []=>0
 | p::r=>if A0 (eqI (P6 p) 0)=true then P6 p else a3d r
structure FitP (p:List Step):Prop where
 len:p.length < 2 ^ 62
 steps:∀ s,s∈p→FitS s
theorem g1j (all:List (List Step)) (hall:all.length≤1000) (hf:∀ p,p∈all→FitP p):∀ (rest:List (List Step)) (i:Nat),all.drop i=rest→
    A6 E (orc E) (185:Nat) (rest.length+1) (A8 f185 0) ⟨23,[(10,.sl 160 (all.map (pT 124 219))),(11,vI all.length),(12,vI i)],[],2⟩=
    (if eqI (a3d rest) 0 = true then some (.exit 0, ⟨23, [(10, .sl 160 (all.map (pT 124 219))), (11, vI all.length), (12, vI (i + rest.length : Nat)), (13, vB false)], [], 2⟩)
     else some (.ret,⟨23,[(2,vI (a3d rest))],[],2⟩))
  | [],i,h=>by
    have hge:all.length≤i:=by simpa using h
    have hlt:ltI (i:Int) (all.length:Int)=false:=B6 (by omega)
    rw [C3]
    simp +contextual -dsimp [f185,hlt,a3d,B7]
  | s::rest,i,h=>by
    obtain ⟨hi,hc,hr⟩:=C6 h
    have hlt:ltI (i:Int) (all.length:Int)=true:=C4 (by omega)
    have hw:IntKind.i64.wrap ((i:Int)+1)=((i+1:Nat):Int):=by rw [A5] <;> omega
    have he:i+1+rest.length=i+(rest.length+1):=by omega
    have hs:=hf s (by rw [← hc]; exact List.getElem_mem _)
    have g:=d3r s hs.len hs.steps
    cases q:eqI (P6 s) 0
    · have hm : a3d (s :: rest) = P6 s := by simp [a3d, q, A0]
      rw [hm,q,if_neg (by simp)]
      refine D3 ?_ (by simp)
      simp (maxSteps:=1000000) +contextual -dsimp [f185,hlt,hi,hc,g,q,List.set]
    · have ih := g1j all hall hf rest (i + 1) hr
      rw [he] at ih
      have hm:a3d (s::rest)=a3d rest:=by simp [a3d,q,A0]
      rw [hm]
      refine C1 ?_ (by simpa only [List.length_cons] using ih)
      simp (maxSteps:=1000000) +contextual -dsimp [f185,hlt,hi,hc,hw,g,q,List.set]
def a4q (ps:List (List Step)):Int:=if A0 (inR ps.length 1 3)=true then 2 else a3d ps
theorem g5c (ps:List (List Step)) (hps:ps.length < 2 ^ 62) (hf:∀ p,p∈ps→FitP p):fo 185 [A (.sl 160 (ps.map (pT 124 219)))]=some (R (vI (a4q ps))):=by
 unfold a4q
 cases c1:inR ps.length 1 3
 ·refine e4i 1 ?_
  simp (maxSteps:=1000000) +contextual -dsimp [f185,G1,c1]
 ·have hl:ps.length≤1000:=by simp [inR,A1,leI] at c1; omega
  have hlp:=g1j ps hl hf ps 0 rfl
  refine e4i (ps.length+1) ?_
  simp -dsimp [f185] at hlp
  cases c2:eqI (a3d ps) 0
  ·rw [c2] at hlp
   simp (maxSteps:=1000000) +contextual -dsimp [f185,G1,c1,hlp]
  ·rw [c2] at hlp
   have e0:a3d ps=0:=by simpa [eqI] using c2
   simp (maxSteps:=1000000) +contextual -dsimp [f185,G1,c1,e0,hlp]
end Go.TM.Ft
