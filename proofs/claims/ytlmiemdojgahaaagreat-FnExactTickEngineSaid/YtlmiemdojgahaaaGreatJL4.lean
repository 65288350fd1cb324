/- What functions of the program come to, by the machine. -/
import Derived.Test.YtlmiemdojgahaaaGreatJL3
import Derived.Test.YtlmiemdojgahaaaGreatJL2
set_option linter.unusedSimpArgs false
set_option linter.unusedVariables false
set_option maxHeartbeats 4000000
namespace Go.TM.Ft
open Go Go.TM Go.Proofs Go.Proofs.Tryz
set_option maxRecDepth 20000
attribute [local congr] K9
attribute [local simp] J8 K0 J0 J9 H3 J6 H4 G4 H5 G1
def Q3 (l:List Step):Nat→List Step→Int
 | _,[]=>0
 | i,s::r=>if eqI (one4M l i s) 0=true then Q3 l (i+1) r else one4M l i s
theorem d7i {l:List Step} {i:Nat} {s:Step} (h:eqI (one4M l i s) 0=true):a1n s i=false:=by
 unfold one4M at h
 split at h
 ·simp [eqI] at h
 ·split at h
  ·simp [eqI] at h
  ·rename_i c; simpa using c
abbrev b5c (l:List Step):Prop:=∀ s,s∈l→s.name.size < 2 ^ 62∧s.cond.length < 2 ^ 62∧s.expr.length < 2 ^ 62
theorem e9y (all:List Step) (hall:all.length≤24) (hf:b5c all):∀ (rest:List Step) (i:Nat),all.drop i=rest→Ahead all i→
  A5 E (orc E) (157:Nat) (rest.length+1) (B3 f157 0) ⟨58,[(0,.sl 124 (all.map (sT 219))),(3,vI i)],[],2⟩=
  (if eqI (Q3 all i rest) 0=true then some (.exit 0,⟨58,[(0,.sl 124 (all.map (sT 219))),(3,vI (i+rest.length:Nat)),(20,vB false)],[],2⟩) else some (.ret,⟨58,[(2,vI (Q3 all i rest))],[],2⟩))
 | [],i,h,_=>by
  have hge:all.length≤i:=by simpa using h
  have hlt:ltI (i:Int) (all.length:Int)=false:=B7 (by omega)
  rw [C2]
  simp +contextual -dsimp [f157,hlt,Q3,eqI]
 | s::rest,i,h,ha=>by
  obtain ⟨hi,hc,hr⟩:=C8 h
  have hlt:ltI (i:Int) (all.length:Int)=true:=C5 (by omega)
  have hw:IntKind.i64.wrap ((i:Int)+1)=((i+1:Nat):Int):=by rw [A6] <;> omega
  have he:i+1+rest.length=i+(rest.length+1):=by omega
  have hs:=hf s (by rw [← hc]; exact List.getElem_mem _)
  have g:=h1p all hall i hi ha (by rw [hc]; exact hs.1) (by rw [hc]; exact hs.2.2)
  rw [hc] at g
  cases c:eqI (one4M all i s) 0
  ·have hm:Q3 all i (s::rest)=one4M all i s:=by simp [Q3,c]
   rw [hm,c,if_neg (by simp)]
   refine D6 ?_ (by simp)
   simp (maxSteps:=1000000) +contextual -dsimp [f157,hlt,g,c]
  ·have ha2:Ahead all (i+1):=fun k hk hk2=>by
    by_cases e:k=i
    ·subst e; rw [hc]; exact c4v (d7i c)
    ·exact ha k hk (by omega)
   have ih:=e9y all hall hf rest (i+1) hr ha2
   rw [he] at ih
   have hm:Q3 all i (s::rest)=Q3 all (i+1) rest:=by simp [Q3,c]
   rw [hm]
   refine C0 ?_ (by simpa only [List.length_cons] using ih)
   simp (maxSteps:=1000000) +contextual -dsimp [f157,hlt,hw,g,c]
def a6p (s:Step):Int:=if eqI (a2v s.cond 2) 0=true then a2v s.expr 1 else a2v s.cond 2
def a3d:List Step→Int
 | []=>0
 | s::r=>if eqI (a6p s) 0=true then a3d r else a6p s
theorem e9z (all:List Step) (hall:all.length≤24) (hf:b5c all):∀ (rest:List Step) (i:Nat),all.drop i=rest→
  A5 E (orc E) (157:Nat) (rest.length+1) (B3 f157 1) ⟨58,[(0,.sl 124 (all.map (sT 219))),(6,vI i)],[],2⟩=
  (if eqI (a3d rest) 0=true then some (.exit 2,⟨58,[(0,.sl 124 (all.map (sT 219))),(6,vI (i+rest.length:Nat)),(37,vB false)],[],2⟩) else some (.ret,⟨58,[(2,vI (a3d rest))],[],2⟩))
 | [],i,h=>by
  have hge:all.length≤i:=by simpa using h
  have hlt:ltI (i:Int) (all.length:Int)=false:=B7 (by omega)
  rw [C2]
  simp +contextual -dsimp [f157,hlt,a3d,eqI]
 | s::rest,i,h=>by
  obtain ⟨hi,hc,hr⟩:=C8 h
  have hlt:ltI (i:Int) (all.length:Int)=true:=C5 (by omega)
  have hw:IntKind.i64.wrap ((i:Int)+1)=((i+1:Nat):Int):=by rw [A6] <;> omega
  have he:i+1+rest.length=i+(rest.length+1):=by omega
  have hs:=hf s (by rw [← hc]; exact List.getElem_mem _)
  have g1:=d3k s.cond hs.2.1 2
  have g2:=d3k s.expr hs.2.2 1
  cases c:eqI (a6p s) 0
  ·have hm:a3d (s::rest)=a6p s:=by simp [a3d,c]
   rw [hm,c,if_neg (by simp)]
   refine D6 ?_ (by simp)
   cases c1:eqI (a2v s.cond 2) 0
   ·simp (maxSteps:=1000000) +contextual -dsimp [f157,hlt,hi,hc,g1,c1,a6p]
   ·have c2:eqI (a2v s.expr 1) 0=false:=by simpa [a6p,c1] using c
    simp (maxSteps:=1000000) +contextual -dsimp [f157,hlt,hi,hc,g1,g2,c1,c2,a6p]
  ·have ih:=e9z all hall hf rest (i+1) hr
   rw [he] at ih
   have hm:a3d (s::rest)=a3d rest:=by simp [a3d,c]
   rw [hm]
   refine C0 ?_ (by simpa only [List.length_cons] using ih)
   cases c1:eqI (a2v s.cond 2) 0
   ·rw [a6p,c1] at c; simp [c1] at c
   ·have c2:eqI (a2v s.expr 1) 0=true:=by simpa [a6p,c1] using c
    simp (maxSteps:=1000000) +contextual -dsimp [f157,hlt,hi,hc,hw,g1,g2,c1,c2]
def Q7 (l:List Step):Int:=
 if orB (ltI l.length 1) (ltI 24 l.length)=true then 2
 else if eqI (Q3 l 0 l) 0=true then (if eqI (a1i l 0 l) 0=true then a3d l else a1i l 0 l) else Q3 l 0 l
theorem d7j {l:List Step}:∀ {r:List Step} {i:Nat},eqI (Q3 l i r) 0=true→∀ (k:Nat) (s:Step),r[k]?=some s→eqI (one4M l (i+k) s) 0=true
 | [],i,_,k,n,h=>by simp at h
 | x::r,i,hz,k,s,h=>by
  unfold Q3 at hz
  split at hz
  ·rename_i hc
   cases k with
   | zero=>simp at h; subst h; exact hc
   | succ k=>
    have:=d7j hz k s (by simpa using h)
    have e:i+1+k=i+(k+1):=by omega
    rw [← e]; exact this
  ·rename_i hc; exact absurd hz hc
theorem g5l {l:List Step} (h:eqI (Q3 l 0 l) 0=true):∀ k (_hk:k < l.length),-1≤parOf l k∧parOf l k < k:=fun k hk=>by
 have:=c4v (d7i (d7j h k l[k] (by simp [hk])))
 have e:parOf l k=(l[k]).parent:=by simp [parOf,hk]
 rw [e]; omega
theorem d3l (l:List Step) (hl:l.length < 2 ^ 62) (hf:b5c l):fo 157 [A (.sl 124 (l.map (sT 219)))]=some (R (vI (Q7 l))):=by
 cases c1:orB (ltI l.length 1) (ltI 24 l.length)
 ·have hl2:1≤l.length∧l.length≤24:=by simp [orB,ltI] at c1; omega
  have ha:=e9y l hl2.2 hf l 0 rfl (fun k _ h=>absurd h (by omega))
  have hb:=e9z l hl2.2 hf l 0 rfl
  simp -dsimp [f157] at ha hb
  refine d9v (l.length+1) ?_
  cases c2:eqI (Q3 l 0 l) 0
  ·rw [c2] at ha
   simp (maxSteps:=1000000) +contextual -dsimp [f157,c1,c2,ha,Q7]
  ·rw [c2] at ha
   have g:=g2a l hl2.2 (fun k hk=>by have:=g5l c2 k hk; omega) (fun s hs=>(hf s hs).2.1)
   cases c3:eqI (a1i l 0 l) 0
   ·simp (maxSteps:=1000000) +contextual -dsimp [f157,c1,c2,c3,ha,g,Q7]
   ·cases c4:eqI (a3d l) 0
    ·rw [c4] at hb
     simp (maxSteps:=1000000) +contextual -dsimp [f157,c1,c2,c3,ha,hb,g,Q7]
    ·rw [c4] at hb
     have e4:a3d l=0:=by simpa [eqI] using c4
     simp (maxSteps:=1000000) +contextual -dsimp [f157,c1,c2,c3,e4,ha,hb,g,Q7]
 ·refine d9v 1 ?_
  simp (maxSteps:=1000000) +contextual -dsimp [f157,c1,Q7]
def M6:List Step→List Int→List Int→Int × List Int × List Int
 | [],list,deep=>(0,list,deep)
 | s::r,list,deep=>
  if A0 (eqI (Q2 s list deep) 0)=true then (Q2 s list deep,(L0 list deep s.parent).2.1,(L0 list deep s.parent).2.2)
  else M6 r (L0 list deep s.parent).2.1 (L0 list deep s.parent).2.2
structure FitS (s:Step):Prop where
 p1:-9223372036854775808≤s.parent
 p2:s.parent < 9223372036854775808
 name:s.name.size < 2 ^ 62
 cond:s.cond.length < 2 ^ 62
 expr:s.expr.length < 2 ^ 62
theorem c1n {s:Step} {list deep:List Int} (h:Q2 s list deep=0) (ht:Tree list) (hd:deep.length=list.length) (hv:∀ d,d∈deep→0≤d∧d≤list.length):
  L0 list deep s.parent=(0,list++[s.parent],deep++[a0c deep s.parent])∧Tree (list++[s.parent])∧-1≤s.parent∧s.parent < list.length∧
   (∀ d,d∈deep++[a0c deep s.parent]→0≤d∧d≤(list++[s.parent]).length):=by
 have hz:a1k s list deep=0:=by
  unfold Q2 at h
  split at h
  ·rename_i c; rw [h] at c; simp [A0,eqI] at c
  ·rename_i c; simpa [A0,eqI] using c
 have h1:=(a0a hz).2
 have hnx:L0 list deep s.parent=(0,list++[s.parent],deep++[a0c deep s.parent])∧a1d list s.parent=false:=by
  unfold L0 at h1 ⊢
  split at h1
  ·simp at h1
  ·rename_i d1
   rw [if_neg d1]
   split at h1
   ·simp at h1
   ·rename_i d2
    rw [if_neg d2]
    exact ⟨rfl,by simpa using d1⟩
 obtain ⟨hnx,c1⟩:=hnx
 have hpr:-1≤s.parent∧s.parent < list.length:=by
  simp only [a1d,orB,A2,A0,eqI,ltI,inR,leI,Bool.or_eq_false_iff,Bool.and_eq_false_iff,Bool.not_eq_false',beq_eq_false_iff_ne,beq_iff_eq,decide_eq_false_iff_not,decide_eq_true_eq,Bool.and_eq_true] at c1
  omega
 refine ⟨hnx,fun k hk=>?_,hpr.1,hpr.2,fun d hdm=>?_⟩
 ·rcases Nat.lt_or_ge k list.length with h' | h'
  ·rw [List.getElem_append_left h']; exact ht k h'
  ·have:k=list.length:=by simp at hk; omega
   subst this
   simp
   exact hpr
 ·simp only [List.length_append,List.length_cons,List.length_nil]
  rcases List.mem_append.1 hdm with hdm | hdm
  ·have:=hv d hdm; omega
  ·simp only [List.mem_singleton] at hdm
   subst hdm
   unfold a0c
   split
   ·rename_i hp
    obtain ⟨k,hk⟩:=Int.eq_ofNat_of_zero_le (show 0≤s.parent by simpa [leI] using hp)
    have hk2:k < deep.length:=by omega
    rw [hk]
    simp [hk2]
    have:=hv deep[k] (List.getElem_mem hk2)
    omega
   ·omega
theorem f0a (all:List Step) (hall:all.length≤24) (hf:∀ s,s∈all→FitS s):∀ (rest:List Step) (i:Nat) (list deep:List Int),all.drop i=rest→Tree list→list.length=i→deep.length=list.length→(∀ d,d∈deep→0≤d∧d≤list.length)→
    A5 E (orc E) (167:Nat) (rest.length+1) (B3 f167 0) ⟨61,[(0,.sl 124 (all.map (sT 219))),(3,.ptr 17 1 [] 0),(18,.sl 124 (all.map (sT 219))),(19,vI all.length),(20,vI i)],[(17,pR 1 1 list deep)],2⟩=
    (if eqI (M6 rest list deep).1 0 = true then some (.exit 0, ⟨61, [(0, .sl 124 (all.map (sT 219))), (3, .ptr 17 1 [] 0), (18, .sl 124 (all.map (sT 219))), (19, vI all.length), (20, vI (i + rest.length : Nat)), (21, vB false)], [(17, pR 1 1 (M6 rest list deep).2.1 (M6 rest list deep).2.2)], 2⟩)
     else some (.ret,⟨61,[(2,vI (M6 rest list deep).1)],[],2⟩))
  | [],i,list,deep,h,ht,hl,hd,hv=>by
    have hge:all.length≤i:=by simpa using h
    have hlt:ltI (i:Int) (all.length:Int)=false:=B7 (by omega)
    rw [C2]
    simp +contextual -dsimp [f167,hlt,M6,C1]
  | s::rest,i,list,deep,h,ht,hl,hd,hv=>by
    obtain ⟨hi,hc,hr⟩:=C8 h
    have hlt:ltI (i:Int) (all.length:Int)=true:=C5 (by omega)
    have hw:IntKind.i64.wrap ((i:Int)+1)=((i+1:Nat):Int):=by rw [A6] <;> omega
    have he:i+1+rest.length=i+(rest.length+1):=by omega
    have hs:=hf s (by rw [← hc]; exact List.getElem_mem hi)
    have g:=f8m s list deep hs.p1 hs.p2 ht (by omega) hd (fun d hdm=>by have:=hv d hdm; omega) hs.name hs.expr
    cases c:eqI (Q2 s list deep) 0
    · have hm : (M6 (s :: rest) list deep).1 = Q2 s list deep := by simp [M6, c, A0]
      rw [hm,c,if_neg (by simp)]
      refine D6 ?_ (by simp)
      simp (maxSteps:=1000000) +contextual -dsimp [f167,hlt,hi,hc,g,c,List.set]
    · obtain ⟨n1, n2, n3, n4, n5⟩ := c1n (by simpa [eqI] using c) ht hd hv
      have ih:=f0a all hall hf rest (i+1) (list++[s.parent]) (deep++[a0c deep s.parent]) hr n2 (by simp; omega) (by simp; omega) n5
      rw [he] at ih
      have hm:M6 (s::rest) list deep=M6 rest (list++[s.parent]) (deep++[a0c deep s.parent]):=by simp [M6,c,A0,n1]
      rw [hm]
      rw [n1] at g
      refine C0 ?_ (by simpa only [List.length_cons] using ih)
      simp (maxSteps:=1000000) +contextual -dsimp [f167,hlt,hi,hc,hw,g,c,List.set]
def a0t (l:List Step):Nat→Nat→Int
 | 0,_=>0
 | f+1,i=>if A0 (eqI (condFaultM l i) 0)=true then condFaultM l i else a0t l f (i+1)
theorem f0b (l:List Step) (hl:l.length≤24) (hp:∀ k,0 < k→k < l.length→0≤parOf l k∧parOf l k < l.length) (hc:∀ k,(condOf l k).length < 2 ^ 62):∀ (f i:Nat),i+f=l.length→
    A5 E (orc E) (167:Nat) (f+1) (B3 f167 1) ⟨61,[(0,.sl 124 (l.map (sT 219))),(32,vI l.length),(33,vI i)],[],2⟩=
    (if eqI (a0t l f i) 0 = true then some (.exit 2, ⟨61, [(0, .sl 124 (l.map (sT 219))), (32, vI l.length), (33, vI l.length), (34, vB false)], [], 2⟩)
     else some (.ret,⟨61,[(2,vI (a0t l f i))],[],2⟩))
  | 0,i,h=>by
    have e:i=l.length:=by omega
    subst e
    have hlt:ltI (l.length:Int) (l.length:Int)=false:=B7 (by omega)
    rw [C2]
    simp +contextual -dsimp [f167,hlt,a0t,C1]
  | f+1,i,h=>by
    have hi:i < l.length:=by omega
    have hlt:ltI (i:Int) (l.length:Int)=true:=C5 (by omega)
    have hw:IntKind.i64.wrap ((i:Int)+1)=((i+1:Nat):Int):=by rw [A6] <;> omega
    have g:=f8l l (by omega) i hi (fun h0=>hp i h0 hi) (hc i)
    cases c:eqI (condFaultM l i) 0
    · have hm : a0t l (f + 1) i = condFaultM l i := by simp [a0t, c, A0]
      rw [hm,c,if_neg (by simp)]
      refine D6 ?_ (by simp)
      simp (maxSteps:=1000000) +contextual -dsimp [f167,hlt,g,c]
    · have ih := f0b l hl hp hc f (i + 1) (by omega)
      have hm:a0t l (f+1) i=a0t l f (i+1):=by simp [a0t,c,A0]
      rw [hm]
      refine C0 ?_ ih
      simp (maxSteps:=1000000) +contextual -dsimp [f167,hlt,hw,g,c]
def procC:List Step→Int
 | []=>0
 | s::r=>if A0 (eqI (C4 (P7 s.cond 2) (P7 s.expr 1)) 0)=true then C4 (P7 s.cond 2) (P7 s.expr 1) else procC r
theorem f0c (all:List Step) (hall:all.length≤24) (hf:∀ s,s∈all→FitS s):∀ (rest:List Step) (i:Nat),all.drop i=rest→
    A5 E (orc E) (167:Nat) (rest.length+1) (B3 f167 2) ⟨61,[(43,.sl 124 (all.map (sT 219))),(44,vI all.length),(45,vI i)],[],2⟩=
    (if eqI (procC rest) 0 = true then some (.exit 4, ⟨61, [(43, .sl 124 (all.map (sT 219))), (44, vI all.length), (45, vI (i + rest.length : Nat)), (46, vB false)], [], 2⟩)
     else some (.ret,⟨61,[(2,vI (procC rest))],[],2⟩))
  | [],i,h=>by
    have hge:all.length≤i:=by simpa using h
    have hlt:ltI (i:Int) (all.length:Int)=false:=B7 (by omega)
    rw [C2]
    simp +contextual -dsimp [f167,hlt,procC,C1]
  | s::rest,i,h=>by
    obtain ⟨hi,hc,hr⟩:=C8 h
    have hlt:ltI (i:Int) (all.length:Int)=true:=C5 (by omega)
    have hw:IntKind.i64.wrap ((i:Int)+1)=((i+1:Nat):Int):=by rw [A6] <;> omega
    have he:i+1+rest.length=i+(rest.length+1):=by omega
    have hs:=hf s (by rw [← hc]; exact List.getElem_mem hi)
    have g1:=c9x s.cond hs.cond 2
    have g2:=c9x s.expr hs.expr 1
    cases c:eqI (C4 (P7 s.cond 2) (P7 s.expr 1)) 0
    · have hm : procC (s :: rest) = C4 (P7 s.cond 2) (P7 s.expr 1) := by simp [procC, c, A0]
      rw [hm,c,if_neg (by simp)]
      refine D6 ?_ (by simp)
      simp (maxSteps:=1000000) +contextual -dsimp [f167,a0b,hlt,hi,hc,g1,g2,c,List.set]
    · have ih := f0c all hall hf rest (i + 1) hr
      rw [he] at ih
      have hm:procC (s::rest)=procC rest:=by simp [procC,c,A0]
      rw [hm]
      refine C0 ?_ (by simpa only [List.length_cons] using ih)
      simp (maxSteps:=1000000) +contextual -dsimp [f167,a0b,hlt,hi,hc,hw,g1,g2,c,List.set]
theorem g2b {s:Step} {list deep:List Int} (h:Q2 s list deep=0):a1d list s.parent=false:=by
 have hz:a1k s list deep=0:=by
  unfold Q2 at h
  split at h
  ·rename_i c; rw [h] at c; simp [A0,eqI] at c
  ·rename_i c; simpa [A0,eqI] using c
 have h1:=(a0a hz).2
 unfold L0 at h1
 split at h1
 ·simp at h1
 ·rename_i d1; simpa using d1
theorem c1o:∀ {rest:List Step} {list deep:List Int},Tree list→deep.length=list.length→(∀ d,d∈deep→0≤d∧d≤list.length)→(M6 rest list deep).1=0→
  ∀ (k:Nat) (s:Step),rest[k]?=some s→-1≤s.parent∧s.parent < (list.length+k:Nat)∧(0 < list.length+k→0≤s.parent)
 | [],_,_,_,_,_,_,k,s,hk=>by simp at hk
 | x::rest,list,deep,ht,hd,hv,h,k,s,hk=>by
  cases c:eqI (Q2 x list deep) 0
  ·have hm:(M6 (x::rest) list deep).1=Q2 x list deep:=by simp [M6,c,A0]
   rw [hm] at h; rw [h] at c; simp [eqI] at c
  ·have hz:Q2 x list deep=0:=by simpa [eqI] using c
   obtain ⟨n1,n2,n3,n4,n5⟩:=c1n hz ht hd hv
   have hm:M6 (x::rest) list deep=M6 rest (list++[x.parent]) (deep++[a0c deep x.parent]):=by simp [M6,c,A0,n1]
   rw [hm] at h
   cases k with
   | zero=>
    simp at hk; subst hk
    refine ⟨n3,by simpa using n4,fun h0=>?_⟩
    have hb:=g2b hz
    simp only [a1d,orB,A2,A0,eqI,ltI,inR,leI,Bool.or_eq_false_iff,Bool.and_eq_false_iff,Bool.not_eq_false',beq_eq_false_iff_ne,beq_iff_eq,decide_eq_false_iff_not,decide_eq_true_eq,Bool.and_eq_true] at hb
    omega
   | succ k=>
    have:=c1o n2 (by simp; omega) n5 h k s (by simpa using hk)
    simp only [List.length_append,List.length_cons,List.length_nil] at this
    have e:list.length+(0+1)+k=list.length+(k+1):=by omega
    rw [e] at this
    exact this
def O3 (l:List Step):Int:=
 if A0 (inR l.length 1 24)=true then 2
 else if A0 (eqI (M6 l [] []).1 0)=true then (M6 l [] []).1
 else if A0 (eqI (a0t l l.length 0) 0)=true then a0t l l.length 0
 else if A0 (eqI (procC l) 0)=true then procC l else 0
theorem c9y (l:List Step) (hl:l.length < 2 ^ 62) (hf:∀ s,s∈l→FitS s):fo 167 [A (.sl 124 (l.map (sT 219)))]=some (R (vI (O3 l))):=by
 cases c1:inR l.length 1 24
 ·refine d9x 1 ?_
  simp (maxSteps:=1000000) +contextual -dsimp [f167,D7,c1,O3]
 ·have hl2:1≤l.length∧l.length≤24:=by simp [inR,A2,leI] at c1; omega
  have ha:=f0a l hl2.2 hf l 0 [] [] rfl (fun k h=>by simp at h) rfl rfl (by simp)
  refine d9x (l.length+1) ?_
  simp -dsimp [f167,pR,iE] at ha
  cases c2:eqI (M6 l [] []).1 0
  ·rw [c2] at ha
   simp (maxSteps:=1000000) +contextual -dsimp [f167,D7,c1,c2,ha,O3]
  ·have hpar:=c1o (rest:=l) (list:=[]) (deep:=[]) (fun k h=>by simp at h) rfl (by simp) (by simpa [eqI] using c2)
   have hb:=f0b l hl2.2 (fun k h0 hk=>by
    have:=hpar k l[k] (by simp [hk])
    have e:parOf l k=(l[k]).parent:=by simp [parOf,hk]
    rw [e]
    simp at this
    omega) (fun k=>by
    unfold condOf
    split
    ·rename_i s hs; exact (hf s (List.mem_of_getElem? hs)).cond
    ·simp) l.length 0 (by omega)
   have hcc:=f0c l hl2.2 hf l 0 rfl
   rw [c2] at ha
   simp -dsimp [f167] at hb hcc
   cases c3:eqI (a0t l l.length 0) 0
   ·rw [c3] at hb
    simp (maxSteps:=1000000) +contextual -dsimp [f167,D7,c1,c2,c3,ha,hb,O3]
   ·rw [c3] at hb
    cases c4:eqI (procC l) 0
    ·rw [c4] at hcc
     simp (maxSteps:=1000000) +contextual -dsimp [f167,D7,c1,c2,c3,c4,ha,hb,hcc,O3]
    ·rw [c4] at hcc
     simp (maxSteps:=1000000) +contextual -dsimp [f167,D7,c1,c2,c3,c4,ha,hb,hcc,O3]
theorem f0d {p:Int}:∀ {l:List Step} {i:Nat} {k:Int},k∈A7 p i l→∃ a:Nat,k=a∧a < i+l.length
 | [],i,k,h=>by simp [A7] at h
 | x::l,i,k,h=>by
  unfold A7 at h
  have tl:k∈A7 p (i+1) l→∃ a:Nat,k=a∧a < i+(x::l).length:=fun h=>by
   obtain ⟨a,h1,h2⟩:=f0d h
   exact ⟨a,h1,by simp; omega⟩
  split at h
  ·rcases List.mem_cons.1 h with rfl | h
   ·exact ⟨i,rfl,by simp⟩
   ·exact tl h
  ·exact tl h
theorem c3i (p:Int):∀ (l:List Step) (i:Nat),(A7 p i l).length≤l.length
 | [],_=>Nat.le_refl _
 | s::l,i=>by
  have:=c3i p l (i+1)
  unfold A7
  split
  ·simp; omega
  ·simp; omega
def a2l (k:Int) (c:Chart) (on over:Int) (list:List Int) (due:Bool):Bool:=
 if orB (eqI k 1) (eqI k 3)=true then (if A0 (eqI on 1)=true then false else eqB false due)
 else if eqI k 4=true then (if orB (eqI on 0) (A0 (eqI (on+over) list.length))=true then false else eqB false due)
 else if eqI k 8=true then (if A0 (eqI on 1)=true then false else eqB (eqI (A3 c.acts (A3 list 0)) 1) due)
 else if eqI k 6=true then eqB true due
 else if eqI k 7=true then false
 else eqB false due
def a6s (l:List Step) (c:Chart) (i:Nat):Bool:=
 if A2 (eqI (A3 c.acts i) 2) (orB (eqI i 0) (A0 (eqI (A8 l (parOf l i)) 4)))=true then false
 else if A0 (eqI (A3 c.acts i) 1)=true then A2 (eqI ((C6 c.acts 1 (A7 i 0 l) 0:Nat)+(C6 c.acts 2 (A7 i 0 l) 0:Nat)) 0) (eqI (A3 c.dues i) 0)
 else a2l (A8 l i) c (C6 c.acts 1 (A7 i 0 l) 0:Nat) (C6 c.acts 2 (A7 i 0 l) 0:Nat) (A7 i 0 l) (A0 (eqI (A3 c.dues i) 0))
theorem h4g (l:List Step) (hl:l.length≤24) (c:Chart) (ha:c.acts.length=l.length) (hd:c.dues.length=l.length) (i:Nat) (hi:i < l.length) (hp:0 < i→∃ a:Nat,(l[i]).parent=a∧a < l.length):
  fo 284 [A (.ipt (bT l c)),A (vI i)]=some (R (vB (a6s l c i))):=by
 have g1:=b2f l (by omega) i
 have hk:∀ k,k∈A7 i 0 l→∃ a:Nat,k=a∧a < c.acts.length:=fun k h=>by
  obtain ⟨a,h1,h2⟩:=f0d h
  exact ⟨a,h1,by omega⟩
 have hfew:=c3i i l 0
 have g2:=e9v l c 1 (by omega) (A7 i 0 l) (by omega) hk
 have g3:=e9v l c 2 (by omega) (A7 i 0 l) (by omega) hk
 have hia:i < c.acts.length:=by omega
 have hid:i < c.dues.length:=by omega
 have hsa:A3 c.acts (i:Int)=c.acts[i]:=a1a hia
 have hsd:A3 c.dues (i:Int)=c.dues[i]:=a1a hid
 have hki:A8 l i=(l[i]).kind:=by simp [A8,hi]
 have hpi:parOf l i=(l[i]).parent:=by simp [parOf,hi]
 have b1:=a7p c.acts 1 (A7 i 0 l) 0
 have b2:=a7p c.acts 2 (A7 i 0 l) 0
 have hse:=a1r (A7 i 0 l)
 unfold a6s
 rw [hsa,hsd,hki,hpi]
 have hl0:C6 c.acts 1 (A7 i 0 l) 0=1→0 < (A7 i 0 l).length:=fun h=>by omega
 generalize hon:C6 c.acts 1 (A7 i 0 l) 0=on at *
 generalize hov:C6 c.acts 2 (A7 i 0 l) 0=ov at *
 have hw:IntKind.i64.wrap ((on:Int)+ov)=(on:Int)+ov:=by rw [A6] <;> omega
 generalize A7 i 0 l=ks at *
 have hlks:ks.length≤24:=by omega
 have he:eqI (i:Int) 0=true∨(eqI (i:Int) 0=false∧∃ (a:Nat) (h:a < l.length),(l[i]).parent=a∧A8 l (l[i]).parent=l[a].kind):=by
  rcases Nat.eq_zero_or_pos i with h | h
  ·left; simp [h,eqI]
  ·right
   obtain ⟨a,h1,h2⟩:=hp h
   exact ⟨by simp [eqI]; omega,a,h2,h1,by rw [h1]; simp [A8,h2]⟩
 refine h0o 1 ?_
 cases q0:eqI c.acts[i] 2
 ·cases q2:eqI c.acts[i] 1
  ·simp (maxSteps:=1000000) +contextual -dsimp [f284,g1,g2,g3,hia,hid,hi,hse,q0,q2,hw,List.set]
  ·cases e1:eqI (l[i].kind) 1
   ·cases e3:eqI (l[i].kind) 3
    ·cases e4:eqI (l[i].kind) 4
     ·cases e8:eqI (l[i].kind) 8
      ·cases e6:eqI (l[i].kind) 6
       ·cases e7:eqI (l[i].kind) 7
        ·simp (maxSteps:=1000000) +contextual -dsimp [f284,g1,g2,g3,hia,hid,hi,hse,q0,q2,List.set,a2l,e1,e3,e4,e8,e6,e7]
        ·simp (maxSteps:=1000000) +contextual -dsimp [f284,g1,g2,g3,hia,hi,hse,q0,q2,List.set,a2l,e1,e3,e4,e8,e6,e7]
       ·simp (maxSteps:=1000000) +contextual -dsimp [f284,g1,g2,g3,hia,hid,hi,hse,q0,q2,List.set,a2l,e1,e3,e4,e8,e6]
      ·cases o1:eqI (on:Int) 1
       ·simp (maxSteps:=1000000) +contextual -dsimp [f284,g1,g2,g3,hia,hi,hse,q0,q2,List.set,a2l,e1,e3,e4,e8,o1]
       ·have hpos:0 < ks.length:=hl0 (by simp [eqI] at o1; omega)
        obtain ⟨a,ka,hla⟩:=hk (ks[0]) (List.getElem_mem _)
        have hs0:A3 ks 0=ks[0]:=a1a hpos
        have hs1:A3 c.acts (a:Int)=c.acts[a]:=a1a hla
        simp (maxSteps:=1000000) +contextual -dsimp [f284,g1,g2,g3,hia,hid,hi,hse,q0,q2,List.set,a2l,e1,e3,e4,e8,o1,hpos,hs0,ka,hs1,hla]
     ·cases o1:eqI (on:Int) 0
      ·cases o2:eqI ((on:Int)+ov) ks.length
       ·simp (maxSteps:=1000000) +contextual -dsimp [f284,g1,g2,g3,hia,hi,hse,q0,q2,hw,List.set,a2l,e1,e3,e4,o1,o2]
       ·simp (maxSteps:=1000000) +contextual -dsimp [f284,g1,g2,g3,hia,hid,hi,hse,q0,q2,hw,List.set,a2l,e1,e3,e4,o1,o2]
      ·simp (maxSteps:=1000000) +contextual -dsimp [f284,g1,g2,g3,hia,hi,hse,q0,q2,List.set,a2l,e1,e3,e4,o1]
    ·cases o1:eqI (on:Int) 1
     ·simp (maxSteps:=1000000) +contextual -dsimp [f284,g1,g2,g3,hia,hi,hse,q0,q2,List.set,a2l,e1,e3,o1]
     ·simp (maxSteps:=1000000) +contextual -dsimp [f284,g1,g2,g3,hia,hid,hi,hse,q0,q2,List.set,a2l,e1,e3,o1]
   ·cases o1:eqI (on:Int) 1
    ·simp (maxSteps:=1000000) +contextual -dsimp [f284,g1,g2,g3,hia,hi,hse,q0,q2,List.set,a2l,e1,o1]
    ·simp (maxSteps:=1000000) +contextual -dsimp [f284,g1,g2,g3,hia,hid,hi,hse,q0,q2,List.set,a2l,e1,o1]
 ·have q2:eqI c.acts[i] 1=false:=by simp [eqI] at q0 ⊢; omega
  rcases he with he | ⟨he,a,p2,p1,p3⟩
  ·simp (maxSteps:=1000000) +contextual -dsimp [f284,g1,g2,g3,hia,hi,hse,he,q0,List.set]
  ·rw [p3]
   cases q3:eqI (l[a].kind) 4
   ·simp (maxSteps:=1000000) +contextual -dsimp [f284,g1,g2,g3,hia,hi,hse,he,p1,p2,q0,q3,List.set]
   ·simp (maxSteps:=1000000) +contextual -dsimp [f284,g1,g2,g3,hia,hid,hi,hse,he,p1,p2,q0,q2,q3,hw,List.set]
theorem d7k (l:List Step):∀ (f i:Nat),i+f=l.length→a0t l f i=0→∀ k,i≤k→k < l.length→condFaultM l k=0
 | 0,i,h,_,k,h1,h2=>by omega
 | f+1,i,h,hz,k,h1,h2=>by
  unfold a0t at hz
  split at hz
  ·rename_i c; rw [hz] at c; simp [A0,eqI] at c
  ·rename_i c
   rcases Nat.lt_or_ge i k with h' | h'
   ·exact d7k l f (i+1) (by omega) hz k h' h2
   ·have e:k=i:=by omega
    subst e; simpa [A0,eqI] using c
structure ProcOk (l:List Step):Prop where
 pos:1≤l.length
 le:l.length≤24
 par:∀ (k:Nat) (h:k < l.length),0 < k→∃ a:Nat,(l[k]).parent=a∧a < k
 par0:∀ (h:0 < l.length),(l[0]).parent=-1
 cond:∀ k,k < l.length→condFaultM l k=0
theorem b7j {l:List Step} (h:O3 l=0):ProcOk l:=by
 unfold O3 at h
 split at h
 ·simp at h
 ·rename_i c1
  have hl:1≤l.length∧l.length≤24:=by simp [A0,inR,A2,leI] at c1; omega
  split at h
  ·rename_i c2; rw [h] at c2; simp [A0,eqI] at c2
  ·rename_i c2
   have c2:(M6 l [] []).1=0:=by simpa [A0,eqI] using c2
   split at h
   ·rename_i c3; rw [h] at c3; simp [A0,eqI] at c3
   ·rename_i c3
    have c3:a0t l l.length 0=0:=by simpa [A0,eqI] using c3
    have hpar:=c1o (rest:=l) (list:=[]) (deep:=[]) (fun k h=>by simp at h) rfl (by simp) c2
    refine ⟨hl.1,hl.2,fun k hk h0=>?_,fun h0=>?_,fun k hk=>d7k l l.length 0 (by omega) c3 k (Nat.zero_le _) hk⟩
    ·have:=hpar k l[k] (by simp [hk])
     simp at this
     obtain ⟨a,ha⟩:=Int.eq_ofNat_of_zero_le (this.2.2 h0)
     exact ⟨a,ha,by omega⟩
    ·have:=hpar 0 l[0] (by simp [h0])
     simp at this
     omega
def a0q (l:List Step) (c:Chart):Nat→Nat→Bool
 | 0,_=>true
 | f+1,i=>if a6s l c i=true then a0q l c f (i+1) else false
theorem f3z (l:List Step) (hl:l.length≤24) (c:Chart) (ha:c.acts.length=l.length) (hd:c.dues.length=l.length) (hp:∀ (i:Nat) (h:i < l.length),0 < i→∃ a:Nat,(l[i]).parent=a∧a < l.length):∀ (f i:Nat),i+f=l.length→
    A5 E (orc E) (245:Nat) (f+1) (B3 f245 0) ⟨45,[(0,.ipt (bT l c)),(28,vI l.length),(29,vI i)],[],2⟩=
    (if a0q l c f i = true then some (.exit 0, ⟨45, [(0, .ipt (bT l c)), (28, vI l.length), (29, vI l.length), (30, vB false)], [], 2⟩)
     else some (.ret,⟨45,[(2,vB false)],[],2⟩))
  | 0,i,h=>by
    have e:i=l.length:=by omega
    subst e
    have hlt:ltI (l.length:Int) (l.length:Int)=false:=B7 (by omega)
    rw [C2]
    simp +contextual -dsimp [f245,hlt,a0q]
  | f+1,i,h=>by
    have hi:i < l.length:=by omega
    have hlt:ltI (i:Int) (l.length:Int)=true:=C5 (by omega)
    have hw:IntKind.i64.wrap ((i:Int)+1)=((i+1:Nat):Int):=by rw [A6] <;> omega
    have g:=h4g l hl c ha hd i hi (hp i hi)
    cases q:a6s l c i
    · have hm : a0q l c (f + 1) i = false := by simp [a0q, q]
      rw [hm,if_neg (by simp)]
      refine D6 ?_ (by simp)
      simp (maxSteps:=1000000) +contextual -dsimp [f245,hlt,g,q]
    · have ih := f3z l hl c ha hd hp f (i + 1) (by omega)
      have hm:a0q l c (f+1) i=a0q l c f (i+1):=by simp [a0q,q]
      rw [hm]
      refine C0 ?_ ih
      simp (maxSteps:=1000000) +contextual -dsimp [f245,hlt,g,q,hw]
def smS (m:Int) (l:List Int):Bool:=A0 (Q4 (a1m m) l)
theorem b8n (l:List Int) (hl:l.length < 2 ^ 62) (m:Int):fo 244 [A (iS l),A (vI m)]=some (R (vB (smS m l))):=f9n l hl m
def b1a (l:List Step) (c:Chart):Bool:=
 if A0 (eqI c.status 1)=true then A2 (smS 0 c.acts) (smS 0 c.dues)
 else if a0q l c l.length 0=true then eqI (A3 c.acts 0) 1 else false
theorem f8p (l:List Step) (hl0:0 < l.length) (hl:l.length≤24) (c:Chart) (ha:c.acts.length=l.length) (hd:c.dues.length=l.length) (hp:∀ (i:Nat) (h:i < l.length),0 < i→∃ a:Nat,(l[i]).parent=a∧a < l.length):
  fo 245 [A (.ipt (bT l c))]=some (R (vB (b1a l c))):=by
 have g1:=b8n c.acts (by omega) 0
 have g2:=b8n c.dues (by omega) 0
 have hlp:=f3z l hl c ha hd hp l.length 0 (by omega)
 have ha0:0 < c.acts.length:=by omega
 have hs:A3 c.acts 0=c.acts[0]:=a1a ha0
 unfold b1a
 refine g9p (l.length+1) ?_
 simp -dsimp [f245] at hlp
 cases q1:eqI c.status 1
 ·simp (maxSteps:=1000000) +contextual -dsimp [f245,q1,g1,g2]
 ·cases q2:a0q l c l.length 0
  ·rw [q2] at hlp
   simp (maxSteps:=1000000) +contextual -dsimp [f245,q1,hlp]
  ·rw [q2] at hlp
   simp (maxSteps:=1000000) +contextual -dsimp [f245,q1,hlp,ha0,hs]
structure FitC (c:Chart):Prop where
 vars:c.vars.length < 2 ^ 62
 acts:c.acts.length < 2 ^ 62
 dues:c.dues.length < 2 ^ 62
def a5j (l:List Step) (c:Chart):Int:=
 C4 (O3 l) (C4 (ci (orB (A0 (inR c.status 1 3)) (A0 (inR c.now 0 1000000))) 3) (C4 (a2k c.vars) (ci (orB (A0 (eqI c.acts.length l.length)) (A0 (eqI c.dues.length l.length))) 2)))
def chartM (l:List Step) (c:Chart):Int:=
 if A0 (eqI (a5j l c) 0)=true then a5j l c
 else if orB (A0 (smS 2 c.acts)) (A0 (smS (c.now+99) c.dues))=true then 3
 else ci (A0 (b1a l c)) 1
theorem b1y {b:Bool} {k:Int} (hk:k≠0) (h:ci b k=0):b=false:=by
 cases b
 ·rfl
 ·exact absurd h (by simpa [ci] using hk)
theorem b5p {l:List Step} {c:Chart} (h:a5j l c=0):O3 l=0∧(1≤c.status∧c.status≤3)∧(0≤c.now∧c.now≤1000000)∧a2k c.vars=0∧c.acts.length=l.length∧c.dues.length=l.length:=by
 unfold a5j at h
 obtain ⟨h1,h2⟩:=a0a h
 obtain ⟨h3,h4⟩:=a0a h2
 obtain ⟨h5,h6⟩:=a0a h4
 have h3:=b1y (by omega) h3
 have h6:=b1y (by omega) h6
 simp [orB,A0,inR,A2,leI,eqI] at h3 h6
 exact ⟨h1,by omega,by omega,h5,by omega,by omega⟩
theorem c8o (l:List Step) (hl:l.length < 2 ^ 62) (hf:∀ s,s∈l→FitS s) (c:Chart) (hc:FitC c):
  fo 186 [A (.sl 124 (l.map (sT 219))),A (.agg (cT c))]=some (R (vI (chartM l c))):=by
 have g1:=c9y l hl hf
 have g2:=f8n c.vars hc.vars
 have g3:=g5g (O3 l) (ci (orB (A0 (inR c.status 1 3)) (A0 (inR c.now 0 1000000))) 3) (a2k c.vars) (ci (orB (A0 (eqI c.acts.length l.length)) (A0 (eqI c.dues.length l.length))) 2)
 have g4:=b8n c.acts hc.acts 2
 have g5:=b8n c.dues hc.dues (c.now+99)
 refine g8g 1 ?_
 cases q1:eqI (a5j l c) 0
 ·have q1':=q1
  unfold a5j at q1'
  simp (maxSteps:=1000000) +contextual -dsimp [f186,g1,g2,g3,D7,b0b,P5,q1',chartM,a5j,List.set]
 ·have e0:a5j l c=0:=by simpa [eqI] using q1
  obtain ⟨z1,z2,z3,z4,z5,z6⟩:=b5p e0
  have ok:=b7j z1
  have hw:IntKind.i64.wrap (c.now+99)=c.now+99:=by rw [A6] <;> omega
  have g6:=f8p l (by have:=ok.pos; omega) ok.le c z5 z6 (fun i hi h0=>by
   obtain ⟨a,h1,h2⟩:=ok.par i hi h0
   exact ⟨a,h1,by omega⟩)
  have e0':=e0
  unfold a5j at e0'
  cases q2:smS 2 c.acts
  ·simp (maxSteps:=1000000) +contextual -dsimp [f186,g1,g2,g3,g4,D7,b0b,P5,e0',e0,C1,q2,chartM,List.set]
  ·cases q3:smS (c.now+99) c.dues
   ·simp (maxSteps:=1000000) +contextual -dsimp [f186,g1,g2,g3,g4,g5,D7,b0b,P5,e0',e0,C1,q2,q3,hw,chartM,List.set]
   ·simp (maxSteps:=1000000) +contextual -dsimp [f186,g1,g2,g3,g4,g5,g6,D7,b0b,P5,e0',e0,C1,q2,q3,hw,chartM,List.set]
def U4 {α σ ε:Type} (g:Nat→σ→α→ε ⊕ σ):Nat→σ→List α→ε ⊕ σ
 | _,s,[]=>.inr s
 | i,s,x::r=>match g i s x with | .inr s'=>U4 g (i+1) s' r | .inl e=>.inl e
def b1b {σ ε:Type} (id:Nat) (Z:σ→St) (X:ε→St→Prop) (r:Option (Ex × St)):ε ⊕ σ→Prop
 | .inr s=>r=some (.exit id,Z s)
 | .inl e=>∃ st,r=some (.ret,st)∧X e st
theorem b3p {α σ ε:Type} {f id:Nat} {code:Code} (all:List α) (I:Nat→σ→Prop) (S:Nat→σ→St) (g:Nat→σ→α→ε ⊕ σ) (Z:σ→St) (X:ε→St→Prop)
  (hz:∀ k s,I all.length s→B6 E (orc E) f (A5 E (orc E) f k) code (S all.length s)=some (.exit id,Z s))
  (hs:∀ k i s (h:i < all.length),I i s→(∀ s',g i s all[i]=.inr s'→B6 E (orc E) f (A5 E (orc E) f k) code (S i s)=some (.normal,S (i+1) s')∧I (i+1) s')∧
   (∀ e,g i s all[i]=.inl e→∃ st,B6 E (orc E) f (A5 E (orc E) f k) code (S i s)=some (.ret,st)∧X e st)):
  ∀ (rest:List α) (i:Nat) (s:σ),all.drop i=rest→i≤all.length→I i s→
   b1b id Z X (A5 E (orc E) f (rest.length+1) code (S i s)) (U4 g i s rest)
 | [],i,s,h,hi,hI=>by
  have e:i=all.length:=by have:=List.drop_eq_nil_iff.1 h; omega
  subst e
  exact D6 (hz _ s hI) (by simp)
 | x::rest,i,s,h,hi,hI=>by
  obtain ⟨hi,hc,hr⟩:=C8 h
  obtain ⟨h1,h2⟩:=hs (rest.length+1) i s hi hI
  unfold U4
  rw [hc] at h1 h2
  cases q:g i s x with
  | inr s'=>
   obtain ⟨g1,g2⟩:=h1 s' q
   have ih:=b3p all I S g Z X hz hs rest (i+1) s' hr hi g2
   rw [← C0 (E:=E) (call:=orc E) g1 rfl] at ih
   exact ih
  | inl e=>
   obtain ⟨st,g1,g2⟩:=h2 e q
   exact ⟨st,D6 g1 (by simp),g2⟩
def N5 {α σ:Type} (g:Nat→σ→α→σ):Nat→σ→List α→σ
 | _,s,[]=>s
 | i,s,x::r=>N5 g (i+1) (g i s x) r
theorem f0e {α σ ε:Type} (g:Nat→σ→α→σ):∀ (l:List α) (i:Nat) (s:σ),U4 (ε:=ε) (fun i s x=>.inr (g i s x)) i s l=.inr (N5 g i s l)
 | [],_,_=>rfl
 | x::l,i,s=>by simp only [U4,N5]; exact f0e g l (i+1) (g i s x)
theorem a4e {α σ:Type} {f id:Nat} {code:Code} (all:List α) (I:Nat→σ→Prop) (S:Nat→σ→St) (g:Nat→σ→α→σ) (Z:σ→St)
  (hz:∀ k s,I all.length s→B6 E (orc E) f (A5 E (orc E) f k) code (S all.length s)=some (.exit id,Z s))
  (hs:∀ k i s (h:i < all.length),I i s→B6 E (orc E) f (A5 E (orc E) f k) code (S i s)=some (.normal,S (i+1) (g i s all[i]))∧I (i+1) (g i s all[i])) (s0:σ) (h0:I 0 s0):
  A5 E (orc E) f (all.length+1) code (S 0 s0)=some (.exit id,Z (N5 g 0 s0 all)):=by
 have:=b3p (f:=f) (id:=id) (code:=code) (ε:=Empty) all I S (fun i s x=>.inr (g i s x)) Z (fun e _=>nomatch e) hz
  (fun k i s h hI=>⟨fun s' he=>by simp only [Sum.inr.injEq] at he; subst he; exact hs k i s h hI,fun e=>nomatch e⟩) all 0 s0 rfl (Nat.zero_le _) h0
 rw [f0e] at this
 exact this
theorem N6 {i n:Nat} (h:i < n) (hn:n < 2 ^ 62):IntKind.i64.wrap ((i:Int)+1)=((i+1:Nat):Int):=by rw [A6] <;> omega
theorem O4 {i n:Nat} (h:i < n):ltI (i:Int) (n:Int)=true:=C5 (by omega)
theorem a2m (n:Nat):ltI (n:Int) (n:Int)=false:=B7 (by omega)
theorem f4z (b:Bool):ci b 1=0∨ci b 1=1:=by cases b <;> simp [ci]
def M8 (k a b:Int):Int:=
 if eqI k 3=true then a+b else if eqI k 4=true then a - b else if eqI k 5=true then a*b else if eqI k 6=true then Int.tdiv a b
 else if eqI k 7=true then ci (ltI a b) 1 else if eqI k 8=true then ci (eqI a b) 1 else if eqI k 9=true then a*b else 1 - a
def M9 (k b:Int):Bool:=A2 (eqI k 6) (eqI b 0)
def P3 (vars acc:List Int) (n:Node):Int:=
 if eqI n.kind 1=true then n.value else if eqI n.kind 2=true then A3 vars n.value else M8 n.kind (A3 acc n.left) (A3 acc n.right)
def b7k (vars acc:List Int) (n:Node):Bool:=orB (M9 n.kind (A3 acc n.right)) (badV (P3 vars acc n))
def evG (vars:List Int) (_:Nat) (acc:List Int) (n:Node):Unit ⊕ List Int:=if b7k vars acc n=true then .inl () else .inr (acc++[P3 vars acc n])
def a3e (l:List Node) (vars:List Int):Option Int:=match U4 (evG vars) 0 [] l with | .inr acc=>some (A3 acc ((l.length:Int) - 1)) | .inl _=>none
section
variable (P:Program) (t:TypeId) (x y:Operand)
theorem f0f (k:IntKind) (a b:Int):D5 P (do eqGuard .mul t x y (.int k a) (.int k b); binOp .mul t (.int k a) (.int k b))=some (.int k (k.wrap (a*b))):=by cases k <;> rfl
theorem g5m:D5 P (do eqGuard .and t x y (.int .i64 0) (.int .i64 0); binOp .and t (.int .i64 0) (.int .i64 0))=some (.int .i64 0):=by rfl
theorem g5n:D5 P (do eqGuard .and t x y (.int .i64 0) (.int .i64 1); binOp .and t (.int .i64 0) (.int .i64 1))=some (.int .i64 0):=by rfl
theorem g5o:D5 P (do eqGuard .and t x y (.int .i64 1) (.int .i64 0); binOp .and t (.int .i64 1) (.int .i64 0))=some (.int .i64 0):=by rfl
theorem g5p:D5 P (do eqGuard .and t x y (.int .i64 1) (.int .i64 1); binOp .and t (.int .i64 1) (.int .i64 1))=some (.int .i64 1):=by rfl
theorem c4w (a b:Int) (h:b≠0):D5 P (do eqGuard .quo t x y (.int .i64 a) (.int .i64 b); binOp .quo t (.int .i64 a) (.int .i64 b))=some (.int .i64 (IntKind.i64.wrap (Int.tdiv a b))):=by
 unfold binOp
 simp [eqGuard,h,Op.intDiv]
 rfl
end
end Go.TM.Ft
