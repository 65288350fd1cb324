/- What functions of the program come to, by the machine. -/
import Derived.Test.YtldklhcklkaplaaGreatDoorTL3
import Derived.Test.YtldklhcklkaplaaGreatDoorTL2
set_option linter.unusedSimpArgs false
set_option linter.unusedVariables false
set_option maxHeartbeats 4000000
namespace Go.TM.It
open Go Go.TM Go.Proofs
set_option maxRecDepth 20000
attribute [local congr] gif_cg
attribute [local simp] footOf noClash clash upsets setsHit setHits layHits layMeets setsMeet evFeet
def onesM (l:List Step):Nat→List Step→Int
 | _,[]=>0
 | i,s::r=>if eqI (one4M l i s) 0=true then onesM l (i+1) r else one4M l i s
theorem one4_par {l:List Step} {i:Nat} {s:Step} (h:eqI (one4M l i s) 0=true):par4 s i=false:=by
 unfold one4M at h
 split at h
 ·simp[eqI] at h
 ·split at h
  ·simp[eqI] at h
  ·rename_i c;simpa using c
abbrev FitX (l:List Step):Prop:=∀ s,s∈l→s.name.size<2 ^ 62∧s.cond.length<2 ^ 62∧s.expr.length<2 ^ 62
theorem loop16a (all:List Step) (hall:all.length≤24) (hf:FitX all):∀ (rest:List Step) (i:Nat),all.drop i=rest→Ahead all i→
  evLoop E (orc E) (78:Nat) (rest.length+1) (loopOf Tryz.f78 0) ⟨58,[(0,.sl 112 (all.map (sT 206))),(3,vI i)],[],2⟩=
  (if eqI (onesM all i rest) 0=true then some (.exit 0,⟨58,[(0,.sl 112 (all.map (sT 206))),(3,vI (i+rest.length:Nat)),(20,vB false)],[],2⟩) else some (.ret,⟨58,[(2,vI (onesM all i rest))],[],2⟩))
 | [],i,h,_=>by
  have hge:all.length≤i:=by simpa using h
  have hlt:ltI (i:Int) (all.length:Int)=false:=ltI_f (by omega)
  rw[loop_eq]
  simp +contextual -dsimp [Tryz.f78,hlt,onesM,eqI]
 | s::rest,i,h,ha=>by
  obtain⟨hi,hc,hr⟩:=drop_cons h
  have hlt:ltI (i:Int) (all.length:Int)=true:=ltI_t (by omega)
  have hw:IntKind.i64.wrap ((i:Int)+1)=((i+1:Nat):Int):=by rw[wrapI]<;>omega
  have he:i+1+rest.length=i+(rest.length+1):=by omega
  have hs:=hf s (by rw[←hc];exact List.getElem_mem _)
  have g:=f_l4One all hall i hi ha (by rw[hc];exact hs.1) (by rw[hc];exact hs.2.2)
  rw[hc] at g
  cases c:eqI (one4M all i s) 0
  ·have hm:onesM all i (s::rest)=one4M all i s:=by simp[onesM,c]
   rw[hm,c,if_neg (by simp)]
   refine evLoop_out ?_ (by simp)
   simp (maxSteps:=1000000) +contextual -dsimp [Tryz.f78,hlt,g,c]
  ·have ha2:Ahead all (i+1):=fun k hk hk2=>by
    by_cases e:k=i
    ·subst e;rw[hc];exact par4_ok (one4_par c)
    ·exact ha k hk (by omega)
   have ih:=loop16a all hall hf rest (i+1) hr ha2
   rw[he] at ih
   have hm:onesM all i (s::rest)=onesM all (i+1) rest:=by simp[onesM,c]
   rw[hm]
   refine evLoop_next ?_ (by simpa only[List.length_cons] using ih)
   simp (maxSteps:=1000000) +contextual -dsimp [Tryz.f78,hlt,hw,g,c]
def typOne (s:Step):Int:=if eqI (typed4M s.cond 2) 0=true then typed4M s.expr 1 else typed4M s.cond 2
def typsM:List Step→Int
 | []=>0
 | s::r=>if eqI (typOne s) 0=true then typsM r else typOne s
theorem loop16b (all:List Step) (hall:all.length≤24) (hf:FitX all):∀ (rest:List Step) (i:Nat),all.drop i=rest→
  evLoop E (orc E) (78:Nat) (rest.length+1) (loopOf Tryz.f78 1) ⟨58,[(0,.sl 112 (all.map (sT 206))),(6,vI i)],[],2⟩=
  (if eqI (typsM rest) 0=true then some (.exit 2,⟨58,[(0,.sl 112 (all.map (sT 206))),(6,vI (i+rest.length:Nat)),(37,vB false)],[],2⟩) else some (.ret,⟨58,[(2,vI (typsM rest))],[],2⟩))
 | [],i,h=>by
  have hge:all.length≤i:=by simpa using h
  have hlt:ltI (i:Int) (all.length:Int)=false:=ltI_f (by omega)
  rw[loop_eq]
  simp +contextual -dsimp [Tryz.f78,hlt,typsM,eqI]
 | s::rest,i,h=>by
  obtain⟨hi,hc,hr⟩:=drop_cons h
  have hlt:ltI (i:Int) (all.length:Int)=true:=ltI_t (by omega)
  have hw:IntKind.i64.wrap ((i:Int)+1)=((i+1:Nat):Int):=by rw[wrapI]<;>omega
  have he:i+1+rest.length=i+(rest.length+1):=by omega
  have hs:=hf s (by rw[←hc];exact List.getElem_mem _)
  have g1:=f_l4Typed s.cond hs.2.1 2
  have g2:=f_l4Typed s.expr hs.2.2 1
  cases c:eqI (typOne s) 0
  ·have hm:typsM (s::rest)=typOne s:=by simp[typsM,c]
   rw[hm,c,if_neg (by simp)]
   refine evLoop_out ?_ (by simp)
   cases c1:eqI (typed4M s.cond 2) 0
   ·simp (maxSteps:=1000000) +contextual -dsimp [Tryz.f78,hlt,hi,hc,g1,c1,typOne]
   ·have c2:eqI (typed4M s.expr 1) 0=false:=by simpa[typOne,c1] using c
    simp (maxSteps:=1000000) +contextual -dsimp [Tryz.f78,hlt,hi,hc,g1,g2,c1,c2,typOne]
  ·have ih:=loop16b all hall hf rest (i+1) hr
   rw[he] at ih
   have hm:typsM (s::rest)=typsM rest:=by simp[typsM,c]
   rw[hm]
   refine evLoop_next ?_ (by simpa only[List.length_cons] using ih)
   cases c1:eqI (typed4M s.cond 2) 0
   ·rw[typOne,c1] at c;simp[c1] at c
   ·have c2:eqI (typed4M s.expr 1) 0=true:=by simpa[typOne,c1] using c
    simp (maxSteps:=1000000) +contextual -dsimp [Tryz.f78,hlt,hi,hc,hw,g1,g2,c1,c2]
def fault4M (l:List Step):Int:=
 if orB (ltI l.length 1) (ltI 24 l.length)=true then 2
 else if eqI (onesM l 0 l) 0=true then (if eqI (shapeM l 0 l) 0=true then typsM l else shapeM l 0 l) else onesM l 0 l
theorem ones_all {l:List Step}:∀ {r:List Step} {i:Nat},eqI (onesM l i r) 0=true→∀ (k:Nat) (s:Step),r[k]?=some s→eqI (one4M l (i+k) s) 0=true
 | [],i,_,k,n,h=>by simp at h
 | x::r,i,hz,k,s,h=>by
  unfold onesM at hz
  split at hz
  ·rename_i hc
   cases k with
   | zero=>simp at h;subst h;exact hc
   | succ k=>
    have:=ones_all hz k s (by simpa using h)
    have e:i+1+k=i+(k+1):=by omega
    rw[←e];exact this
  ·rename_i hc;exact absurd hz hc
theorem ones_par {l:List Step} (h:eqI (onesM l 0 l) 0=true):∀ k (_hk:k<l.length),-1≤parOf l k∧parOf l k<k:=fun k hk=>by
 have:=par4_ok (one4_par (ones_all h k l[k] (by simp[hk])))
 have e:parOf l k=(l[k]).parent:=by simp[parOf,hk]
 rw[e];omega
theorem f_l4Fault (l:List Step) (hl:l.length<2 ^ 62) (hf:FitX l):fo 78 [A (.sl 112 (l.map (sT 206)))]=some (R (vI (fault4M l))):=by
 cases c1:orB (ltI l.length 1) (ltI 24 l.length)
 ·have hl2:1≤l.length∧l.length≤24:=by simp[orB,ltI] at c1;omega
  have ha:=loop16a l hl2.2 hf l 0 rfl (fun k _ h=>absurd h (by omega))
  have hb:=loop16b l hl2.2 hf l 0 rfl
  simp -dsimp [Tryz.f78] at ha hb
  refine orc_78 (l.length+1) ?_
  cases c2:eqI (onesM l 0 l) 0
  ·rw[c2] at ha
   simp (maxSteps:=1000000) +contextual -dsimp [Tryz.f78,c1,c2,ha,fault4M]
  ·rw[c2] at ha
   have g:=f_l4Shape l hl2.2 (fun k hk=>by have:=ones_par c2 k hk;omega) (fun s hs=>(hf s hs).2.1)
   cases c3:eqI (shapeM l 0 l) 0
   ·simp (maxSteps:=1000000) +contextual -dsimp [Tryz.f78,c1,c2,c3,ha,g,fault4M]
   ·cases c4:eqI (typsM l) 0
    ·rw[c4] at hb
     simp (maxSteps:=1000000) +contextual -dsimp [Tryz.f78,c1,c2,c3,ha,hb,g,fault4M]
    ·rw[c4] at hb
     have e4:typsM l=0:=by simpa[eqI] using c4
     simp (maxSteps:=1000000) +contextual -dsimp [Tryz.f78,c1,c2,c3,e4,ha,hb,g,fault4M]
 ·refine orc_78 1 ?_
  simp (maxSteps:=1000000) +contextual -dsimp [Tryz.f78,c1,fault4M]
def procA:List Step→List Int→List Int→Int×List Int×List Int
 | [],list,deep=>(0,list,deep)
 | s::r,list,deep=>
  if notB (eqI (stepM s list deep) 0)=true then (stepM s list deep,(nextM list deep s.parent).2.1,(nextM list deep s.parent).2.2)
  else procA r (nextM list deep s.parent).2.1 (nextM list deep s.parent).2.2
structure FitS (s:Step):Prop where
 p1:-9223372036854775808≤s.parent
 p2:s.parent<9223372036854775808
 name:s.name.size<2 ^ 62
 cond:s.cond.length<2 ^ 62
 expr:s.expr.length<2 ^ 62
theorem step_next {s:Step} {list deep:List Int} (h:stepM s list deep=0) (ht:Tree list) (hd:deep.length=list.length) (hv:∀ d,d∈deep→0≤d∧d≤list.length):
  nextM list deep s.parent=(0,list++[s.parent],deep++[nextDeep deep s.parent])∧Tree (list++[s.parent])∧-1≤s.parent∧s.parent<list.length∧
   (∀ d,d∈deep++[nextDeep deep s.parent]→0≤d∧d≤(list++[s.parent]).length):=by
 have hz:stepA s list deep=0:=by
  unfold stepM at h
  split at h
  ·rename_i c;rw[h] at c;simp[notB,eqI] at c
  ·rename_i c;simpa[notB,eqI] using c
 have h1:=(first2_zero hz).2
 have hnx:nextM list deep s.parent=(0,list++[s.parent],deep++[nextDeep deep s.parent])∧nextBad list s.parent=false:=by
  unfold nextM at h1 ⊢
  split at h1
  ·simp at h1
  ·rename_i d1
   rw[if_neg d1]
   split at h1
   ·simp at h1
   ·rename_i d2
    rw[if_neg d2]
    exact⟨rfl,by simpa using d1⟩
 obtain⟨hnx,c1⟩:=hnx
 have hpr:-1≤s.parent∧s.parent<list.length:=by
  simp only[nextBad,orB,andB,notB,eqI,ltI,inR,leI,Bool.or_eq_false_iff,Bool.and_eq_false_iff,Bool.not_eq_false',beq_eq_false_iff_ne,beq_iff_eq,decide_eq_false_iff_not,decide_eq_true_eq,Bool.and_eq_true] at c1
  omega
 refine⟨hnx,fun k hk=>?_,hpr.1,hpr.2,fun d hdm=>?_⟩
 ·rcases Nat.lt_or_ge k list.length with h' | h'
  ·rw[List.getElem_append_left h'];exact ht k h'
  ·have:k=list.length:=by simp at hk;omega
   subst this
   simp
   exact hpr
 ·simp only[List.length_append,List.length_cons,List.length_nil]
  rcases List.mem_append.1 hdm with hdm | hdm
  ·have:=hv d hdm;omega
  ·simp only[List.mem_singleton] at hdm
   subst hdm
   unfold nextDeep
   split
   ·rename_i hp
    obtain⟨k,hk⟩:=Int.eq_ofNat_of_zero_le (show 0≤s.parent by simpa[leI] using hp)
    have hk2:k<deep.length:=by omega
    rw[hk]
    simp[hk2]
    have:=hv deep[k] (List.getElem_mem hk2)
    omega
   ·omega
theorem loop19a (all:List Step) (hall:all.length≤24) (hf:∀ s,s∈all→FitS s):∀ (rest:List Step) (i:Nat) (list deep:List Int),all.drop i=rest→Tree list→list.length=i→deep.length=list.length→(∀ d,d∈deep→0≤d∧d≤list.length)→
    evLoop E (orc E) (83:Nat) (rest.length+1) (loopOf Tryz.f83 0) ⟨61,[(0,.sl 112 (all.map (sT 206))),(3,.ptr 17 1 [] 0),(18,.sl 112 (all.map (sT 206))),(19,vI all.length),(20,vI i)],[(17,pR 1 1 list deep)],2⟩=
    (if eqI (procA rest list deep).1 0 = true then some (.exit 0, ⟨61, [(0, .sl 112 (all.map (sT 206))), (3, .ptr 17 1 [] 0), (18, .sl 112 (all.map (sT 206))), (19, vI all.length), (20, vI (i + rest.length : Nat)), (21, vB false)], [(17, pR 1 1 (procA rest list deep).2.1 (procA rest list deep).2.2)], 2⟩)
     else some (.ret,⟨61,[(2,vI (procA rest list deep).1)],[],2⟩))
  | [],i,list,deep,h,ht,hl,hd,hv=>by
    have hge:all.length≤i:=by simpa using h
    have hlt:ltI (i:Int) (all.length:Int)=false:=ltI_f (by omega)
    rw[loop_eq]
    simp +contextual -dsimp [Tryz.f83,hlt,procA,eqI_self]
  | s::rest,i,list,deep,h,ht,hl,hd,hv=>by
    obtain⟨hi,hc,hr⟩:=drop_cons h
    have hlt:ltI (i:Int) (all.length:Int)=true:=ltI_t (by omega)
    have hw:IntKind.i64.wrap ((i:Int)+1)=((i+1:Nat):Int):=by rw[wrapI]<;>omega
    have he:i+1+rest.length=i+(rest.length+1):=by omega
    have hs:=hf s (by rw[←hc];exact List.getElem_mem hi)
    have g:=f_stepFault s list deep hs.p1 hs.p2 ht (by omega) hd (fun d hdm=>by have:=hv d hdm;omega) hs.name hs.expr
    cases c:eqI (stepM s list deep) 0
    · have hm : (procA (s :: rest) list deep).1 = stepM s list deep := by simp [procA, c, notB]
      rw[hm,c,if_neg (by simp)]
      refine evLoop_out ?_ (by simp)
      simp (maxSteps:=1000000) +contextual -dsimp [Tryz.f83,hlt,hi,hc,g,c,List.set]
    · obtain ⟨n1, n2, n3, n4, n5⟩ := step_next (by simpa [eqI] using c) ht hd hv
      have ih:=loop19a all hall hf rest (i+1) (list++[s.parent]) (deep++[nextDeep deep s.parent]) hr n2 (by simp;omega) (by simp;omega) n5
      rw[he] at ih
      have hm:procA (s::rest) list deep=procA rest (list++[s.parent]) (deep++[nextDeep deep s.parent]):=by simp[procA,c,notB,n1]
      rw[hm]
      rw[n1] at g
      refine evLoop_next ?_ (by simpa only[List.length_cons] using ih)
      simp (maxSteps:=1000000) +contextual -dsimp [Tryz.f83,hlt,hi,hc,hw,g,c,List.set]
def procB (l:List Step):Nat→Nat→Int
 | 0,_=>0
 | f+1,i=>if notB (eqI (condFaultM l i) 0)=true then condFaultM l i else procB l f (i+1)
theorem loop19b (l:List Step) (hl:l.length≤24) (hp:∀ k,0<k→k<l.length→0≤parOf l k∧parOf l k<l.length) (hc:∀ k,(condOf l k).length<2 ^ 62):∀ (f i:Nat),i+f=l.length→
    evLoop E (orc E) (83:Nat) (f+1) (loopOf Tryz.f83 1) ⟨61,[(0,.sl 112 (l.map (sT 206))),(32,vI l.length),(33,vI i)],[],2⟩=
    (if eqI (procB l f i) 0 = true then some (.exit 2, ⟨61, [(0, .sl 112 (l.map (sT 206))), (32, vI l.length), (33, vI l.length), (34, vB false)], [], 2⟩)
     else some (.ret,⟨61,[(2,vI (procB l f i))],[],2⟩))
  | 0,i,h=>by
    have e:i=l.length:=by omega
    subst e
    have hlt:ltI (l.length:Int) (l.length:Int)=false:=ltI_f (by omega)
    rw[loop_eq]
    simp +contextual -dsimp [Tryz.f83,hlt,procB,eqI_self]
  | f+1,i,h=>by
    have hi:i<l.length:=by omega
    have hlt:ltI (i:Int) (l.length:Int)=true:=ltI_t (by omega)
    have hw:IntKind.i64.wrap ((i:Int)+1)=((i+1:Nat):Int):=by rw[wrapI]<;>omega
    have g:=f_condFault l (by omega) i hi (fun h0=>hp i h0 hi) (hc i)
    cases c:eqI (condFaultM l i) 0
    · have hm : procB l (f + 1) i = condFaultM l i := by simp [procB, c, notB]
      rw[hm,c,if_neg (by simp)]
      refine evLoop_out ?_ (by simp)
      simp (maxSteps:=1000000) +contextual -dsimp [Tryz.f83,hlt,g,c]
    · have ih := loop19b l hl hp hc f (i + 1) (by omega)
      have hm:procB l (f+1) i=procB l f (i+1):=by simp[procB,c,notB]
      rw[hm]
      refine evLoop_next ?_ ih
      simp (maxSteps:=1000000) +contextual -dsimp [Tryz.f83,hlt,hw,g,c]
def procC:List Step→Int
 | []=>0
 | s::r=>if notB (eqI (first2 (typeFaultM s.cond 2) (typeFaultM s.expr 1)) 0)=true then first2 (typeFaultM s.cond 2) (typeFaultM s.expr 1) else procC r
theorem loop19c (all:List Step) (hall:all.length≤24) (hf:∀ s,s∈all→FitS s):∀ (rest:List Step) (i:Nat),all.drop i=rest→
    evLoop E (orc E) (83:Nat) (rest.length+1) (loopOf Tryz.f83 2) ⟨61,[(43,.sl 112 (all.map (sT 206))),(44,vI all.length),(45,vI i)],[],2⟩=
    (if eqI (procC rest) 0 = true then some (.exit 4, ⟨61, [(43, .sl 112 (all.map (sT 206))), (44, vI all.length), (45, vI (i + rest.length : Nat)), (46, vB false)], [], 2⟩)
     else some (.ret,⟨61,[(2,vI (procC rest))],[],2⟩))
  | [],i,h=>by
    have hge:all.length≤i:=by simpa using h
    have hlt:ltI (i:Int) (all.length:Int)=false:=ltI_f (by omega)
    rw[loop_eq]
    simp +contextual -dsimp [Tryz.f83,hlt,procC,eqI_self]
  | s::rest,i,h=>by
    obtain⟨hi,hc,hr⟩:=drop_cons h
    have hlt:ltI (i:Int) (all.length:Int)=true:=ltI_t (by omega)
    have hw:IntKind.i64.wrap ((i:Int)+1)=((i+1:Nat):Int):=by rw[wrapI]<;>omega
    have he:i+1+rest.length=i+(rest.length+1):=by omega
    have hs:=hf s (by rw[←hc];exact List.getElem_mem hi)
    have g1:=f_typeFault s.cond hs.cond 2
    have g2:=f_typeFault s.expr hs.expr 1
    cases c:eqI (first2 (typeFaultM s.cond 2) (typeFaultM s.expr 1)) 0
    · have hm : procC (s :: rest) = first2 (typeFaultM s.cond 2) (typeFaultM s.expr 1) := by simp [procC, c, notB]
      rw[hm,c,if_neg (by simp)]
      refine evLoop_out ?_ (by simp)
      simp (maxSteps:=1000000) +contextual -dsimp [Tryz.f83,f_first2,hlt,hi,hc,g1,g2,c,List.set]
    · have ih := loop19c all hall hf rest (i + 1) hr
      rw[he] at ih
      have hm:procC (s::rest)=procC rest:=by simp[procC,c,notB]
      rw[hm]
      refine evLoop_next ?_ (by simpa only[List.length_cons] using ih)
      simp (maxSteps:=1000000) +contextual -dsimp [Tryz.f83,f_first2,hlt,hi,hc,hw,g1,g2,c,List.set]
theorem step_zero {s:Step} {list deep:List Int} (h:stepM s list deep=0):nextBad list s.parent=false:=by
 have hz:stepA s list deep=0:=by
  unfold stepM at h
  split at h
  ·rename_i c;rw[h] at c;simp[notB,eqI] at c
  ·rename_i c;simpa[notB,eqI] using c
 have h1:=(first2_zero hz).2
 unfold nextM at h1
 split at h1
 ·simp at h1
 ·rename_i d1;simpa using d1
theorem procA_par:∀ {rest:List Step} {list deep:List Int},Tree list→deep.length=list.length→(∀ d,d∈deep→0≤d∧d≤list.length)→(procA rest list deep).1=0→
  ∀ (k:Nat) (s:Step),rest[k]?=some s→-1≤s.parent∧s.parent<(list.length+k:Nat)∧(0<list.length+k→0≤s.parent)
 | [],_,_,_,_,_,_,k,s,hk=>by simp at hk
 | x::rest,list,deep,ht,hd,hv,h,k,s,hk=>by
  cases c:eqI (stepM x list deep) 0
  ·have hm:(procA (x::rest) list deep).1=stepM x list deep:=by simp[procA,c,notB]
   rw[hm] at h;rw[h] at c;simp[eqI] at c
  ·have hz:stepM x list deep=0:=by simpa[eqI] using c
   obtain⟨n1,n2,n3,n4,n5⟩:=step_next hz ht hd hv
   have hm:procA (x::rest) list deep=procA rest (list++[x.parent]) (deep++[nextDeep deep x.parent]):=by simp[procA,c,notB,n1]
   rw[hm] at h
   cases k with
   | zero=>
    simp at hk;subst hk
    refine⟨n3,by simpa using n4,fun h0=>?_⟩
    have hb:=step_zero hz
    simp only[nextBad,orB,andB,notB,eqI,ltI,inR,leI,Bool.or_eq_false_iff,Bool.and_eq_false_iff,Bool.not_eq_false',beq_eq_false_iff_ne,beq_iff_eq,decide_eq_false_iff_not,decide_eq_true_eq,Bool.and_eq_true] at hb
    omega
   | succ k=>
    have:=procA_par n2 (by simp;omega) n5 h k s (by simpa using hk)
    simp only[List.length_append,List.length_cons,List.length_nil] at this
    have e:list.length+(0+1)+k=list.length+(k+1):=by omega
    rw[e] at this
    exact this
def procM (l:List Step):Int:=
 if notB (inR l.length 1 24)=true then 2
 else if notB (eqI (procA l [] []).1 0)=true then (procA l [] []).1
 else if notB (eqI (procB l l.length 0) 0)=true then procB l l.length 0
 else if notB (eqI (procC l) 0)=true then procC l else 0
theorem f_ProcFault (l:List Step) (hl:l.length<2 ^ 62) (hf:∀ s,s∈l→FitS s):fo 83 [A (.sl 112 (l.map (sT 206)))]=some (R (vI (procM l))):=by
 cases c1:inR l.length 1 24
 ·refine orc_83 1 ?_
  simp (maxSteps:=1000000) +contextual -dsimp [Tryz.f83,f_inRange,c1,procM]
 ·have hl2:1≤l.length∧l.length≤24:=by simp[inR,andB,leI] at c1;omega
  have ha:=loop19a l hl2.2 hf l 0 [] [] rfl (fun k h=>by simp at h) rfl rfl (by simp)
  refine orc_83 (l.length+1) ?_
  simp -dsimp [Tryz.f83,pR,iE] at ha
  cases c2:eqI (procA l [] []).1 0
  ·rw[c2] at ha
   simp (maxSteps:=1000000) +contextual -dsimp [Tryz.f83,f_inRange,c1,c2,ha,procM]
  ·have hpar:=procA_par (rest:=l) (list:=[]) (deep:=[]) (fun k h=>by simp at h) rfl (by simp) (by simpa[eqI] using c2)
   have hb:=loop19b l hl2.2 (fun k h0 hk=>by
    have:=hpar k l[k] (by simp[hk])
    have e:parOf l k=(l[k]).parent:=by simp[parOf,hk]
    rw[e]
    simp at this
    omega) (fun k=>by
    unfold condOf
    split
    ·rename_i s hs;exact (hf s (List.mem_of_getElem? hs)).cond
    ·simp) l.length 0 (by omega)
   have hcc:=loop19c l hl2.2 hf l 0 rfl
   rw[c2] at ha
   simp -dsimp [Tryz.f83] at hb hcc
   cases c3:eqI (procB l l.length 0) 0
   ·rw[c3] at hb
    simp (maxSteps:=1000000) +contextual -dsimp [Tryz.f83,f_inRange,c1,c2,c3,ha,hb,procM]
   ·rw[c3] at hb
    cases c4:eqI (procC l) 0
    ·rw[c4] at hcc
     simp (maxSteps:=1000000) +contextual -dsimp [Tryz.f83,f_inRange,c1,c2,c3,c4,ha,hb,hcc,procM]
    ·rw[c4] at hcc
     simp (maxSteps:=1000000) +contextual -dsimp [Tryz.f83,f_inRange,c1,c2,c3,c4,ha,hb,hcc,procM]
theorem kids_at {p:Int}:∀ {l:List Step} {i:Nat} {k:Int},k∈kidsM p i l→∃ a:Nat,k=a∧a<i+l.length
 | [],i,k,h=>by simp[kidsM] at h
 | x::l,i,k,h=>by
  unfold kidsM at h
  have tl:k∈kidsM p (i+1) l→∃ a:Nat,k=a∧a<i+(x::l).length:=fun h=>by
   obtain⟨a,h1,h2⟩:=kids_at h
   exact⟨a,h1,by simp;omega⟩
  split at h
  ·rcases List.mem_cons.1 h with rfl | h
   ·exact⟨i,rfl,by simp⟩
   ·exact tl h
  ·exact tl h
theorem kids_few (p:Int):∀ (l:List Step) (i:Nat),(kidsM p i l).length≤l.length
 | [],_=>Nat.le_refl _
 | s::l,i=>by
  have:=kids_few p l (i+1)
  unfold kidsM
  split
  ·simp;omega
  ·simp;omega
def fitsK (k:Int) (c:Chart) (on over:Int) (list:List Int) (due:Bool):Bool:=
 if orB (eqI k 1) (eqI k 3)=true then (if notB (eqI on 1)=true then false else eqB false due)
 else if eqI k 4=true then (if orB (eqI on 0) (notB (eqI (on+over) list.length))=true then false else eqB false due)
 else if eqI k 8=true then (if notB (eqI on 1)=true then false else eqB (eqI (szAt c.acts (szAt list 0)) 1) due)
 else if eqI k 6=true then eqB true due
 else if eqI k 7=true then false
 else eqB false due
def fitsM (l:List Step) (c:Chart) (i:Nat):Bool:=
 if andB (eqI (szAt c.acts i) 2) (orB (eqI i 0) (notB (eqI (kindOf l (parOf l i)) 4)))=true then false
 else if notB (eqI (szAt c.acts i) 1)=true then andB (eqI ((cntM c.acts 1 (kidsM i 0 l) 0:Nat)+(cntM c.acts 2 (kidsM i 0 l) 0:Nat)) 0) (eqI (szAt c.dues i) 0)
 else fitsK (kindOf l i) c (cntM c.acts 1 (kidsM i 0 l) 0:Nat) (cntM c.acts 2 (kidsM i 0 l) 0:Nat) (kidsM i 0 l) (notB (eqI (szAt c.dues i) 0))
theorem f_fits (l:List Step) (hl:l.length≤24) (c:Chart) (ha:c.acts.length=l.length) (hd:c.dues.length=l.length) (i:Nat) (hi:i<l.length) (hp:0<i→∃ a:Nat,(l[i]).parent=a∧a<l.length):
  fo 107 [A (.ipt (bT l c)),A (vI i)]=some (R (vB (fitsM l c i))):=by
 have g1:=f_kids l (by omega) i
 have hk:∀ k,k∈kidsM i 0 l→∃ a:Nat,k=a∧a<c.acts.length:=fun k h=>by
  obtain⟨a,h1,h2⟩:=kids_at h
  exact⟨a,h1,by omega⟩
 have hfew:=kids_few i l 0
 have g2:=f_count l c 1 (by omega) (kidsM i 0 l) (by omega) hk
 have g3:=f_count l c 2 (by omega) (kidsM i 0 l) (by omega) hk
 have hia:i<c.acts.length:=by omega
 have hid:i<c.dues.length:=by omega
 have hsa:szAt c.acts (i:Int)=c.acts[i]:=szAt_get hia
 have hsd:szAt c.dues (i:Int)=c.dues[i]:=szAt_get hid
 have hki:kindOf l i=(l[i]).kind:=by simp[kindOf,hi]
 have hpi:parOf l i=(l[i]).parent:=by simp[parOf,hi]
 have b1:=cnt_le c.acts 1 (kidsM i 0 l) 0
 have b2:=cnt_le c.acts 2 (kidsM i 0 l) 0
 have hse:=seal4_iE (kidsM i 0 l)
 unfold fitsM
 rw[hsa,hsd,hki,hpi]
 have hl0:cntM c.acts 1 (kidsM i 0 l) 0=1→0<(kidsM i 0 l).length:=fun h=>by omega
 generalize hon:cntM c.acts 1 (kidsM i 0 l) 0=on at *
 generalize hov:cntM c.acts 2 (kidsM i 0 l) 0=ov at *
 have hw:IntKind.i64.wrap ((on:Int)+ov)=(on:Int)+ov:=by rw[wrapI]<;>omega
 generalize kidsM i 0 l=ks at *
 have hlks:ks.length≤24:=by omega
 have he:eqI (i:Int) 0=true∨(eqI (i:Int) 0=false∧∃ (a:Nat) (h:a<l.length),(l[i]).parent=a∧kindOf l (l[i]).parent=l[a].kind):=by
  rcases Nat.eq_zero_or_pos i with h | h
  ·left;simp[h,eqI]
  ·right
   obtain⟨a,h1,h2⟩:=hp h
   exact⟨by simp[eqI];omega,a,h2,h1,by rw[h1];simp[kindOf,h2]⟩
 refine orc_107 1 ?_
 cases q0:eqI c.acts[i] 2
 ·cases q2:eqI c.acts[i] 1
  ·simp (maxSteps:=1000000) +contextual -dsimp [Tryz.f107,g1,g2,g3,hia,hid,hi,hse,q0,q2,hw,List.set]
  ·cases e1:eqI (l[i].kind) 1
   ·cases e3:eqI (l[i].kind) 3
    ·cases e4:eqI (l[i].kind) 4
     ·cases e8:eqI (l[i].kind) 8
      ·cases e6:eqI (l[i].kind) 6
       ·cases e7:eqI (l[i].kind) 7
        ·simp (maxSteps:=1000000) +contextual -dsimp [Tryz.f107,g1,g2,g3,hia,hid,hi,hse,q0,q2,List.set,fitsK,e1,e3,e4,e8,e6,e7]
        ·simp (maxSteps:=1000000) +contextual -dsimp [Tryz.f107,g1,g2,g3,hia,hi,hse,q0,q2,List.set,fitsK,e1,e3,e4,e8,e6,e7]
       ·simp (maxSteps:=1000000) +contextual -dsimp [Tryz.f107,g1,g2,g3,hia,hid,hi,hse,q0,q2,List.set,fitsK,e1,e3,e4,e8,e6]
      ·cases o1:eqI (on:Int) 1
       ·simp (maxSteps:=1000000) +contextual -dsimp [Tryz.f107,g1,g2,g3,hia,hi,hse,q0,q2,List.set,fitsK,e1,e3,e4,e8,o1]
       ·have hpos:0<ks.length:=hl0 (by simp[eqI] at o1;omega)
        obtain⟨a,ka,hla⟩:=hk (ks[0]) (List.getElem_mem _)
        have hs0:szAt ks 0=ks[0]:=szAt_get hpos
        have hs1:szAt c.acts (a:Int)=c.acts[a]:=szAt_get hla
        simp (maxSteps:=1000000) +contextual -dsimp [Tryz.f107,g1,g2,g3,hia,hid,hi,hse,q0,q2,List.set,fitsK,e1,e3,e4,e8,o1,hpos,hs0,ka,hs1,hla]
     ·cases o1:eqI (on:Int) 0
      ·cases o2:eqI ((on:Int)+ov) ks.length
       ·simp (maxSteps:=1000000) +contextual -dsimp [Tryz.f107,g1,g2,g3,hia,hi,hse,q0,q2,hw,List.set,fitsK,e1,e3,e4,o1,o2]
       ·simp (maxSteps:=1000000) +contextual -dsimp [Tryz.f107,g1,g2,g3,hia,hid,hi,hse,q0,q2,hw,List.set,fitsK,e1,e3,e4,o1,o2]
      ·simp (maxSteps:=1000000) +contextual -dsimp [Tryz.f107,g1,g2,g3,hia,hi,hse,q0,q2,List.set,fitsK,e1,e3,e4,o1]
    ·cases o1:eqI (on:Int) 1
     ·simp (maxSteps:=1000000) +contextual -dsimp [Tryz.f107,g1,g2,g3,hia,hi,hse,q0,q2,List.set,fitsK,e1,e3,o1]
     ·simp (maxSteps:=1000000) +contextual -dsimp [Tryz.f107,g1,g2,g3,hia,hid,hi,hse,q0,q2,List.set,fitsK,e1,e3,o1]
   ·cases o1:eqI (on:Int) 1
    ·simp (maxSteps:=1000000) +contextual -dsimp [Tryz.f107,g1,g2,g3,hia,hi,hse,q0,q2,List.set,fitsK,e1,o1]
    ·simp (maxSteps:=1000000) +contextual -dsimp [Tryz.f107,g1,g2,g3,hia,hid,hi,hse,q0,q2,List.set,fitsK,e1,o1]
 ·have q2:eqI c.acts[i] 1=false:=by simp[eqI] at q0 ⊢;omega
  rcases he with he | ⟨he,a,p2,p1,p3⟩
  ·simp (maxSteps:=1000000) +contextual -dsimp [Tryz.f107,g1,g2,g3,hia,hi,hse,he,q0,List.set]
  ·rw[p3]
   cases q3:eqI (l[a].kind) 4
   ·simp (maxSteps:=1000000) +contextual -dsimp [Tryz.f107,g1,g2,g3,hia,hi,hse,he,p1,p2,q0,q3,List.set]
   ·simp (maxSteps:=1000000) +contextual -dsimp [Tryz.f107,g1,g2,g3,hia,hid,hi,hse,he,p1,p2,q0,q2,q3,hw,List.set]
theorem procB_at (l:List Step):∀ (f i:Nat),i+f=l.length→procB l f i=0→∀ k,i≤k→k<l.length→condFaultM l k=0
 | 0,i,h,_,k,h1,h2=>by omega
 | f+1,i,h,hz,k,h1,h2=>by
  unfold procB at hz
  split at hz
  ·rename_i c;rw[hz] at c;simp[notB,eqI] at c
  ·rename_i c
   rcases Nat.lt_or_ge i k with h' | h'
   ·exact procB_at l f (i+1) (by omega) hz k h' h2
   ·have e:k=i:=by omega
    subst e;simpa[notB,eqI] using c
structure ProcOk (l:List Step):Prop where
 pos:1≤l.length
 le:l.length≤24
 par:∀ (k:Nat) (h:k<l.length),0<k→∃ a:Nat,(l[k]).parent=a∧a<k
 par0:∀ (h:0<l.length),(l[0]).parent=-1
 cond:∀ k,k<l.length→condFaultM l k=0
theorem proc_ok {l:List Step} (h:procM l=0):ProcOk l:=by
 unfold procM at h
 split at h
 ·simp at h
 ·rename_i c1
  have hl:1≤l.length∧l.length≤24:=by simp[notB,inR,andB,leI] at c1;omega
  split at h
  ·rename_i c2;rw[h] at c2;simp[notB,eqI] at c2
  ·rename_i c2
   have c2:(procA l [] []).1=0:=by simpa[notB,eqI] using c2
   split at h
   ·rename_i c3;rw[h] at c3;simp[notB,eqI] at c3
   ·rename_i c3
    have c3:procB l l.length 0=0:=by simpa[notB,eqI] using c3
    have hpar:=procA_par (rest:=l) (list:=[]) (deep:=[]) (fun k h=>by simp at h) rfl (by simp) c2
    refine⟨hl.1,hl.2,fun k hk h0=>?_,fun h0=>?_,fun k hk=>procB_at l l.length 0 (by omega) c3 k (Nat.zero_le _) hk⟩
    ·have:=hpar k l[k] (by simp[hk])
     simp at this
     obtain⟨a,ha⟩:=Int.eq_ofNat_of_zero_le (this.2.2 h0)
     exact⟨a,ha,by omega⟩
    ·have:=hpar 0 l[0] (by simp[h0])
     simp at this
     omega
def allFit (l:List Step) (c:Chart):Nat→Nat→Bool
 | 0,_=>true
 | f+1,i=>if fitsM l c i=true then allFit l c f (i+1) else false
theorem loop90 (l:List Step) (hl:l.length≤24) (c:Chart) (ha:c.acts.length=l.length) (hd:c.dues.length=l.length) (hp:∀ (i:Nat) (h:i<l.length),0<i→∃ a:Nat,(l[i]).parent=a∧a<l.length):∀ (f i:Nat),i+f=l.length→
    evLoop E (orc E) (86:Nat) (f+1) (loopOf Tryz.f86 0) ⟨45,[(0,.ipt (bT l c)),(28,vI l.length),(29,vI i)],[],2⟩=
    (if allFit l c f i = true then some (.exit 0, ⟨45, [(0, .ipt (bT l c)), (28, vI l.length), (29, vI l.length), (30, vB false)], [], 2⟩)
     else some (.ret,⟨45,[(2,vB false)],[],2⟩))
  | 0,i,h=>by
    have e:i=l.length:=by omega
    subst e
    have hlt:ltI (l.length:Int) (l.length:Int)=false:=ltI_f (by omega)
    rw[loop_eq]
    simp +contextual -dsimp [Tryz.f86,hlt,allFit]
  | f+1,i,h=>by
    have hi:i<l.length:=by omega
    have hlt:ltI (i:Int) (l.length:Int)=true:=ltI_t (by omega)
    have hw:IntKind.i64.wrap ((i:Int)+1)=((i+1:Nat):Int):=by rw[wrapI]<;>omega
    have g:=f_fits l hl c ha hd i hi (hp i hi)
    cases q:fitsM l c i
    · have hm : allFit l c (f + 1) i = false := by simp [allFit, q]
      rw[hm,if_neg (by simp)]
      refine evLoop_out ?_ (by simp)
      simp (maxSteps:=1000000) +contextual -dsimp [Tryz.f86,hlt,g,q]
    · have ih := loop90 l hl c ha hd hp f (i + 1) (by omega)
      have hm:allFit l c (f+1) i=allFit l c f (i+1):=by simp[allFit,q]
      rw[hm]
      refine evLoop_next ?_ ih
      simp (maxSteps:=1000000) +contextual -dsimp [Tryz.f86,hlt,g,q,hw]
def smS (m:Int) (l:List Int):Bool:=notB (hasB (badS m) l)
theorem f_smS (l:List Int) (hl:l.length<2 ^ 62) (m:Int):fo 85 [A (iS l),A (vI m)]=some (R (vB (smS m l))):=f_areSmall l hl m
def ordM (l:List Step) (c:Chart):Bool:=
 if notB (eqI c.status 1)=true then andB (smS 0 c.acts) (smS 0 c.dues)
 else if allFit l c l.length 0=true then eqI (szAt c.acts 0) 1 else false
theorem f_isOrdered (l:List Step) (hl0:0<l.length) (hl:l.length≤24) (c:Chart) (ha:c.acts.length=l.length) (hd:c.dues.length=l.length) (hp:∀ (i:Nat) (h:i<l.length),0<i→∃ a:Nat,(l[i]).parent=a∧a<l.length):
  fo 86 [A (.ipt (bT l c))]=some (R (vB (ordM l c))):=by
 have g1:=f_smS c.acts (by omega) 0
 have g2:=f_smS c.dues (by omega) 0
 have hlp:=loop90 l hl c ha hd hp l.length 0 (by omega)
 have ha0:0<c.acts.length:=by omega
 have hs:szAt c.acts 0=c.acts[0]:=szAt_get ha0
 unfold ordM
 refine orc_86 (l.length+1) ?_
 simp -dsimp [Tryz.f86] at hlp
 cases q1:eqI c.status 1
 ·simp (maxSteps:=1000000) +contextual -dsimp [Tryz.f86,q1,g1,g2]
 ·cases q2:allFit l c l.length 0
  ·rw[q2] at hlp
   simp (maxSteps:=1000000) +contextual -dsimp [Tryz.f86,q1,hlp]
  ·rw[q2] at hlp
   simp (maxSteps:=1000000) +contextual -dsimp [Tryz.f86,q1,hlp,ha0,hs]
structure FitC (c:Chart):Prop where
 vars:c.vars.length<2 ^ 62
 acts:c.acts.length<2 ^ 62
 dues:c.dues.length<2 ^ 62
def chartA (l:List Step) (c:Chart):Int:=
 first2 (procM l) (first2 (ci (orB (notB (inR c.status 1 3)) (notB (inR c.now 0 1000000))) 3) (first2 (varsM c.vars) (ci (orB (notB (eqI c.acts.length l.length)) (notB (eqI c.dues.length l.length))) 2)))
def chartM (l:List Step) (c:Chart):Int:=
 if notB (eqI (chartA l c) 0)=true then chartA l c
 else if orB (notB (smS 2 c.acts)) (notB (smS (c.now+99) c.dues))=true then 3
 else ci (notB (ordM l c)) 1
theorem ci_zero {b:Bool} {k:Int} (hk:k≠0) (h:ci b k=0):b=false:=by
 cases b
 ·rfl
 ·exact absurd h (by simpa[ci] using hk)
theorem chartA_zero {l:List Step} {c:Chart} (h:chartA l c=0):procM l=0∧(1≤c.status∧c.status≤3)∧(0≤c.now∧c.now≤1000000)∧varsM c.vars=0∧c.acts.length=l.length∧c.dues.length=l.length:=by
 unfold chartA at h
 obtain⟨h1,h2⟩:=first2_zero h
 obtain⟨h3,h4⟩:=first2_zero h2
 obtain⟨h5,h6⟩:=first2_zero h4
 have h3:=ci_zero (by omega) h3
 have h6:=ci_zero (by omega) h6
 simp[orB,notB,inR,andB,leI,eqI] at h3 h6
 exact⟨h1,by omega,by omega,h5,by omega,by omega⟩
theorem f_ChartFault (l:List Step) (hl:l.length<2 ^ 62) (hf:∀ s,s∈l→FitS s) (c:Chart) (hc:FitC c):
  fo 64 [A (.sl 112 (l.map (sT 206))),A (.agg (cT c))]=some (R (vI (chartM l c))):=by
 have g1:=f_ProcFault l hl hf
 have g2:=f_VarsFault c.vars hc.vars
 have g3:=f_first4 (procM l) (ci (orB (notB (inR c.status 1 3)) (notB (inR c.now 0 1000000))) 3) (varsM c.vars) (ci (orB (notB (eqI c.acts.length l.length)) (notB (eqI c.dues.length l.length))) 2)
 have g4:=f_smS c.acts hc.acts 2
 have g5:=f_smS c.dues hc.dues (c.now+99)
 refine orc_64 1 ?_
 cases q1:eqI (chartA l c) 0
 ·have q1':=q1
  unfold chartA at q1'
  simp (maxSteps:=1000000) +contextual -dsimp [Tryz.f64,g1,g2,g3,f_inRange,f_isTime,f_ci,q1',chartM,chartA,List.set]
 ·have e0:chartA l c=0:=by simpa[eqI] using q1
  obtain⟨z1,z2,z3,z4,z5,z6⟩:=chartA_zero e0
  have ok:=proc_ok z1
  have hw:IntKind.i64.wrap (c.now+99)=c.now+99:=by rw[wrapI]<;>omega
  have g6:=f_isOrdered l (by have:=ok.pos;omega) ok.le c z5 z6 (fun i hi h0=>by
   obtain⟨a,h1,h2⟩:=ok.par i hi h0
   exact⟨a,h1,by omega⟩)
  have e0':=e0
  unfold chartA at e0'
  cases q2:smS 2 c.acts
  ·simp (maxSteps:=1000000) +contextual -dsimp [Tryz.f64,g1,g2,g3,g4,f_inRange,f_isTime,f_ci,e0',e0,eqI_self,q2,chartM,List.set]
  ·cases q3:smS (c.now+99) c.dues
   ·simp (maxSteps:=1000000) +contextual -dsimp [Tryz.f64,g1,g2,g3,g4,g5,f_inRange,f_isTime,f_ci,e0',e0,eqI_self,q2,q3,hw,chartM,List.set]
   ·simp (maxSteps:=1000000) +contextual -dsimp [Tryz.f64,g1,g2,g3,g4,g5,g6,f_inRange,f_isTime,f_ci,e0',e0,eqI_self,q2,q3,hw,chartM,List.set]
abbrev eT (e:Engine):List T:=[.sl 82 (e.procs.map (pT 112 206)),.sl 77 (e.insts.map xT),vI e.now]
theorem f_steps (e:Engine) (x:Inst) (a:Nat) (hx:x.proc=a) (ha:a<e.procs.length):fo 48 [A (.agg (eT e)),A (.agg (xT x))]=some ⟨.sl 112 ((e.procs[a]).map (sT 206)),[],false⟩:=by
 refine orc_48 1 ?_
 simp (maxSteps:=1000000) +contextual -dsimp [Tryz.f48,hx,ha]
def openM (l:List Step) (acts:List Int) (step:Int):Bool:=andB (andB (inR step 0 ((l.length:Int) - 1)) (eqI (kindOf l step) 2)) (eqI (szAt acts step) 1)
theorem f_isOnTask (l:List Step) (hl:l.length<2 ^ 62) (c:Chart) (ha:c.acts.length=l.length) (step:Int):
  fo 65 [A (.sl 112 (l.map (sT 206))),A (.agg (cT c)),A (vI step)]=some (R (vB (openM l c.acts step))):=by
 have g:=f_isPlace step l.length hl
 unfold openM
 refine orc_65 1 ?_
 cases q:inR step 0 ((l.length:Int) - 1)
 ·simp (maxSteps:=1000000) +contextual -dsimp [Tryz.f65,g,q]
 ·obtain⟨k,rfl,hk⟩:∃ k:Nat,step=k∧k<l.length:=by
   simp[inR,andB,leI] at q
   obtain⟨k,rfl⟩:=Int.eq_ofNat_of_zero_le q.1
   exact⟨k,rfl,by omega⟩
  have hka:k<c.acts.length:=by omega
  have hs:szAt c.acts (k:Int)=c.acts[k]:=szAt_get hka
  have hki:kindOf l k=(l[k]).kind:=by simp[kindOf,hk]
  simp (maxSteps:=1000000) +contextual -dsimp [Tryz.f65,g,q,hk,hka,hs,hki]
def leafB (k:Int):Bool:=orB (orB (eqI k 2) (eqI k 5)) (eqI k 6)
def opensM (acts:List Int):Nat→List Step→List Int
 | _,[]=>[]
 | i,s::r=>if andB (leafB s.kind) (eqI (szAt acts i) 1)=true then (i:Int)::opensM acts (i+1) r else opensM acts (i+1) r
def instAt (e:Engine) (i:Int):Inst:=e.insts.getD i.toNat ⟨0,⟨0,0,[],[],[]⟩⟩
def stepsOf (e:Engine) (x:Inst):List Step:=e.procs.getD x.proc.toNat []
def isOpenM (e:Engine) (i:Int) (step:Int):Bool:=openM (stepsOf e (instAt e i)) (instAt e i).chart.acts step
theorem f_isOpen (e:Engine) (i:Nat) (hi:i<e.insts.length) (a:Nat) (hx:(e.insts[i]).proc=a) (ha:a<e.procs.length) (hl:(e.procs[a]).length<2 ^ 62)
  (hc:(e.insts[i]).chart.acts.length=(e.procs[a]).length) (step:Int):fo 43 [A (.agg (eT e)),A (vI i),A (vI step)]=some (R (vB (isOpenM e i step))):=by
 have g1:=f_steps e (e.insts[i]) a hx ha
 have g2:=f_isOnTask (e.procs[a]) hl (e.insts[i]).chart hc step
 have e1:instAt e i=e.insts[i]:=by simp[instAt,hi]
 have e2:stepsOf e (e.insts[i])=e.procs[a]:=by simp[stepsOf,hx,ha]
 unfold isOpenM
 rw[e1,e2]
 refine orc_43 1 ?_
 simp (maxSteps:=1000000) +contextual -dsimp [Tryz.f43,g1,g2,hi,List.set]
def procsM:List (List Step)→Int
 | []=>0
 | p::r=>if notB (eqI (procM p) 0)=true then procM p else procsM r
structure FitP (p:List Step):Prop where
 len:p.length<2 ^ 62
 steps:∀ s,s∈p→FitS s
theorem loop70 (all:List (List Step)) (hall:all.length≤1000) (hf:∀ p,p∈all→FitP p):∀ (rest:List (List Step)) (i:Nat),all.drop i=rest→
    evLoop E (orc E) (62:Nat) (rest.length+1) (loopOf Tryz.f62 0) ⟨23,[(10,.sl 82 (all.map (pT 112 206))),(11,vI all.length),(12,vI i)],[],2⟩=
    (if eqI (procsM rest) 0 = true then some (.exit 0, ⟨23, [(10, .sl 82 (all.map (pT 112 206))), (11, vI all.length), (12, vI (i + rest.length : Nat)), (13, vB false)], [], 2⟩)
     else some (.ret,⟨23,[(2,vI (procsM rest))],[],2⟩))
  | [],i,h=>by
    have hge:all.length≤i:=by simpa using h
    have hlt:ltI (i:Int) (all.length:Int)=false:=ltI_f (by omega)
    rw[loop_eq]
    simp +contextual -dsimp [Tryz.f62,hlt,procsM,eqI_self]
  | s::rest,i,h=>by
    obtain⟨hi,hc,hr⟩:=drop_cons h
    have hlt:ltI (i:Int) (all.length:Int)=true:=ltI_t (by omega)
    have hw:IntKind.i64.wrap ((i:Int)+1)=((i+1:Nat):Int):=by rw[wrapI]<;>omega
    have he:i+1+rest.length=i+(rest.length+1):=by omega
    have hs:=hf s (by rw[←hc];exact List.getElem_mem _)
    have g:=f_ProcFault s hs.len hs.steps
    cases q:eqI (procM s) 0
    · have hm : procsM (s :: rest) = procM s := by simp [procsM, q, notB]
      rw[hm,q,if_neg (by simp)]
      refine evLoop_out ?_ (by simp)
      simp (maxSteps:=1000000) +contextual -dsimp [Tryz.f62,hlt,hi,hc,g,q,List.set]
    · have ih := loop70 all hall hf rest (i + 1) hr
      rw[he] at ih
      have hm:procsM (s::rest)=procsM rest:=by simp[procsM,q,notB]
      rw[hm]
      refine evLoop_next ?_ (by simpa only[List.length_cons] using ih)
      simp (maxSteps:=1000000) +contextual -dsimp [Tryz.f62,hlt,hi,hc,hw,g,q,List.set]
def procsF (ps:List (List Step)):Int:=if notB (inR ps.length 1 3)=true then 2 else procsM ps
theorem f_procsFault (ps:List (List Step)) (hps:ps.length<2 ^ 62) (hf:∀ p,p∈ps→FitP p):fo 62 [A (.sl 82 (ps.map (pT 112 206)))]=some (R (vI (procsF ps))):=by
 unfold procsF
 cases c1:inR ps.length 1 3
 ·refine orc_62 1 ?_
  simp (maxSteps:=1000000) +contextual -dsimp [Tryz.f62,f_inRange,c1]
 ·have hl:ps.length≤1000:=by simp[inR,andB,leI] at c1;omega
  have hlp:=loop70 ps hl hf ps 0 rfl
  refine orc_62 (ps.length+1) ?_
  simp -dsimp [Tryz.f62] at hlp
  cases c2:eqI (procsM ps) 0
  ·rw[c2] at hlp
   simp (maxSteps:=1000000) +contextual -dsimp [Tryz.f62,f_inRange,c1,hlp]
  ·rw[c2] at hlp
   have e0:procsM ps=0:=by simpa[eqI] using c2
   simp (maxSteps:=1000000) +contextual -dsimp [Tryz.f62,f_inRange,c1,e0,hlp]
end Go.TM.It
