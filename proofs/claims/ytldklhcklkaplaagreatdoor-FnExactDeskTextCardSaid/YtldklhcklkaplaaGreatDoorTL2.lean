/- What functions of the program come to, by the machine. -/
import Derived.Test.YtldklhcklkaplaaGreatDoorTL1
set_option linter.unusedSimpArgs false
set_option linter.unusedVariables false
set_option maxHeartbeats 2000000
namespace Go.TM.It
open Go Go.TM Go.Proofs
set_option maxRecDepth 20000
attribute [local congr] gif_cg
attribute [local simp] footOf noClash clash upsets setsHit setHits layHits layMeets setsMeet evFeet
theorem f_last (list deep:List Int) (d:Int) (hd:deep.length≤1000000):fo 129 [argP list (deep++[d])]=some ⟨vI d,outP list (deep++[d]),true⟩:=by
 have hw:IntKind.i64.wrap (deep.length:Int)=(deep.length:Int):=by rw[wrapI]<;>omega
 have hlt:(deep.length:Int)<(deep.length:Int)+1:=by omega
 refine orc_129 1 ?_
 simp (maxSteps:=1000000) +contextual -dsimp [Tryz.f129,hw,hlt]
def kidsM (at_:Int):Nat→List Step→List Int
 | _,[]=>[]
 | i,s::r=>if andB (ltI 0 (i:Int)) (eqI s.parent at_)=true then (i:Int)::kidsM at_ (i+1) r else kidsM at_ (i+1) r
theorem loop50 (all:List Step) (hall:all.length≤1000) (at_:Int):∀ (rest:List Step) (i:Nat) (acc:List Int),all.drop i=rest→acc.length≤i→
  evLoop E (orc E) (133:Nat) (rest.length+1) (loopOf Tryz.f133 0) ⟨30,[(1,vI at_),(5,.ref 5 1 [] 0 acc.length),(9,.sl 112 (all.map (sT 206))),(10,vI all.length),(11,vI i)],[(5,⟨1,1,false,[.own 2 (iE acc)]⟩)],2⟩=
  some (.exit 0,⟨30,[(1,vI at_),(5,.ref 5 1 [] 0 (acc++kidsM at_ i rest).length),(9,.sl 112 (all.map (sT 206))),(10,vI all.length),(11,vI (i+rest.length:Nat)),(12,vB false)],[(5,⟨1,1,false,[.own 2 (iE (acc++kidsM at_ i rest))]⟩)],2⟩)
 | [],i,acc,h,ha=>by
  have hge:all.length≤i:=by simpa using h
  have hlt:ltI (i:Int) (all.length:Int)=false:=ltI_f (by omega)
  rw[loop_eq]
  simp +contextual -dsimp [Tryz.f133,hlt,kidsM]
 | s::rest,i,acc,h,ha=>by
  obtain⟨hi,hc,hr⟩:=drop_cons h
  have hlt:ltI (i:Int) (all.length:Int)=true:=ltI_t (by omega)
  have hw:IntKind.i64.wrap ((i:Int)+1)=((i+1:Nat):Int):=by rw[wrapI]<;>omega
  have he:i+1+rest.length=i+(rest.length+1):=by omega
  have hm1:acc.length+1≤maxElems:=by unfold maxElems;omega
  cases c:andB (ltI 0 (i:Int)) (eqI s.parent at_)
  ·have ih:=loop50 all hall at_ rest (i+1) acc hr (by omega)
   rw[he] at ih
   have hm:kidsM at_ i (s::rest)=kidsM at_ (i+1) rest:=by simp[kidsM,c]
   rw[hm]
   refine evLoop_next ?_ (by simpa only[List.length_cons] using ih)
   simp (maxSteps:=1000000) +contextual -dsimp [Tryz.f133,hlt,hi,hc,hw,c,List.set]
  ·have ih:=loop50 all hall at_ rest (i+1) (acc++[(i:Int)]) hr (by simp;omega)
   rw[he] at ih
   have hm:acc++kidsM at_ i (s::rest)=acc++[(i:Int)]++kidsM at_ (i+1) rest:=by simp[kidsM,c]
   rw[hm]
   refine evLoop_next ?_ (by simpa only[List.length_cons] using ih)
   simp (maxSteps:=1000000) +contextual -dsimp [Tryz.f133,hlt,hi,hc,hw,c,hm1,List.set]
theorem f_kids (l:List Step) (hl:l.length≤1000) (at_:Int):fo 133 [A (.sl 112 (l.map (sT 206))),A (vI at_)]=some ⟨.own 2 (iE (kidsM at_ 0 l)),[],true⟩:=by
 have hlp:=loop50 l hl at_ l 0 [] rfl (by simp)
 have hc:cleanEs (iE (kidsM at_ 0 l))=true:=by
  have:∀ (l:List Int),cleanEs (iE l)=true:=fun l=>by induction l<;>simp_all [cleanEs,cleanL,clean]
  exact this _
 refine orc_133 (l.length+1) ?_
 simp -dsimp [Tryz.f133] at hlp
 simp (maxSteps:=1000000) +contextual -dsimp [Tryz.f133,hlp,hc]
def parOf (l:List Step) (at_:Nat):Int:=match l[at_]? with | some s=>s.parent | none=>0
def kindOf (l:List Step) (at_:Int):Int:=match l[at_.toNat]? with | some s=>s.kind | none=>0
def wantsM (l:List Step) (at_:Nat):Bool:=
 if orB (eqI at_ 0) (notB (eqI (kindOf l (parOf l at_)) 3))=true then false
 else notB (eqI at_ (szAt (kidsM (parOf l at_) 0 l) ((kidsM (parOf l at_) 0 l).length - 1)))
theorem kids_mem {p:Int}:∀ {l:List Step} {i k:Nat} {s:Step},l[k]?=some s→0<i+k→s.parent=p→((i+k:Nat):Int)∈kidsM p i l
 | [],i,k,s,h,_,_=>by simp at h
 | x::l,i,0,s,h,h0,hp=>by
  simp at h;subst h
  have:andB (ltI 0 (i:Int)) (eqI x.parent p)=true:=by simp[andB,ltI,eqI,hp];omega
  simp[kidsM,this]
 | x::l,i,k+1,s,h,h0,hp=>by
  have:=kids_mem (i:=i+1) (k:=k) (by simpa using h) (by omega) hp
  have e:i+1+k=i+(k+1):=by omega
  rw[e] at this
  unfold kidsM
  split
  ·exact List.mem_cons_of_mem _ this
  ·exact this
theorem f_wantsCond (l:List Step) (hl:l.length≤1000) (at_:Nat) (ha:at_<l.length) (hp:0<at_→0≤parOf l at_∧parOf l at_<l.length):
  fo 134 [A (.sl 112 (l.map (sT 206))),A (vI at_)]=some (R (vB (wantsM l at_))):=by
 have hpar:(l[at_]).parent=parOf l at_:=by simp[parOf,ha]
 refine orc_134 1 ?_
 cases c1:eqI at_ 0
 ·have h0:0<at_:=by simp[eqI] at c1;omega
  obtain⟨p1,p2⟩:=hp h0
  obtain⟨k,hk⟩:=Int.eq_ofNat_of_zero_le p1
  have hk2:k<l.length:=by omega
  have hkind:(l[k]).kind=kindOf l (k:Int):=by simp[kindOf,hk2]
  rw[hk] at hpar
  cases c2:eqI (kindOf l (k:Int)) 3
  ·simp (maxSteps:=1000000) +contextual -dsimp [Tryz.f134,ha,hpar,hk,hk2,hkind,c1,c2,wantsM]
  ·have g:=f_kids l hl (k:Int)
   have hm:((0+at_:Nat):Int)∈kidsM (k:Int) 0 l:=kids_mem (k:=at_) (s:=l[at_]) (by simp[ha]) (by omega) hpar
   have hpos:0<(kidsM (k:Int) 0 l).length:=List.length_pos_of_mem hm
   have hkl:(kidsM (k:Int) 0 l).length≤1000:=by
    have:∀ (l:List Step) (i:Nat),(kidsM (k:Int) i l).length≤l.length:=fun l=>by
     induction l with
     | nil=>intro i;simp[kidsM]
     | cons s l ih=>intro i;unfold kidsM;split<;>simp<;>have:=ih (i+1)<;>omega
    have:=this l 0;omega
   have hw:IntKind.i64.wrap (((kidsM (k:Int) 0 l).length:Int) - 1)=(((kidsM (k:Int) 0 l).length - 1:Nat):Int):=by rw[wrapI]<;>omega
   have hlt:(kidsM (k:Int) 0 l).length - 1<(kidsM (k:Int) 0 l).length:=by omega
   have e1:szAt (kidsM (k:Int) 0 l) (((kidsM (k:Int) 0 l).length:Int) - 1)=(kidsM (k:Int) 0 l)[(kidsM (k:Int) 0 l).length - 1]:=by
    have:(((kidsM (k:Int) 0 l).length:Int) - 1).toNat=(kidsM (k:Int) 0 l).length - 1:=by omega
    simp[szAt,this,hlt]
   have hse:sealEs (iE (kidsM (k:Int) 0 l))=iE (kidsM (k:Int) 0 l):=sealEs_map (f:=fun n=>[vI n]) (g:=fun n=>[vI n]) (fun a=>by simp[sealL,seal_]) _
   simp (maxSteps:=1000000) +contextual -dsimp [Tryz.f134,ha,hpar,hk,hk2,hkind,c1,c2,g,hse,hw,hlt,e1,wantsM]
 ·simp (maxSteps:=1000000) +contextual -dsimp [Tryz.f134,ha,hpar,c1,wantsM]
def typeFaultM (l:List Node) (want:Int):Int:=
 if eqI l.length 0=true then 0 else first2 (typeM l).1 (if notB (eqI (typeM l).2 want)=true then 7 else 0)
theorem f_typeFault (l:List Node) (hl:l.length<2 ^ 62) (want:Int):fo 103 [A (nS 206 l),A (vI want)]=some (R (vI (typeFaultM l want))):=by
 have g:=f_TypeOf l hl
 refine orc_103 1 ?_
 cases c1:eqI l.length 0
 ·simp (maxSteps:=1000000) +contextual -dsimp [Tryz.f103,g,f_codeIf,f_first2,c1,typeFaultM,List.set]
 ·simp (maxSteps:=1000000) +contextual -dsimp [Tryz.f103,c1,typeFaultM]
def hasCond (l:List Step) (at_:Nat):Bool:=match l[at_]? with | some s=>ltI 0 s.cond.length | none=>false
def condOf (l:List Step) (at_:Nat):List Node:=match l[at_]? with | some s=>s.cond | none=>[]
def condCode (l:List Step) (at_:Nat):Int:=
 first2 (if notB (inR (kidsM at_ 0 l).length (kidB (kindOf l at_)).1 (kidB (kindOf l at_)).2)=true then 1 else 0) (if notB (eqB (hasCond l at_) (wantsM l at_))=true then 1 else 0)
def condFaultM (l:List Step) (at_:Nat):Int:=
 if orB (notB (eqI (condCode l at_) 0)) (notB (hasCond l at_))=true then condCode l at_ else exprM (condOf l at_)
theorem f_condFault (l:List Step) (hl:l.length≤1000) (at_:Nat) (ha:at_<l.length) (hp:0<at_→0≤parOf l at_∧parOf l at_<l.length) (hc:(condOf l at_).length<2 ^ 62):
  fo 102 [A (.sl 112 (l.map (sT 206))),A (vI at_)]=some (R (vI (condFaultM l at_))):=by
 have g1:=f_kids l hl at_
 have g2:=f_wantsCond l hl at_ ha hp
 have g3:=f_ExprFault (condOf l at_) hc
 have hse:sealEs (iE (kidsM at_ 0 l))=iE (kidsM at_ 0 l):=sealEs_map (f:=fun n=>[vI n]) (g:=fun n=>[vI n]) (fun a=>by simp[sealL,seal_]) _
 have e1:(l[at_]).kind=kindOf l at_:=by simp[kindOf,ha]
 have e2:ltI 0 (l[at_]).cond.length=hasCond l at_:=by simp[hasCond,ha]
 have e3:(l[at_]).cond=condOf l at_:=by simp[condOf,ha]
 have e4:ltI 0 (condOf l at_).length=hasCond l at_:=by simp[hasCond,condOf,ha]
 refine orc_102 1 ?_
 simp (maxSteps:=1000000) +contextual -dsimp [Tryz.f102,f_kidBounds,f_inRange,f_codeIf,f_first2,g1,g2,g3,hse,ha,e1,e3,e4,condFaultM,condCode,List.set]
 rfl
abbrev argP1 (list deep:List Int):Arg:=⟨.ptr 1 0 [] 0,some (pR 0 1 list deep)⟩
abbrev outP1 (list deep:List Int):List (Nat×List T):=[(1,[.own 2 (iE list),.own 2 (iE deep)])]
def ci (b:Bool) (c:Int):Int:=if b then c else 0
theorem f_ci (b:Bool) (c:Int):fo 22 [A (vB b),A (vI c)]=some (R (vI (ci b c))):=f_codeIf b c
def alien (s:Step):Bool:=
 orB (orB (andB (notB (eqS s.name emp)) (notB (eqI s.kind 2))) (andB (notB (eqI s.arg 0)) (eqI (argB s.kind).2 0))) (andB (ltI 0 s.expr.length) (notB (eqI s.kind 7)))
def stepA (s:Step) (list deep:List Int):Int:=
 first2 (ci (orB (notB (inR s.kind 1 8)) (alien s)) 1) (nextM list deep s.parent).1
def stepB (s:Step):Int:=
 if eqI s.kind 2=true then nameM s.name
 else if eqI s.kind 7=true then first2 (ci (notB (inR s.arg (argB s.kind).1 (argB s.kind).2)) 3) (exprM s.expr)
 else ci (notB (inR s.arg (argB s.kind).1 (argB s.kind).2)) 3
def stepM (s:Step) (list deep:List Int):Int:=
 if notB (eqI (stepA s list deep) 0)=true then stepA s list deep
 else if notB (eqI (ci (ltI 7 (nextDeep deep s.parent)) 2) 0)=true then ci (ltI 7 (nextDeep deep s.parent)) 2
 else stepB s
theorem f_stepFault (s:Step) (list deep:List Int) (hp1:-9223372036854775808≤s.parent) (hp2:s.parent<9223372036854775808) (ht:Tree list) (hl:list.length≤1000) (hd:deep.length=list.length)
  (hv:∀ d,d∈deep→0≤d∧d≤1000000) (hn:s.name.size<2 ^ 62) (hx:s.expr.length<2 ^ 62):
  fo 101 [A (.agg (sT 206 s)),argP1 list deep]=some ⟨vI (stepM s list deep),outP1 (nextM list deep s.parent).2.1 (nextM list deep s.parent).2.2,true⟩:=by
 have g1:=f_next list deep s.parent hp1 hp2 ht hl hd hv
 have g3:=f_NameFault s.name hn
 have g4:=f_ExprFault s.expr hx
 refine orc_101 1 ?_
 cases c1:eqI (stepA s list deep) 0
 ·simp only[stepA,alien,emp] at c1
  simp (maxSteps:=1000000) +contextual -dsimp [Tryz.f101,f_argBounds,f_inRange,f_ci,f_first2,g1,c1,stepM,stepA,alien,emp,List.set]
 ·have hz:stepA s list deep=0:=by simpa[eqI] using c1
  have hnx:nextM list deep s.parent=(0,list++[s.parent],deep++[nextDeep deep s.parent]):=by
   have h1:=(first2_zero hz).2
   unfold nextM at h1 ⊢
   split at h1
   ·simp at h1
   ·rename_i d1
    rw[if_neg d1]
    split at h1
    ·simp at h1
    ·rename_i d2
     rw[if_neg d2]
  have g2:=f_last (list++[s.parent]) deep (nextDeep deep s.parent) (by omega)
  simp only[argP,outP,pR,iE,List.map_append,List.map_cons,List.map_nil] at g2
  simp only[stepA,alien,emp] at c1
  rw[hnx] at g1 c1
  simp only at g1 c1
  cases c2:eqI (ci (ltI 7 (nextDeep deep s.parent)) 2) 0
  rotate_left
  ·cases c3:eqI s.kind 2
   ·cases c4:eqI s.kind 7
    ·simp (maxSteps:=1000000) +contextual -dsimp [Tryz.f101,f_argBounds,f_inRange,f_ci,f_first2,g1,g2,c2,c3,c4,hnx,stepM,stepB,stepA,alien,emp,List.set]
    ·simp (maxSteps:=1000000) +contextual -dsimp [Tryz.f101,f_argBounds,f_inRange,f_ci,f_first2,g1,g2,g4,c2,c3,c4,hnx,stepM,stepB,stepA,alien,emp,List.set]
   ·simp (maxSteps:=1000000) +contextual -dsimp [Tryz.f101,f_argBounds,f_inRange,f_ci,f_first2,g1,g2,g3,c2,c3,hnx,stepM,stepB,stepA,alien,emp,List.set]
  ·simp (maxSteps:=1000000) +contextual -dsimp [Tryz.f101,f_argBounds,f_inRange,f_ci,f_first2,g1,g2,c1,c2,hnx,stepM,stepA,alien,emp,List.set]
structure Chart where
 status:Int
 now:Int
 vars:List Int
 acts:List Int
 dues:List Int
structure Inst where
 proc:Int
 chart:Chart
structure Claim where
 inst:Int
 step:Int
 user:Int
structure Engine where
 procs:List (List Step)
 insts:List Inst
 now:Int
structure Desk where
 eng:Engine
 claims:List Claim
abbrev iS (l:List Int):T:=.sl 2 (iE l)
abbrev cT (c:Chart):List T:=[vI c.status,vI c.now,iS c.vars,iS c.acts,iS c.dues]
abbrev xT (x:Inst):List T:=[vI x.proc,vI x.chart.status,vI x.chart.now,iS x.chart.vars,iS x.chart.acts,iS x.chart.dues]
abbrev pT (s n:TypeId) (p:List Step):List T:=[.sl s (p.map (sT n))]
abbrev kT (c:Claim):List T:=[vI c.inst,vI c.step,vI c.user]
theorem f_isPlace (n:Int) (m:Nat) (hm:m<2 ^ 62):fo 23 [A (vI n),A (vI m)]=some (R (vB (inR n 0 ((m:Int) - 1)))):=by
 have hw:IntKind.i64.wrap ((m:Int) - 1)=(m:Int) - 1:=by rw[wrapI]<;>omega
 refine orc_23 1 ?_
 simp (maxSteps:=1000000) +contextual -dsimp [Tryz.f23,f_inRange,hw]
theorem f_isUser (n:Int):fo 42 [A (vI n)]=some (R (vB (inR n 1 9))):=by
 refine orc_42 1 ?_
 simp (maxSteps:=1000000) +contextual -dsimp [Tryz.f42,f_inRange]
theorem f_isTime (n:Int):fo 63 [A (vI n)]=some (R (vB (inR n 0 1000000))):=by
 refine orc_63 1 ?_
 simp (maxSteps:=1000000) +contextual -dsimp [Tryz.f63,f_inRange]
theorem f_isNaN (n:Int):fo 87 [A (vI n)]=some (R (vB false)):=by
 refine orc_87 1 ?_
 simp (maxSteps:=1000000) +contextual -dsimp [Tryz.f87,eqI_self,notB]
def cmpI (a b:Int):Int:=if ltI a b=true then -1 else if ltI b a=true then 1 else 0
theorem f_Compare (a b:Int):fo 67 [A (vI a),A (vI b)]=some (R (vI (cmpI a b))):=by
 refine orc_67 1 ?_
 cases h:ltI a b<;>cases h2:ltI b a <;>
 simp (maxSteps:=1000000) +contextual -dsimp [Tryz.f67,f_isNaN,h,h2,cmpI]
theorem f_Or (a b:Int):fo 66 [A (.sl 3 [[vI a],[vI b]])]=some (R (vI (first2 a b))):=by
 have h0:ltI 0 2=true:=rfl
 have h1:ltI 1 2=true:=rfl
 have h2:ltI 2 2=false:=rfl
 have w1:IntKind.i64.wrap 1=1:=rfl
 have w2:IntKind.i64.wrap 2=2:=rfl
 refine orc_66 4 ?_
 cases ha:eqI a 0
 ·simp -dsimp [Tryz.f66,loop_eq,h0,ha,first2]
 ·cases hb:eqI b 0
  ·simp -dsimp [Tryz.f66,loop_eq,h0,h1,w1,ha,hb,first2]
  ·simp -dsimp [Tryz.f66,loop_eq,h0,h1,h2,w1,w2,ha,hb,first2]
   simp[eqI] at hb;exact hb.symm
theorem f_compareClaims (a b:Claim):fo 44 [A (.agg (kT a)),A (.agg (kT b))]=some (R (vI (first2 (cmpI a.inst b.inst) (cmpI a.step b.step)))):=by
 refine orc_44 1 ?_
 simp (maxSteps:=1000000) +contextual -dsimp [Tryz.f44,f_Compare,f_Or,List.set]
theorem f_VarsBad (x:Int):fo 105 [A (vI x)]=some (R (vB (notB (inR x (-1000000) 1000000)))):=by
 refine orc_105 1 ?_
 simp (maxSteps:=1000000) +contextual -dsimp [Tryz.f105,f_inRange]
theorem f_small1 (x m:Int):fo 106 [A (vI x),A (.ipt [vI m])]=some (R (vB (notB (inR x 0 m)))):=by
 refine orc_106 1 ?_
 simp (maxSteps:=1000000) +contextual -dsimp [Tryz.f106,f_inRange]
def idxM (p:Int→Bool):Nat→List Int→Int
 | _,[]=>-1
 | i,x::r=>if p x=true then i else idxM p (i+1) r
theorem idxM_neg {p:Int→Bool}:∀ {l:List Int} {i:Nat},ltI (idxM p i l) 0=true→idxM p i l=-1
 | [],i,_=>rfl
 | x::l,i,h=>by
  unfold idxM at h ⊢
  split at h
  ·simp[ltI] at h;omega
  ·rename_i c;rw[if_neg c];exact idxM_neg h
def badV (x:Int):Bool:=notB (inR x (-1000000) 1000000)
def badS (m x:Int):Bool:=notB (inR x 0 m)
theorem f_badV (x:Int):fo 105 [A (vI x)]=some (R (vB (badV x))):=f_VarsBad x
theorem f_badS (m x:Int):fo 106 [A (vI x),A (.ipt [vI m])]=some (R (vB (badS m x))):=f_small1 x m
theorem loop138a (all:List Int) (hall:all.length<2 ^ 62):∀ (rest:List Int) (i:Nat),all.drop i=rest→
    evLoop E (orc E) (136:Nat) (rest.length+1) (loopOf Tryz.f136 0) ⟨19,[(0,iS all),(1,.v (.func (.func (105:Nat)) #[] #[])),(7,vI all.length),(8,vI i)],[],2⟩=
    (if ltI (idxM badV i rest) 0 = true then some (.exit 0, ⟨19, [(0, iS all), (1, .v (.func (.func (105 : Nat)) #[] #[])), (7, vI all.length), (8, vI (i + rest.length : Nat)), (9, vB false)], [], 2⟩)
     else some (.ret,⟨19,[(4,vI (idxM badV i rest))],[],2⟩))
  | [],i,h=>by
    have hge:all.length≤i:=by simpa using h
    have hlt:ltI (i:Int) (all.length:Int)=false:=ltI_f (by omega)
    have h1:ltI (-1) 0=true:=rfl
    rw[loop_eq]
    simp +contextual -dsimp [Tryz.f136,hlt,idxM,h1]
  | x::rest,i,h=>by
    obtain⟨hi,hc,hr⟩:=drop_cons h
    have hlt:ltI (i:Int) (all.length:Int)=true:=ltI_t (by omega)
    have hw:IntKind.i64.wrap ((i:Int)+1)=((i+1:Nat):Int):=by rw[wrapI]<;>omega
    have he:i+1+rest.length=i+(rest.length+1):=by omega
    have h0:ltI (i:Int) 0=false:=ltI_f (by omega)
    have g:=f_badV x
    cases c:badV x
    · have ih := loop138a all hall rest (i + 1) hr
      rw[he] at ih
      have hm:idxM badV i (x::rest)=idxM badV (i+1) rest:=by simp[idxM,c]
      rw[hm]
      rw[c] at g
      refine evLoop_next ?_ (by simpa only[List.length_cons] using ih)
      simp (maxSteps:=1000000) +contextual -dsimp [Tryz.f136,hlt,hi,hc,hw,g]
    · have hm : idxM badV i (x :: rest) = i := by simp [idxM, c]
      rw[hm,h0,if_neg (by simp)]
      rw[c] at g
      refine evLoop_out ?_ (by simp)
      simp (maxSteps:=1000000) +contextual -dsimp [Tryz.f136,hlt,hi,hc,g]
theorem loop138b {m:Int} (all:List Int) (hall:all.length<2 ^ 62):∀ (rest:List Int) (i:Nat),all.drop i=rest→
    evLoop E (orc E) (136:Nat) (rest.length+1) (loopOf Tryz.f136 0) ⟨19,[(0,iS all),(1,.clo (106:Nat) [.ipt [vI m]]),(7,vI all.length),(8,vI i)],[],2⟩=
    (if ltI (idxM (badS m) i rest) 0 = true then some (.exit 0, ⟨19, [(0, iS all), (1, .clo (106 : Nat) [.ipt [vI m]]), (7, vI all.length), (8, vI (i + rest.length : Nat)), (9, vB false)], [], 2⟩)
     else some (.ret,⟨19,[(4,vI (idxM (badS m) i rest))],[],2⟩))
  | [],i,h=>by
    have hge:all.length≤i:=by simpa using h
    have hlt:ltI (i:Int) (all.length:Int)=false:=ltI_f (by omega)
    have h1:ltI (-1) 0=true:=rfl
    rw[loop_eq]
    simp +contextual -dsimp [Tryz.f136,hlt,idxM,h1]
  | x::rest,i,h=>by
    obtain⟨hi,hc,hr⟩:=drop_cons h
    have hlt:ltI (i:Int) (all.length:Int)=true:=ltI_t (by omega)
    have hw:IntKind.i64.wrap ((i:Int)+1)=((i+1:Nat):Int):=by rw[wrapI]<;>omega
    have he:i+1+rest.length=i+(rest.length+1):=by omega
    have h0:ltI (i:Int) 0=false:=ltI_f (by omega)
    have g:=f_badS m x
    cases c:(badS m) x
    · have ih := loop138b (m := m) all hall rest (i + 1) hr
      rw[he] at ih
      have hm:idxM (badS m) i (x::rest)=idxM (badS m) (i+1) rest:=by simp[idxM,c]
      rw[hm]
      rw[c] at g
      refine evLoop_next ?_ (by simpa only[List.length_cons] using ih)
      simp (maxSteps:=1000000) +contextual -dsimp [Tryz.f136,hlt,hi,hc,hw,g]
    · have hm : idxM (badS m) i (x :: rest) = i := by simp [idxM, c]
      rw[hm,h0,if_neg (by simp)]
      rw[c] at g
      refine evLoop_out ?_ (by simp)
      simp (maxSteps:=1000000) +contextual -dsimp [Tryz.f136,hlt,hi,hc,g]
theorem f_IndexV (l:List Int) (hl:l.length<2 ^ 62):fo 136 [A (iS l),A (.v (.func (.func (105:Nat)) #[] #[]))]=some (R (vI (idxM badV 0 l))):=by
 have hlp:=loop138a l hl l 0 rfl
 refine orc_136 (l.length+1) ?_
 simp -dsimp [Tryz.f136] at hlp
 cases c:ltI (idxM badV 0 l) 0
 ·simp (maxSteps:=1000000) +contextual -dsimp [Tryz.f136,hlp,c]
 ·have e:idxM badV 0 l=-1:=idxM_neg c
  rw[e] at hlp ⊢
  simp (maxSteps:=1000000) +contextual -dsimp [Tryz.f136,hlp]
theorem f_IndexS (m:Int) (l:List Int) (hl:l.length<2 ^ 62):fo 136 [A (iS l),A (.clo (106:Nat) [.ipt [vI m]])]=some (R (vI (idxM (badS m) 0 l))):=by
 have hlp:=loop138b (m:=m) l hl l 0 rfl
 refine orc_136 (l.length+1) ?_
 simp -dsimp [Tryz.f136] at hlp
 cases c:ltI (idxM (badS m) 0 l) 0
 ·simp (maxSteps:=1000000) +contextual -dsimp [Tryz.f136,hlp,c]
 ·have e:idxM (badS m) 0 l=-1:=idxM_neg c
  rw[e] at hlp ⊢
  simp (maxSteps:=1000000) +contextual -dsimp [Tryz.f136,hlp]
def hasB (p:Int→Bool) (l:List Int):Bool:=leI 0 (idxM p 0 l)
theorem f_ContV (l:List Int) (hl:l.length<2 ^ 62):fo 104 [A (iS l),A (.v (.func (.func (105:Nat)) #[] #[]))]=some (R (vB (hasB badV l))):=by
 have g:=f_IndexV l hl
 refine orc_104 1 ?_
 simp (maxSteps:=1000000) +contextual -dsimp [Tryz.f104,g,hasB]
theorem f_ContS (m:Int) (l:List Int) (hl:l.length<2 ^ 62):fo 104 [A (iS l),A (.clo (106:Nat) [.ipt [vI m]])]=some (R (vB (hasB (badS m) l))):=by
 have g:=f_IndexS m l hl
 refine orc_104 1 ?_
 simp (maxSteps:=1000000) +contextual -dsimp [Tryz.f104,g,hasB]
theorem f_areSmall (l:List Int) (hl:l.length<2 ^ 62) (m:Int):fo 85 [A (iS l),A (vI m)]=some (R (vB (notB (hasB (badS m) l)))):=by
 have g:=f_ContS m l hl
 refine orc_85 1 ?_
 simp (maxSteps:=1000000) +contextual -dsimp [Tryz.f85,g]
def varsM (l:List Int):Int:=first2 (ci (notB (eqI l.length 4)) 2) (ci (hasB badV l) 3)
theorem f_VarsFault (l:List Int) (hl:l.length<2 ^ 62):fo 84 [A (iS l)]=some (R (vI (varsM l))):=by
 have g:=f_ContV l hl
 refine orc_84 1 ?_
 simp (maxSteps:=1000000) +contextual -dsimp [Tryz.f84,g,f_ci,f_first2,varsM,List.set]
theorem f_first4 (a b c d:Int):fo 20 [A (.sl 2 [[vI a],[vI b],[vI c],[vI d]])]=some (R (vI (first2 a (first2 b (first2 c d))))):=by
 have h0:ltI 0 4=true:=rfl
 have h1:ltI 1 4=true:=rfl
 have h2:ltI 2 4=true:=rfl
 have h3:ltI 3 4=true:=rfl
 have h4:ltI 4 4=false:=rfl
 have w1:IntKind.i64.wrap 1=1:=rfl
 have w2:IntKind.i64.wrap 2=2:=rfl
 have w3:IntKind.i64.wrap 3=3:=rfl
 have w4:IntKind.i64.wrap 4=4:=rfl
 refine orc_20 6 ?_
 cases ha:eqI a 0
 ·simp -dsimp [Tryz.f20,loop_eq,h0,ha,first2]
 ·cases hb:eqI b 0
  ·simp -dsimp [Tryz.f20,loop_eq,h0,h1,w1,ha,hb,first2]
  ·cases hc:eqI c 0
   ·simp -dsimp [Tryz.f20,loop_eq,h0,h1,h2,w1,w2,ha,hb,hc,first2]
   ·cases hd:eqI d 0
    ·simp -dsimp [Tryz.f20,loop_eq,h0,h1,h2,h3,w1,w2,w3,ha,hb,hc,hd,first2]
    ·simp -dsimp [Tryz.f20,loop_eq,h0,h1,h2,h3,h4,w1,w2,w3,w4,ha,hb,hc,hd,first2]
     simp[eqI] at hd;exact hd.symm
abbrev bT (l:List Step) (c:Chart):List T:=[.sl 112 (l.map (sT 206)),vI c.status,vI c.now,iS c.vars,iS c.acts,iS c.dues]
def cntM (acts:List Int) (act:Int):List Int→Nat→Nat
 | [],n=>n
 | k::r,n=>cntM acts act r (if eqI (szAt acts k) act=true then n+1 else n)
theorem cnt_le (acts:List Int) (act:Int):∀ (l:List Int) (n:Nat),cntM acts act l n≤n+l.length
 | [],n=>by simp[cntM]
 | k::l,n=>by
  unfold cntM
  rw[List.length_cons]
  split
  ·have:=cnt_le acts act l (n+1);omega
  ·have:=cnt_le acts act l n;omega
theorem szAt_get {l:List Int} {k:Nat} (h:k<l.length):szAt l (k:Int)=l[k]:=by simp[szAt,h]
theorem loop139 (l:List Step) (c:Chart) (act:Int) (hb:c.acts.length<2 ^ 62) (all:List Int) (hall:all.length≤1000) (hk:∀ k,k∈all→∃ a:Nat,k=a∧a<c.acts.length):∀ (rest:List Int) (i n:Nat),all.drop i=rest→n≤i→
  evLoop E (orc E) (137:Nat) (rest.length+1) (loopOf Tryz.f137 0) ⟨30,[(0,.ipt (bT l c)),(2,vI act),(7,vI n),(10,iS all),(11,vI all.length),(12,vI i)],[],2⟩=
  some (.exit 0,⟨30,[(0,.ipt (bT l c)),(2,vI act),(7,vI (cntM c.acts act rest n)),(10,iS all),(11,vI all.length),(12,vI (i+rest.length:Nat)),(13,vB false)],[],2⟩)
 | [],i,n,h,hn=>by
  have hge:all.length≤i:=by simpa using h
  have hlt:ltI (i:Int) (all.length:Int)=false:=ltI_f (by omega)
  rw[loop_eq]
  simp +contextual -dsimp [Tryz.f137,hlt,cntM]
 | x::rest,i,n,h,hn=>by
  obtain⟨hi,hc,hr⟩:=drop_cons h
  obtain⟨a,rfl,ha⟩:=hk x (by rw[←hc];exact List.getElem_mem _)
  have hlt:ltI (i:Int) (all.length:Int)=true:=ltI_t (by omega)
  have hw:IntKind.i64.wrap ((i:Int)+1)=((i+1:Nat):Int):=by rw[wrapI]<;>omega
  have hw2:IntKind.i64.wrap ((n:Int)+1)=((n+1:Nat):Int):=by rw[wrapI]<;>omega
  have he:i+1+rest.length=i+(rest.length+1):=by omega
  have hs:=szAt_get ha
  cases q:eqI (c.acts[a]) act
  ·have ih:=loop139 l c act hb all hall hk rest (i+1) n hr (by omega)
   rw[he] at ih
   have hm:cntM c.acts act ((a:Int)::rest) n=cntM c.acts act rest n:=by simp[cntM,hs,q]
   rw[hm]
   refine evLoop_next ?_ (by simpa only[List.length_cons] using ih)
   simp (maxSteps:=1000000) +contextual -dsimp [Tryz.f137,hlt,hi,hc,hw,ha,q]
  ·have ih:=loop139 l c act hb all hall hk rest (i+1) (n+1) hr (by omega)
   rw[he] at ih
   have hm:cntM c.acts act ((a:Int)::rest) n=cntM c.acts act rest (n+1):=by simp[cntM,hs,q]
   rw[hm]
   refine evLoop_next ?_ (by simpa only[List.length_cons] using ih)
   simp (maxSteps:=1000000) +contextual -dsimp [Tryz.f137,hlt,hi,hc,hw,hw2,ha,q]
theorem f_count (l:List Step) (c:Chart) (act:Int) (hb:c.acts.length<2 ^ 62) (all:List Int) (hall:all.length≤1000) (hk:∀ k,k∈all→∃ a:Nat,k=a∧a<c.acts.length):
  fo 137 [A (.ipt (bT l c)),A (iS all),A (vI act)]=some (R (vI (cntM c.acts act all 0:Nat))):=by
 have hlp:=loop139 l c act hb all hall hk all 0 0 rfl (Nat.le_refl _)
 refine orc_137 (all.length+1) ?_
 simp -dsimp [Tryz.f137] at hlp
 simp (maxSteps:=1000000) +contextual -dsimp [Tryz.f137,hlp]
end Go.TM.It
namespace Go.TM.It
open Go Go.TM Go.Proofs
set_option maxRecDepth 20000
attribute [local congr] gif_cg
abbrev iW (l:List Int):List (List T):=l.map fun n=>[vI n]
abbrev argW (out:List Int):Arg:=⟨.ref 2 0 [] 0 out.length,some ⟨0,0,false,[.own 2 (iW out)]⟩⟩
def walk4M (l:List Node):Nat→Nat→List Int→List Int
 | 0,_,out=>out
 | f+1,at_,out=>
  match l[at_]? with
  | none=>out
  | some n=>
   if ltI 16 out.length=true then out
   else if ltI 2 n.kind=true then
    (if inR n.kind 3 9=true then walk4M l f n.right.toNat (walk4M l f n.left.toNat out) else walk4M l f n.left.toNat out)++[(at_:Int)]
   else out++[(at_:Int)]
def Good (l:List Node):Prop:=∀ (k:Nat) (h:k<l.length),(ltI 2 (l[k]).kind=true→0≤(l[k]).left∧(l[k]).left<k)∧(inR (l[k]).kind 3 9=true→0≤(l[k]).right∧(l[k]).right<k)
theorem walk4_len (l:List Node):∀ (f at_:Nat) (out:List Int),(walk4M l f at_ out).length+1≤out.length+2 ^ f
 | 0,at_,out=>by simp[walk4M]
 | f+1,at_,out=>by
  have h1:=fun a o=>walk4_len l f a o
  have h2:0<2 ^ f:=Nat.pow_pos (by omega)
  have h3:2 ^ (f+1)=2*2 ^ f:=by rw[Nat.pow_succ];omega
  unfold walk4M
  split
  ·omega
  ·rename_i n _
   split
   ·omega
   ·split
    ·split
     ·have:=h1 n.right.toNat (walk4M l f n.left.toNat out)
      have:=h1 n.left.toNat out
      simp only[List.length_append,List.length_cons,List.length_nil]
      omega
     ·have:=h1 n.left.toNat out
      simp only[List.length_append,List.length_cons,List.length_nil]
      omega
    ·simp only[List.length_append,List.length_cons,List.length_nil]
     omega
theorem clean_iW (l:List Int):cleanEs (iW l)=true:=by induction l<;>simp_all [cleanEs,cleanL,clean]
theorem f_l3Walk (l:List Node) (hg:Good l):∀ (f at_:Nat) (out:List Int),at_<f→at_<l.length→f≤16→out.length≤1000000→
  fo 145 [A (nS 206 l),A (vI at_),argW out]=some ⟨.own 2 (iW (walk4M l f at_ out)),[],true⟩
 | 0,at_,out,h,_,_,_=>by omega
 | f+1,at_,out,h,hl,hf,ho=>by
  obtain⟨g1,g2⟩:=hg at_ hl
  have hn:l[at_]?=some l[at_]:=by simp[hl]
  have hm1:out.length+1≤maxElems:=by unfold maxElems;omega
  refine orc_145 1 ?_
  unfold walk4M
  rw[hn]
  simp only
  cases c1:ltI 16 out.length
  ·cases c2:ltI 2 (l[at_]).kind
   ·have c3:inR (l[at_]).kind 3 9=false:=by simp[ltI,inR,andB,leI] at c2 ⊢;omega
    have hc:cleanEs (iW out++[[vI at_]])=true:=by simpa using clean_iW (out++[(at_:Int)])
    simp (maxSteps:=1000000) +contextual -dsimp [Tryz.f145,f_l3Two,hl,hm1,c1,c2,c3,hc]
   ·obtain⟨p1,p2⟩:=g1 c2
    obtain⟨a,ha⟩:=Int.eq_ofNat_of_zero_le p1
    have ga:=f_l3Walk l hg f a out (by omega) (by omega) (by omega) ho
    have la:=walk4_len l f a out
    have l16:out.length≤16:=by simp[ltI] at c1;omega
    have hpow:2 ^ f≤32768:=by
     have:=Nat.pow_le_pow_right (n:=2) (by omega) (show f≤15 by omega)
     omega
    have ta:(l[at_]).left.toNat=a:=by omega
    cases c3:inR (l[at_]).kind 3 9
    ·have hm2:(walk4M l f a out).length+1≤maxElems:=by unfold maxElems;omega
     have hc:cleanEs (iW (walk4M l f a out)++[[vI at_]])=true:=by simpa using clean_iW (walk4M l f a out++[(at_:Int)])
     simp (maxSteps:=1000000) +contextual -dsimp [Tryz.f145,f_l3Two,hl,hm2,c1,c2,c3,ha,ga,hc]
    ·obtain⟨p3,p4⟩:=g2 c3
     obtain⟨b,hb⟩:=Int.eq_ofNat_of_zero_le p3
     have gb:=f_l3Walk l hg f b (walk4M l f a out) (by omega) (by omega) (by omega) (by omega)
     have lb:=walk4_len l f b (walk4M l f a out)
     have hm2:(walk4M l f b (walk4M l f a out)).length+1≤maxElems:=by unfold maxElems;omega
     have hc:cleanEs (iW (walk4M l f b (walk4M l f a out))++[[vI at_]])=true:=by simpa using clean_iW (walk4M l f b (walk4M l f a out)++[(at_:Int)])
     simp (maxSteps:=1000000) +contextual -dsimp [Tryz.f145,f_l3Two,hl,hm2,c1,c2,c3,ha,hb,ga,gb,hc]
  ·have hc:=clean_iW out
   simp (maxSteps:=1000000) +contextual -dsimp [Tryz.f145,c1,hc]
attribute [local simp] footOf noClash clash upsets setsHit setHits layHits layMeets setsMeet evFeet
def nodes4M:Nat→List Node→Int
 | _,[]=>0
 | i,n::r=>if notB (eqI (l3NodeM n i) 0)=true then l3NodeM n i else nodes4M (i+1) r
theorem loop38a (all:List Node) (hall:all.length≤16):∀ (rest:List Node) (i:Nat),all.drop i=rest→
  evLoop E (orc E) (122:Nat) (rest.length+1) (loopOf Tryz.f122 0) ⟨51,[(0,nS 206 all),(3,vI i)],[],2⟩=
  (if eqI (nodes4M i rest) 0=true then some (.exit 0,⟨51,[(0,nS 206 all),(3,vI (i+rest.length:Nat)),(18,vB false)],[],2⟩) else some (.ret,⟨51,[(2,vI (nodes4M i rest))],[],2⟩))
 | [],i,h=>by
  have hge:all.length≤i:=by simpa using h
  have hlt:ltI (i:Int) (all.length:Int)=false:=ltI_f (by omega)
  rw[loop_eq]
  simp +contextual -dsimp [Tryz.f122,hlt,nodes4M,eqI]
 | n::rest,i,h=>by
  obtain⟨hi,hc,hr⟩:=drop_cons h
  have hlt:ltI (i:Int) (all.length:Int)=true:=ltI_t (by omega)
  have hw:IntKind.i64.wrap ((i:Int)+1)=((i+1:Nat):Int):=by rw[wrapI]<;>omega
  have he:i+1+rest.length=i+(rest.length+1):=by omega
  have g:=f_l3Node n i (by omega) (by omega)
  cases c:eqI (l3NodeM n i) 0
  ·have hm:nodes4M i (n::rest)=l3NodeM n i:=by simp[nodes4M,c,notB]
   rw[hm,c,if_neg (by simp)]
   refine evLoop_out ?_ (by simp)
   simp (maxSteps:=1000000) +contextual -dsimp [Tryz.f122,hlt,hi,hc,g,c]
  ·have ih:=loop38a all hall rest (i+1) hr
   rw[he] at ih
   have hm:nodes4M i (n::rest)=nodes4M (i+1) rest:=by simp[nodes4M,c,notB]
   rw[hm]
   refine evLoop_next ?_ (by simpa only[List.length_cons] using ih)
   simp (maxSteps:=1000000) +contextual -dsimp [Tryz.f122,hlt,hi,hc,hw,g,c]
def inOrder:Nat→List Int→Bool
 | _,[]=>true
 | i,x::r=>if eqI x i=true then inOrder (i+1) r else false
theorem loop38b (l:List Node) (all:List Int) (hall:all.length≤1000000):∀ (rest:List Int) (i:Nat),all.drop i=rest→
  evLoop E (orc E) (122:Nat) (rest.length+1) (loopOf Tryz.f122 1) ⟨51,[(5,.sl 2 (iW all)),(6,vI i)],[],2⟩=
  (if inOrder i rest=true then some (.exit 2,⟨51,[(5,.sl 2 (iW all)),(6,vI (i+rest.length:Nat)),(42,vB false)],[],2⟩) else some (.ret,⟨51,[(2,vI 1)],[],2⟩))
 | [],i,h=>by
  have hge:all.length≤i:=by simpa using h
  have hlt:ltI (i:Int) (all.length:Int)=false:=ltI_f (by omega)
  rw[loop_eq]
  simp +contextual -dsimp [Tryz.f122,hlt,inOrder]
 | x::rest,i,h=>by
  obtain⟨hi,hc,hr⟩:=drop_cons h
  have hlt:ltI (i:Int) (all.length:Int)=true:=ltI_t (by omega)
  have hw:IntKind.i64.wrap ((i:Int)+1)=((i+1:Nat):Int):=by rw[wrapI]<;>omega
  have he:i+1+rest.length=i+(rest.length+1):=by omega
  cases c:eqI x i
  ·have hm:inOrder i (x::rest)=false:=by simp[inOrder,c]
   rw[hm,if_neg (by simp)]
   refine evLoop_out ?_ (by simp)
   simp (maxSteps:=1000000) +contextual -dsimp [Tryz.f122,hlt,hi,hc,c]
  ·have ih:=loop38b l all hall rest (i+1) hr
   rw[he] at ih
   have hm:inOrder i (x::rest)=inOrder (i+1) rest:=by simp[inOrder,c]
   rw[hm]
   refine evLoop_next ?_ (by simpa only[List.length_cons] using ih)
   simp (maxSteps:=1000000) +contextual -dsimp [Tryz.f122,hlt,hi,hc,hw,c]
theorem l3Node_ok {n:Node} {i:Nat} (h:l3NodeM n i=0):(ltI 2 n.kind=true→0≤n.left∧n.left<i)∧(inR n.kind 3 9=true→0≤n.right∧n.right<i):=by
 unfold l3NodeM at h
 split at h
 ·simp at h
 ·split at h
  ·simp at h
  ·split at h
   ·simp at h
   ·split at h
    ·simp at h
    ·rename_i hc
     simp only[orB,andB,notB,inR,leI,Bool.or_eq_true,Bool.and_eq_true,Bool.not_eq_true',decide_eq_true_eq,decide_eq_false_iff_not,Bool.and_eq_false_iff,not_or,not_and] at hc
     refine⟨fun h2=>?_,fun h3=>?_⟩
     ·have g2:2<n.kind:=by simpa[ltI] using h2
      have:=hc.1 (by omega)
      omega
     ·have g3:3≤n.kind∧n.kind≤9:=by simpa[inR,andB,leI] using h3
      have:=hc.2 g3
      omega
theorem nodes4_ok:∀ {l:List Node} {i:Nat},nodes4M i l=0→∀ (k:Nat) (n:Node),l[k]?=some n→l3NodeM n (i+k:Nat)=0
 | [],i,_,k,n,h=>by simp at h
 | x::l,i,hz,k,n,h=>by
  unfold nodes4M at hz
  split at hz
  ·rename_i hc
   rw[hz] at hc;simp[notB,eqI] at hc
  ·rename_i hc
   have h0:l3NodeM x i=0:=by simpa[notB,eqI] using hc
   cases k with
   | zero=>simp at h;subst h;exact h0
   | succ k=>
    have:=nodes4_ok hz k n (by simpa using h)
    have e:i+1+k=i+(k+1):=by omega
    rw[←e];exact this
def orderM (l:List Node):List Int:=walk4M l l.length (l.length - 1) []
def expr4M (l:List Node):Int:=
 if orB (ltI l.length 1) (ltI 16 l.length)=true then 2
 else if notB (eqI (nodes4M 0 l) 0)=true then nodes4M 0 l
 else if notB (eqI (orderM l).length l.length)=true then 1
 else if inOrder 0 (orderM l)=true then 0 else 1
theorem sealEs_iW (l:List Int):sealEs (iW l)=iW l:=sealEs_map (f:=fun n=>[vI n]) (g:=fun n=>[vI n]) (fun a=>by simp[sealL,seal_]) _
theorem f_l3Fault (l:List Node) (hl:l.length<2 ^ 62):fo 122 [A (nS 206 l)]=some (R (vI (expr4M l))):=by
 cases c1:orB (ltI l.length 1) (ltI 16 l.length)
 ·have hl2:1≤l.length∧l.length≤16:=by simp[orB,ltI] at c1;omega
  have ha:=loop38a l hl2.2 l 0 rfl
  simp -dsimp [Tryz.f122] at ha
  cases c2:eqI (nodes4M 0 l) 0
  ·rw[c2] at ha
   refine orc_122 (l.length+1) ?_
   simp (maxSteps:=1000000) +contextual -dsimp [Tryz.f122,c1,c2,ha,expr4M]
  ·rw[c2] at ha
   have h0:nodes4M 0 l=0:=by simpa[eqI] using c2
   have hg:Good l:=fun k hk=>by
    have hz:=nodes4_ok h0 k l[k] (by simp[hk])
    rw[Nat.zero_add] at hz
    exact l3Node_ok hz
   have gw:fo 145 [A (nS 206 l),A (vI (l.length - 1:Nat)),argW []]=some ⟨.own 2 (iW (orderM l)),[],true⟩:=by
    unfold orderM
    exact f_l3Walk l hg l.length (l.length - 1) [] (Nat.sub_lt hl2.1 Nat.one_pos) (Nat.sub_lt hl2.1 Nat.one_pos) hl2.2 (Nat.zero_le _)
   simp only[argW,iW,List.map_nil,List.length_nil] at gw
   have hs:=sealEs_iW (orderM l)
   simp only[iW] at hs
   have hw:IntKind.i64.wrap ((l.length:Int) - 1)=((l.length - 1:Nat):Int):=by rw[wrapI]<;>omega
   have hlo:(orderM l).length≤1000000:=by
    have h1:=walk4_len l l.length (l.length - 1) []
    have h2:=Nat.pow_le_pow_right (n:=2) (by omega) hl2.2
    unfold orderM
    simp only[List.length_nil] at h1
    omega
   have hb:=loop38b l (orderM l) hlo (orderM l) 0 rfl
   simp -dsimp [Tryz.f122,iW] at hb
   refine orc_122 (l.length+1) ?_
   cases c3:eqI (orderM l).length l.length
   ·simp (maxSteps:=1000000) +contextual -dsimp [Tryz.f122,c1,c2,c3,ha,gw,hs,hw,expr4M]
   ·have e3:(orderM l).length=l.length:=by simp[eqI] at c3;omega
    rw[e3] at hb
    cases c4:inOrder 0 (orderM l)
    ·rw[c4] at hb
     simp (maxSteps:=1000000) +contextual -dsimp [Tryz.f122,c1,c2,c3,c4,ha,hb,gw,hs,hw,expr4M]
    ·rw[c4] at hb
     simp (maxSteps:=1000000) +contextual -dsimp [Tryz.f122,c1,c2,c3,c4,ha,hb,gw,hs,hw,expr4M]
 ·refine orc_122 1 ?_
  simp (maxSteps:=1000000) +contextual -dsimp [Tryz.f122,c1,expr4M]
end Go.TM.It
