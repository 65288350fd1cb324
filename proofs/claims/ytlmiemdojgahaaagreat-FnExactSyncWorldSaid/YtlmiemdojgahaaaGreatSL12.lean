/- What functions of the program come to, by the machine. -/
import Derived.Test.YtlmiemdojgahaaaGreatSL10
set_option linter.unusedSimpArgs false
set_option linter.unusedVariables false
namespace Go.TM.Ft
open Go Go.TM Go.Proofs
set_option maxRecDepth 20000
attribute [local congr] gif_cg
attribute [local simp] footOf noClash clash upsets setsHit setHits layHits layMeets setsMeet evFeet
noncomputable section
def mksint:Int→List Int→List Int
 | _,[]=>[]
 | k,_::r=>k::mksint (k+1) r
def ctsint (l:List Int):Nat:=l.length
theorem ctsint_nil:ctsint []=0:=rfl
theorem ctsint_cons (x:Int) (r:List Int):ctsint (x::r)=1+ctsint r:=by simp only [ctsint,List.length_cons]; omega
def ctNode (x:Node):Nat:=1+1+1+1
def ctsNode:List Node→Nat
 | []=>0
 | x::r=>ctNode x+ctsNode r
theorem ctsNode_nil:ctsNode []=0:=rfl
theorem ctsNode_cons (x:Node) (r:List Node):ctsNode (x::r)=ctNode x+ctsNode r:=rfl
def mkNode (k:Int) (x:Node):Node:={ kind:=k,value:=k+1,left:=k+1+1,right:=k+1+1+1 }
def mksNode:Int→List Node→List Node
 | _,[]=>[]
 | k,x::r=>mkNode k x::mksNode (k+(ctNode x:Nat)) r
def ctStep (x:Step):Nat:=1+1+1+1+ctsNode x.cond+ctsNode x.expr
def ctsStep:List Step→Nat
 | []=>0
 | x::r=>ctStep x+ctsStep r
theorem ctsStep_nil:ctsStep []=0:=rfl
theorem ctsStep_cons (x:Step) (r:List Step):ctsStep (x::r)=ctStep x+ctsStep r:=rfl
def mkStep (k:Int) (x:Step):Step:={ kind:=k,parent:=k+1,name:=mkTx (k+1+1),arg:=k+1+1+1,cond:=mksNode (k+1+1+1+1) x.cond,expr:=mksNode (k+1+1+1+1+(ctsNode x.cond:Nat)) x.expr }
def mksStep:Int→List Step→List Step
 | _,[]=>[]
 | k,x::r=>mkStep k x::mksStep (k+(ctStep x:Nat)) r
def ctProc (x:List Step):Nat:=ctsStep x
def ctsProc:List (List Step)→Nat
 | []=>0
 | x::r=>ctProc x+ctsProc r
theorem ctsProc_nil:ctsProc []=0:=rfl
theorem ctsProc_cons (x:List Step) (r:List (List Step)):ctsProc (x::r)=ctProc x+ctsProc r:=rfl
def mkProc (k:Int) (x:List Step):List Step:=mksStep (k) x
def mksProc:Int→List (List Step)→List (List Step)
 | _,[]=>[]
 | k,x::r=>mkProc k x::mksProc (k+(ctProc x:Nat)) r
def ctInst (x:Inst):Nat:=1+1+1+ctsint x.chart.vars+ctsint x.chart.acts+ctsint x.chart.dues
def ctsInst:List Inst→Nat
 | []=>0
 | x::r=>ctInst x+ctsInst r
theorem ctsInst_nil:ctsInst []=0:=rfl
theorem ctsInst_cons (x:Inst) (r:List Inst):ctsInst (x::r)=ctInst x+ctsInst r:=rfl
def mkInst (k:Int) (x:Inst):Inst:={ proc:=k,chart:={ status:=k+1,now:=k+1+1,vars:=mksint (k+1+1+1) x.chart.vars,acts:=mksint (k+1+1+1+(ctsint x.chart.vars:Nat)) x.chart.acts,dues:=mksint (k+1+1+1+(ctsint x.chart.vars:Nat)+(ctsint x.chart.acts:Nat)) x.chart.dues } }
def mksInst:Int→List Inst→List Inst
 | _,[]=>[]
 | k,x::r=>mkInst k x::mksInst (k+(ctInst x:Nat)) r
def ctClaim (x:Claim):Nat:=1+1+1
def ctsClaim:List Claim→Nat
 | []=>0
 | x::r=>ctClaim x+ctsClaim r
theorem ctsClaim_nil:ctsClaim []=0:=rfl
theorem ctsClaim_cons (x:Claim) (r:List Claim):ctsClaim (x::r)=ctClaim x+ctsClaim r:=rfl
def mkClaim (k:Int) (x:Claim):Claim:={ inst:=k,step:=k+1,user:=k+1+1 }
def mksClaim:Int→List Claim→List Claim
 | _,[]=>[]
 | k,x::r=>mkClaim k x::mksClaim (k+(ctClaim x:Nat)) r
end
set_option maxHeartbeats 4000000 in
theorem lmkintS (n:Nat) (hn:n≤2097152):∀ (rest:List Int) (i:Nat) (es:List (List T)) (k:Int),es.length=n→i+rest.length=n→es.drop i=rest.map iV→0≤k→k+(ctsint rest:Nat) < 2 ^ 60→
  evLoop E (orc E) (25:Nat) (rest.length+1) (loopOf Tryz.f25 0) ⟨19,[(0,.ref 0 0 [] 0 n),(1,vI k),(5,vI i)],[(0,⟨0,0,false,[.own 2 es]⟩)],2⟩=
  some (.exit 0,⟨19,[(0,.ref 0 0 [] 0 n),(1,vI (k+(ctsint rest:Nat))),(5,vI (n:Nat)),(9,vB false)],[(0,⟨0,0,false,[.own 2 (es.take i++(mksint k rest).map iV)]⟩)],2⟩)
 | [],i,es,k,hl,hi,h,h0,h1=>by
  have e:i=n:=by simpa using hi
  subst e
  have hlt:ltI (i:Int) (i:Int)=false:=ltI_f (by omega)
  have ht:es.take i=es:=List.take_of_length_le (by omega)
  rw [loop_eq]
  simp +contextual -dsimp [Tryz.f25,hlt,ht,ctsint_nil,mksint]
 | x::rest,i,es,k,hl,hi,h,h0,h1=>by
  simp only [List.length_cons] at hi
  have hin:i < n:=by omega
  have hi2:i < es.length:=by omega
  have hlt:ltI (i:Int) (n:Int)=true:=ltI_t (by omega)
  have hw:IntKind.i64.wrap ((i:Int)+1)=((i+1:Nat):Int):=by rw [wrapI] <;> omega
  have hd:=List.drop_eq_getElem_cons hi2
  rw [h,List.map_cons,List.cons.injEq] at hd
  obtain ⟨hz1,hr⟩:=hd
  have hz1:=hz1.symm
  rw [ctsint_cons] at h1
  obtain ⟨k1,e1⟩:∃ z,z=k+1:=⟨_,rfl⟩
  have w0:IntKind.i64.wrap (k+1)=k1:=by rw [e1,wrapI] <;> omega
  have hk:k1+(ctsint rest:Nat)=k+(ctsint (x::rest):Nat):=by rw [ctsint_cons]; omega
  have hm:mksint k (x::rest)=k::mksint k1 rest:=by rw [e1]; rfl
  have ih:=lmkintS n hn rest (i+1) (es.set i (iV k)) k1 (by simpa using hl) (by omega) (by rw [List.drop_set_of_lt (by omega)]; exact hr.symm) (by omega) (by omega)
  have hes:(es.set i (iV k)).take (i+1)=es.take i++[iV k]:=by
   rw [List.take_add_one,List.take_set_of_le (Nat.le_refl _)]
   simp [hi2]
  rw [hk,hes,List.append_assoc] at ih
  rw [hm]
  refine evLoop_next ?_ (by simpa only [List.length_cons,List.map_cons,List.singleton_append] using ih)
  simp (maxSteps:=1000000) +contextual -dsimp [Tryz.f25,hlt,hi2,hin,hw,hz1,hl,w0,lendEff,lendOne,lendMany,firstRef,lendRow,lendCell,putRow,putBack,valArg,List.set]
set_option maxHeartbeats 4000000 in
theorem o_markInt64S (l:List Int) (k:Int) (h0:0≤k) (h1:k+(ctsint l:Nat) < 2 ^ 60) (hn:l.length≤2097152):∃ b,fo 25 [⟨.ref 0 0 [] 0 l.length,some ⟨0,0,false,[.own 2 (l.map iV)]⟩⟩,A (vI k)]=some ⟨vI (k+(ctsint l:Nat)),[(0,[.own 2 ((mksint k l).map iV)])],b⟩:=by
 have hlp:=lmkintS l.length hn l 0 (l.map iV) k (by simp) (by simp) rfl h0 (by omega)
 have hcl:=oclean_int (mksint k l)
 refine ⟨true,orc_25 (l.length+1) ?_⟩
 generalize k+(ctsint l:Nat)=k' at *
 generalize mksint k l=l' at *
 simp -dsimp [Tryz.f25] at hlp
 simp (maxSteps:=1000000) +contextual -dsimp [Tryz.f25,hlp,hcl,finishL,mergeL,List.set]
set_option maxHeartbeats 4000000 in
theorem lmkNodeS (n:Nat) (hn:n≤2097152):∀ (rest:List Node) (i:Nat) (es:List (List T)) (k:Int),es.length=n→i+rest.length=n→es.drop i=rest.map nT→0≤k→k+(ctsNode rest:Nat) < 2 ^ 60→
  evLoop E (orc E) (86:Nat) (rest.length+1) (loopOf Tryz.f86 0) ⟨41,[(0,.ref 0 0 [] 0 n),(1,vI k),(5,vI i)],[(0,⟨0,0,false,[.own 219 es]⟩)],2⟩=
  some (.exit 0,⟨41,[(0,.ref 0 0 [] 0 n),(1,vI (k+(ctsNode rest:Nat))),(5,vI (n:Nat)),(9,vB false)],[(0,⟨0,0,false,[.own 219 (es.take i++(mksNode k rest).map nT)]⟩)],2⟩)
 | [],i,es,k,hl,hi,h,h0,h1=>by
  have e:i=n:=by simpa using hi
  subst e
  have hlt:ltI (i:Int) (i:Int)=false:=ltI_f (by omega)
  have ht:es.take i=es:=List.take_of_length_le (by omega)
  rw [loop_eq]
  simp +contextual -dsimp [Tryz.f86,hlt,ht,ctsNode_nil,mksNode]
 | x::rest,i,es,k,hl,hi,h,h0,h1=>by
  simp only [List.length_cons] at hi
  have hin:i < n:=by omega
  have hi2:i < es.length:=by omega
  have hlt:ltI (i:Int) (n:Int)=true:=ltI_t (by omega)
  have hw:IntKind.i64.wrap ((i:Int)+1)=((i+1:Nat):Int):=by rw [wrapI] <;> omega
  have hd:=List.drop_eq_getElem_cons hi2
  rw [h,List.map_cons,List.cons.injEq] at hd
  obtain ⟨hz1,hr⟩:=hd
  have hz1:=hz1.symm
  rw [ctsNode_cons] at h1
  simp only [ctNode] at h1
  obtain ⟨k1,e1⟩:∃ z,z=k+1:=⟨_,rfl⟩
  have w0:IntKind.i64.wrap (k+1)=k1:=by rw [e1,wrapI] <;> omega
  obtain ⟨k2,e2⟩:∃ z,z=k1+1:=⟨_,rfl⟩
  have w1:IntKind.i64.wrap (k1+1)=k2:=by rw [e2,wrapI] <;> omega
  obtain ⟨k3,e3⟩:∃ z,z=k2+1:=⟨_,rfl⟩
  have w2:IntKind.i64.wrap (k2+1)=k3:=by rw [e3,wrapI] <;> omega
  obtain ⟨k4,e4⟩:∃ z,z=k3+1:=⟨_,rfl⟩
  have w3:IntKind.i64.wrap (k3+1)=k4:=by rw [e4,wrapI] <;> omega
  have hk:k4+(ctsNode rest:Nat)=k+(ctsNode (x::rest):Nat):=by rw [ctsNode_cons]; simp only [ctNode]; omega
  have hm:mksNode k (x::rest)=({ kind:=k,value:=k1,left:=k2,right:=k3 }:Node)::mksNode k4 rest:=by
   have e:k4=k+(ctNode x:Nat):=by simp only [ctNode]; omega
   have e2:mkNode k x=({ kind:=k,value:=k1,left:=k2,right:=k3 }:Node):=by subst_vars; rfl
   simp only [mksNode]; rw [e2,e]
  have ih:=lmkNodeS n hn rest (i+1) (es.set i (nT ({ kind:=k,value:=k1,left:=k2,right:=k3 }:Node))) k4 (by simpa using hl) (by omega) (by rw [List.drop_set_of_lt (by omega)]; exact hr.symm) (by omega) (by omega)
  have hes:(es.set i (nT ({ kind:=k,value:=k1,left:=k2,right:=k3 }:Node))).take (i+1)=es.take i++[nT ({ kind:=k,value:=k1,left:=k2,right:=k3 }:Node)]:=by
   rw [List.take_add_one,List.take_set_of_le (Nat.le_refl _)]
   simp [hi2]
  rw [hk,hes,List.append_assoc] at ih
  rw [hm]
  refine evLoop_next ?_ (by simpa only [List.length_cons,List.map_cons,List.singleton_append] using ih)
  simp (maxSteps:=1000000) +contextual -dsimp [Tryz.f86,hlt,hi2,hin,hw,hz1,hl,w0,w1,w2,w3,lendEff,lendOne,lendMany,firstRef,lendRow,lendCell,putRow,putBack,valArg,List.set]
set_option maxHeartbeats 4000000 in
theorem o_markNodeS (l:List Node) (k:Int) (h0:0≤k) (h1:k+(ctsNode l:Nat) < 2 ^ 60) (hn:l.length≤2097152):∃ b,fo 86 [⟨.ref 0 0 [] 0 l.length,some ⟨0,0,false,[.own 219 (l.map nT)]⟩⟩,A (vI k)]=some ⟨vI (k+(ctsNode l:Nat)),[(0,[.own 219 ((mksNode k l).map nT)])],b⟩:=by
 have hlp:=lmkNodeS l.length hn l 0 (l.map nT) k (by simp) (by simp) rfl h0 (by omega)
 have hcl:=oclean_Node (mksNode k l)
 refine ⟨true,orc_86 (l.length+1) ?_⟩
 generalize k+(ctsNode l:Nat)=k' at *
 generalize mksNode k l=l' at *
 simp -dsimp [Tryz.f86] at hlp
 simp (maxSteps:=1000000) +contextual -dsimp [Tryz.f86,hlp,hcl,finishL,mergeL,List.set]
set_option maxHeartbeats 4000000 in
theorem lmkStepS (n:Nat) (hn:n≤2097152):∀ (rest:List Step) (i:Nat) (es:List (List T)) (k:Int),es.length=n→i+rest.length=n→es.drop i=rest.map StepO→(∀ x,x∈rest→wStep x≤2097152)→0≤k→k+(ctsStep rest:Nat) < 2 ^ 60→
  evLoop E (orc E) (24:Nat) (rest.length+1) (loopOf Tryz.f24 0) ⟨56,[(0,.ref 0 0 [] 0 n),(1,vI k),(5,vI i)],[(0,⟨0,0,false,[.own 124 es]⟩)],2⟩=
  some (.exit 0,⟨56,[(0,.ref 0 0 [] 0 n),(1,vI (k+(ctsStep rest:Nat))),(5,vI (n:Nat)),(9,vB false)],[(0,⟨0,0,false,[.own 124 (es.take i++(mksStep k rest).map StepO)]⟩)],2⟩)
 | [],i,es,k,hl,hi,h,hf,h0,h1=>by
  have e:i=n:=by simpa using hi
  subst e
  have hlt:ltI (i:Int) (i:Int)=false:=ltI_f (by omega)
  have ht:es.take i=es:=List.take_of_length_le (by omega)
  rw [loop_eq]
  simp +contextual -dsimp [Tryz.f24,hlt,ht,ctsStep_nil,mksStep]
 | x::rest,i,es,k,hl,hi,h,hf,h0,h1=>by
  have hx:=hf x (by simp)
  simp only [List.length_cons] at hi
  have hin:i < n:=by omega
  have hi2:i < es.length:=by omega
  have hlt:ltI (i:Int) (n:Int)=true:=ltI_t (by omega)
  have hw:IntKind.i64.wrap ((i:Int)+1)=((i+1:Nat):Int):=by rw [wrapI] <;> omega
  have hd:=List.drop_eq_getElem_cons hi2
  rw [h,List.map_cons,List.cons.injEq] at hd
  obtain ⟨hz1,hr⟩:=hd
  have hz1:=hz1.symm
  rw [ctsStep_cons] at h1
  simp only [ctStep] at h1
  obtain ⟨k1,e1⟩:∃ z,z=k+1:=⟨_,rfl⟩
  have w0:IntKind.i64.wrap (k+1)=k1:=by rw [e1,wrapI] <;> omega
  obtain ⟨k2,e2⟩:∃ z,z=k1+1:=⟨_,rfl⟩
  have w1:IntKind.i64.wrap (k1+1)=k2:=by rw [e2,wrapI] <;> omega
  obtain ⟨k3,e3⟩:∃ z,z=k2+1:=⟨_,rfl⟩
  have w2:IntKind.i64.wrap (k2+1)=k3:=by rw [e3,wrapI] <;> omega
  have g2:=o_markText k2 (by omega) (by omega)
  obtain ⟨k4,e4⟩:∃ z,z=k3+1:=⟨_,rfl⟩
  have w3:IntKind.i64.wrap (k3+1)=k4:=by rw [e4,wrapI] <;> omega
  obtain ⟨k5,e5⟩:∃ z,z=k4+(ctsNode x.cond:Nat):=⟨_,rfl⟩
  obtain ⟨b4,g4⟩:=o_markNodeS x.cond k4 (by omega) (by omega) (by simp only [wStep] at hx; omega)
  rw [← e5] at g4
  obtain ⟨k6,e6⟩:∃ z,z=k5+(ctsNode x.expr:Nat):=⟨_,rfl⟩
  obtain ⟨b5,g5⟩:=o_markNodeS x.expr k5 (by omega) (by omega) (by simp only [wStep] at hx; omega)
  rw [← e6] at g5
  have hk:k6+(ctsStep rest:Nat)=k+(ctsStep (x::rest):Nat):=by rw [ctsStep_cons]; simp only [ctStep]; omega
  have hm:mksStep k (x::rest)=({ kind:=k,parent:=k1,name:=mkTx k2,arg:=k3,cond:=mksNode k4 x.cond,expr:=mksNode k5 x.expr }:Step)::mksStep k6 rest:=by
   have e:k6=k+(ctStep x:Nat):=by simp only [ctStep]; omega
   have e2:mkStep k x=({ kind:=k,parent:=k1,name:=mkTx k2,arg:=k3,cond:=mksNode k4 x.cond,expr:=mksNode k5 x.expr }:Step):=by subst_vars; rfl
   simp only [mksStep]; rw [e2,e]
  have ih:=lmkStepS n hn rest (i+1) (es.set i (StepO ({ kind:=k,parent:=k1,name:=mkTx k2,arg:=k3,cond:=mksNode k4 x.cond,expr:=mksNode k5 x.expr }:Step))) k6 (by simpa using hl) (by omega) (by rw [List.drop_set_of_lt (by omega)]; exact hr.symm) (fun y hy=>hf y (by simp [hy])) (by omega) (by omega)
  have hes:(es.set i (StepO ({ kind:=k,parent:=k1,name:=mkTx k2,arg:=k3,cond:=mksNode k4 x.cond,expr:=mksNode k5 x.expr }:Step))).take (i+1)=es.take i++[StepO ({ kind:=k,parent:=k1,name:=mkTx k2,arg:=k3,cond:=mksNode k4 x.cond,expr:=mksNode k5 x.expr }:Step)]:=by
   rw [List.take_add_one,List.take_set_of_le (Nat.le_refl _)]
   simp [hi2]
  rw [hk,hes,List.append_assoc] at ih
  rw [hm]
  refine evLoop_next ?_ (by simpa only [List.length_cons,List.map_cons,List.singleton_append] using ih)
  simp (maxSteps:=1000000) +contextual -dsimp [Tryz.f24,hlt,hi2,hin,hw,hz1,hl,w0,w1,w2,g2,w3,g4,g5,lendEff,lendOne,lendMany,firstRef,lendRow,lendCell,putRow,putBack,valArg,List.set]
set_option maxHeartbeats 4000000 in
theorem o_markStepS (l:List Step) (k:Int) (h0:0≤k) (h1:k+(ctsStep l:Nat) < 2 ^ 60) (hn:l.length≤2097152) (hf:∀ x,x∈l→wStep x≤2097152):∃ b,fo 24 [⟨.ref 0 0 [] 0 l.length,some ⟨0,0,false,[.own 124 (l.map StepO)]⟩⟩,A (vI k)]=some ⟨vI (k+(ctsStep l:Nat)),[(0,[.own 124 ((mksStep k l).map StepO)])],b⟩:=by
 have hlp:=lmkStepS l.length hn l 0 (l.map StepO) k (by simp) (by simp) rfl hf h0 (by omega)
 have hcl:=oclean_Step (mksStep k l)
 refine ⟨true,orc_24 (l.length+1) ?_⟩
 generalize k+(ctsStep l:Nat)=k' at *
 generalize mksStep k l=l' at *
 simp -dsimp [Tryz.f24] at hlp
 simp (maxSteps:=1000000) +contextual -dsimp [Tryz.f24,hlp,hcl,finishL,mergeL,List.set]
set_option maxHeartbeats 4000000 in
theorem lmkProcS (n:Nat) (hn:n≤2097152):∀ (rest:List (List Step)) (i:Nat) (es:List (List T)) (k:Int),es.length=n→i+rest.length=n→es.drop i=rest.map ProcO→(∀ x,x∈rest→wProc x≤2097152)→0≤k→k+(ctsProc rest:Nat) < 2 ^ 60→
  evLoop E (orc E) (119:Nat) (rest.length+1) (loopOf Tryz.f119 0) ⟨20,[(0,.ref 0 0 [] 0 n),(1,vI k),(5,vI i)],[(0,⟨0,0,false,[.own 160 es]⟩)],2⟩=
  some (.exit 0,⟨20,[(0,.ref 0 0 [] 0 n),(1,vI (k+(ctsProc rest:Nat))),(5,vI (n:Nat)),(9,vB false)],[(0,⟨0,0,false,[.own 160 (es.take i++(mksProc k rest).map ProcO)]⟩)],2⟩)
 | [],i,es,k,hl,hi,h,hf,h0,h1=>by
  have e:i=n:=by simpa using hi
  subst e
  have hlt:ltI (i:Int) (i:Int)=false:=ltI_f (by omega)
  have ht:es.take i=es:=List.take_of_length_le (by omega)
  rw [loop_eq]
  simp +contextual -dsimp [Tryz.f119,hlt,ht,ctsProc_nil,mksProc]
 | x::rest,i,es,k,hl,hi,h,hf,h0,h1=>by
  have hx:=hf x (by simp)
  simp only [List.length_cons] at hi
  have hin:i < n:=by omega
  have hi2:i < es.length:=by omega
  have hlt:ltI (i:Int) (n:Int)=true:=ltI_t (by omega)
  have hw:IntKind.i64.wrap ((i:Int)+1)=((i+1:Nat):Int):=by rw [wrapI] <;> omega
  have hd:=List.drop_eq_getElem_cons hi2
  rw [h,List.map_cons,List.cons.injEq] at hd
  obtain ⟨hz1,hr⟩:=hd
  have hz1:=hz1.symm
  rw [ctsProc_cons] at h1
  simp only [ctProc] at h1
  obtain ⟨k1,e1⟩:∃ z,z=k+(ctsStep x:Nat):=⟨_,rfl⟩
  obtain ⟨b0,g0⟩:=o_markStepS x k (by omega) (by omega) (by simp only [wProc,wsStep] at hx; omega) (fun y hy=>by have:=sumStep_mem hy; simp only [wProc,wsStep] at hx; omega)
  rw [← e1] at g0
  have hk:k1+(ctsProc rest:Nat)=k+(ctsProc (x::rest):Nat):=by rw [ctsProc_cons]; simp only [ctProc]; omega
  have hm:mksProc k (x::rest)=(mksStep k x:List Step)::mksProc k1 rest:=by
   have e:k1=k+(ctProc x:Nat):=by simp only [ctProc]; omega
   have e2:mkProc k x=(mksStep k x:List Step):=by subst_vars; rfl
   simp only [mksProc]; rw [e2,e]
  have ih:=lmkProcS n hn rest (i+1) (es.set i (ProcO (mksStep k x:List Step))) k1 (by simpa using hl) (by omega) (by rw [List.drop_set_of_lt (by omega)]; exact hr.symm) (fun y hy=>hf y (by simp [hy])) (by omega) (by omega)
  have hes:(es.set i (ProcO (mksStep k x:List Step))).take (i+1)=es.take i++[ProcO (mksStep k x:List Step)]:=by
   rw [List.take_add_one,List.take_set_of_le (Nat.le_refl _)]
   simp [hi2]
  rw [hk,hes,List.append_assoc] at ih
  rw [hm]
  refine evLoop_next ?_ (by simpa only [List.length_cons,List.map_cons,List.singleton_append] using ih)
  simp (maxSteps:=1000000) +contextual -dsimp [Tryz.f119,hlt,hi2,hin,hw,hz1,hl,g0,lendEff,lendOne,lendMany,firstRef,lendRow,lendCell,putRow,putBack,valArg,List.set]
set_option maxHeartbeats 4000000 in
theorem o_markProcS (l:List (List Step)) (k:Int) (h0:0≤k) (h1:k+(ctsProc l:Nat) < 2 ^ 60) (hn:l.length≤2097152) (hf:∀ x,x∈l→wProc x≤2097152):∃ b,fo 119 [⟨.ref 0 0 [] 0 l.length,some ⟨0,0,false,[.own 160 (l.map ProcO)]⟩⟩,A (vI k)]=some ⟨vI (k+(ctsProc l:Nat)),[(0,[.own 160 ((mksProc k l).map ProcO)])],b⟩:=by
 have hlp:=lmkProcS l.length hn l 0 (l.map ProcO) k (by simp) (by simp) rfl hf h0 (by omega)
 have hcl:=oclean_Proc (mksProc k l)
 refine ⟨true,orc_119 (l.length+1) ?_⟩
 generalize k+(ctsProc l:Nat)=k' at *
 generalize mksProc k l=l' at *
 simp -dsimp [Tryz.f119] at hlp
 simp (maxSteps:=1000000) +contextual -dsimp [Tryz.f119,hlp,hcl,finishL,mergeL,List.set]
set_option maxHeartbeats 4000000 in
theorem lmkInstS (n:Nat) (hn:n≤2097152):∀ (rest:List Inst) (i:Nat) (es:List (List T)) (k:Int),es.length=n→i+rest.length=n→es.drop i=rest.map InstO→(∀ x,x∈rest→wInst x≤2097152)→0≤k→k+(ctsInst rest:Nat) < 2 ^ 60→
  evLoop E (orc E) (120:Nat) (rest.length+1) (loopOf Tryz.f120 0) ⟨60,[(0,.ref 0 0 [] 0 n),(1,vI k),(5,vI i)],[(0,⟨0,0,false,[.own 163 es]⟩)],2⟩=
  some (.exit 0,⟨60,[(0,.ref 0 0 [] 0 n),(1,vI (k+(ctsInst rest:Nat))),(5,vI (n:Nat)),(9,vB false)],[(0,⟨0,0,false,[.own 163 (es.take i++(mksInst k rest).map InstO)]⟩)],2⟩)
 | [],i,es,k,hl,hi,h,hf,h0,h1=>by
  have e:i=n:=by simpa using hi
  subst e
  have hlt:ltI (i:Int) (i:Int)=false:=ltI_f (by omega)
  have ht:es.take i=es:=List.take_of_length_le (by omega)
  rw [loop_eq]
  simp +contextual -dsimp [Tryz.f120,hlt,ht,ctsInst_nil,mksInst]
 | x::rest,i,es,k,hl,hi,h,hf,h0,h1=>by
  have hx:=hf x (by simp)
  simp only [List.length_cons] at hi
  have hin:i < n:=by omega
  have hi2:i < es.length:=by omega
  have hlt:ltI (i:Int) (n:Int)=true:=ltI_t (by omega)
  have hw:IntKind.i64.wrap ((i:Int)+1)=((i+1:Nat):Int):=by rw [wrapI] <;> omega
  have hd:=List.drop_eq_getElem_cons hi2
  rw [h,List.map_cons,List.cons.injEq] at hd
  obtain ⟨hz1,hr⟩:=hd
  have hz1:=hz1.symm
  rw [ctsInst_cons] at h1
  simp only [ctInst] at h1
  obtain ⟨k1,e1⟩:∃ z,z=k+1:=⟨_,rfl⟩
  have w0:IntKind.i64.wrap (k+1)=k1:=by rw [e1,wrapI] <;> omega
  obtain ⟨k2,e2⟩:∃ z,z=k1+1:=⟨_,rfl⟩
  have w1:IntKind.i64.wrap (k1+1)=k2:=by rw [e2,wrapI] <;> omega
  obtain ⟨k3,e3⟩:∃ z,z=k2+1:=⟨_,rfl⟩
  have w2:IntKind.i64.wrap (k2+1)=k3:=by rw [e3,wrapI] <;> omega
  obtain ⟨k4,e4⟩:∃ z,z=k3+(ctsint x.chart.vars:Nat):=⟨_,rfl⟩
  obtain ⟨b3,g3⟩:=o_markInt64S x.chart.vars k3 (by omega) (by omega) (by simp only [wInst,wChart] at hx; omega)
  rw [← e4] at g3
  obtain ⟨k5,e5⟩:∃ z,z=k4+(ctsint x.chart.acts:Nat):=⟨_,rfl⟩
  obtain ⟨b4,g4⟩:=o_markInt64S x.chart.acts k4 (by omega) (by omega) (by simp only [wInst,wChart] at hx; omega)
  rw [← e5] at g4
  obtain ⟨k6,e6⟩:∃ z,z=k5+(ctsint x.chart.dues:Nat):=⟨_,rfl⟩
  obtain ⟨b5,g5⟩:=o_markInt64S x.chart.dues k5 (by omega) (by omega) (by simp only [wInst,wChart] at hx; omega)
  rw [← e6] at g5
  have hk:k6+(ctsInst rest:Nat)=k+(ctsInst (x::rest):Nat):=by rw [ctsInst_cons]; simp only [ctInst]; omega
  have hm:mksInst k (x::rest)=({ proc:=k,chart:={ status:=k1,now:=k2,vars:=mksint k3 x.chart.vars,acts:=mksint k4 x.chart.acts,dues:=mksint k5 x.chart.dues } }:Inst)::mksInst k6 rest:=by
   have e:k6=k+(ctInst x:Nat):=by simp only [ctInst]; omega
   have e2:mkInst k x=({ proc:=k,chart:={ status:=k1,now:=k2,vars:=mksint k3 x.chart.vars,acts:=mksint k4 x.chart.acts,dues:=mksint k5 x.chart.dues } }:Inst):=by subst_vars; rfl
   simp only [mksInst]; rw [e2,e]
  have ih:=lmkInstS n hn rest (i+1) (es.set i (InstO ({ proc:=k,chart:={ status:=k1,now:=k2,vars:=mksint k3 x.chart.vars,acts:=mksint k4 x.chart.acts,dues:=mksint k5 x.chart.dues } }:Inst))) k6 (by simpa using hl) (by omega) (by rw [List.drop_set_of_lt (by omega)]; exact hr.symm) (fun y hy=>hf y (by simp [hy])) (by omega) (by omega)
  have hes:(es.set i (InstO ({ proc:=k,chart:={ status:=k1,now:=k2,vars:=mksint k3 x.chart.vars,acts:=mksint k4 x.chart.acts,dues:=mksint k5 x.chart.dues } }:Inst))).take (i+1)=es.take i++[InstO ({ proc:=k,chart:={ status:=k1,now:=k2,vars:=mksint k3 x.chart.vars,acts:=mksint k4 x.chart.acts,dues:=mksint k5 x.chart.dues } }:Inst)]:=by
   rw [List.take_add_one,List.take_set_of_le (Nat.le_refl _)]
   simp [hi2]
  rw [hk,hes,List.append_assoc] at ih
  rw [hm]
  refine evLoop_next ?_ (by simpa only [List.length_cons,List.map_cons,List.singleton_append] using ih)
  simp (maxSteps:=1000000) +contextual -dsimp [Tryz.f120,hlt,hi2,hin,hw,hz1,hl,w0,w1,w2,g3,g4,g5,lendEff,lendOne,lendMany,firstRef,lendRow,lendCell,putRow,putBack,valArg,List.set]
set_option maxHeartbeats 4000000 in
theorem o_markInstS (l:List Inst) (k:Int) (h0:0≤k) (h1:k+(ctsInst l:Nat) < 2 ^ 60) (hn:l.length≤2097152) (hf:∀ x,x∈l→wInst x≤2097152):∃ b,fo 120 [⟨.ref 0 0 [] 0 l.length,some ⟨0,0,false,[.own 163 (l.map InstO)]⟩⟩,A (vI k)]=some ⟨vI (k+(ctsInst l:Nat)),[(0,[.own 163 ((mksInst k l).map InstO)])],b⟩:=by
 have hlp:=lmkInstS l.length hn l 0 (l.map InstO) k (by simp) (by simp) rfl hf h0 (by omega)
 have hcl:=oclean_Inst (mksInst k l)
 refine ⟨true,orc_120 (l.length+1) ?_⟩
 generalize k+(ctsInst l:Nat)=k' at *
 generalize mksInst k l=l' at *
 simp -dsimp [Tryz.f120] at hlp
 simp (maxSteps:=1000000) +contextual -dsimp [Tryz.f120,hlp,hcl,finishL,mergeL,List.set]
set_option maxHeartbeats 4000000 in
theorem lmkClaimS (n:Nat) (hn:n≤2097152):∀ (rest:List Claim) (i:Nat) (es:List (List T)) (k:Int),es.length=n→i+rest.length=n→es.drop i=rest.map kT→0≤k→k+(ctsClaim rest:Nat) < 2 ^ 60→
  evLoop E (orc E) (103:Nat) (rest.length+1) (loopOf Tryz.f103 0) ⟨34,[(0,.ref 0 0 [] 0 n),(1,vI k),(5,vI i)],[(0,⟨0,0,false,[.own 150 es]⟩)],2⟩=
  some (.exit 0,⟨34,[(0,.ref 0 0 [] 0 n),(1,vI (k+(ctsClaim rest:Nat))),(5,vI (n:Nat)),(9,vB false)],[(0,⟨0,0,false,[.own 150 (es.take i++(mksClaim k rest).map kT)]⟩)],2⟩)
 | [],i,es,k,hl,hi,h,h0,h1=>by
  have e:i=n:=by simpa using hi
  subst e
  have hlt:ltI (i:Int) (i:Int)=false:=ltI_f (by omega)
  have ht:es.take i=es:=List.take_of_length_le (by omega)
  rw [loop_eq]
  simp +contextual -dsimp [Tryz.f103,hlt,ht,ctsClaim_nil,mksClaim]
 | x::rest,i,es,k,hl,hi,h,h0,h1=>by
  simp only [List.length_cons] at hi
  have hin:i < n:=by omega
  have hi2:i < es.length:=by omega
  have hlt:ltI (i:Int) (n:Int)=true:=ltI_t (by omega)
  have hw:IntKind.i64.wrap ((i:Int)+1)=((i+1:Nat):Int):=by rw [wrapI] <;> omega
  have hd:=List.drop_eq_getElem_cons hi2
  rw [h,List.map_cons,List.cons.injEq] at hd
  obtain ⟨hz1,hr⟩:=hd
  have hz1:=hz1.symm
  rw [ctsClaim_cons] at h1
  simp only [ctClaim] at h1
  obtain ⟨k1,e1⟩:∃ z,z=k+1:=⟨_,rfl⟩
  have w0:IntKind.i64.wrap (k+1)=k1:=by rw [e1,wrapI] <;> omega
  obtain ⟨k2,e2⟩:∃ z,z=k1+1:=⟨_,rfl⟩
  have w1:IntKind.i64.wrap (k1+1)=k2:=by rw [e2,wrapI] <;> omega
  obtain ⟨k3,e3⟩:∃ z,z=k2+1:=⟨_,rfl⟩
  have w2:IntKind.i64.wrap (k2+1)=k3:=by rw [e3,wrapI] <;> omega
  have hk:k3+(ctsClaim rest:Nat)=k+(ctsClaim (x::rest):Nat):=by rw [ctsClaim_cons]; simp only [ctClaim]; omega
  have hm:mksClaim k (x::rest)=({ inst:=k,step:=k1,user:=k2 }:Claim)::mksClaim k3 rest:=by
   have e:k3=k+(ctClaim x:Nat):=by simp only [ctClaim]; omega
   have e2:mkClaim k x=({ inst:=k,step:=k1,user:=k2 }:Claim):=by subst_vars; rfl
   simp only [mksClaim]; rw [e2,e]
  have ih:=lmkClaimS n hn rest (i+1) (es.set i (kT ({ inst:=k,step:=k1,user:=k2 }:Claim))) k3 (by simpa using hl) (by omega) (by rw [List.drop_set_of_lt (by omega)]; exact hr.symm) (by omega) (by omega)
  have hes:(es.set i (kT ({ inst:=k,step:=k1,user:=k2 }:Claim))).take (i+1)=es.take i++[kT ({ inst:=k,step:=k1,user:=k2 }:Claim)]:=by
   rw [List.take_add_one,List.take_set_of_le (Nat.le_refl _)]
   simp [hi2]
  rw [hk,hes,List.append_assoc] at ih
  rw [hm]
  refine evLoop_next ?_ (by simpa only [List.length_cons,List.map_cons,List.singleton_append] using ih)
  simp (maxSteps:=1000000) +contextual -dsimp [Tryz.f103,hlt,hi2,hin,hw,hz1,hl,w0,w1,w2,lendEff,lendOne,lendMany,firstRef,lendRow,lendCell,putRow,putBack,valArg,List.set]
set_option maxHeartbeats 4000000 in
theorem o_markClaimS (l:List Claim) (k:Int) (h0:0≤k) (h1:k+(ctsClaim l:Nat) < 2 ^ 60) (hn:l.length≤2097152):∃ b,fo 103 [⟨.ref 0 0 [] 0 l.length,some ⟨0,0,false,[.own 150 (l.map kT)]⟩⟩,A (vI k)]=some ⟨vI (k+(ctsClaim l:Nat)),[(0,[.own 150 ((mksClaim k l).map kT)])],b⟩:=by
 have hlp:=lmkClaimS l.length hn l 0 (l.map kT) k (by simp) (by simp) rfl h0 (by omega)
 have hcl:=oclean_Claim (mksClaim k l)
 refine ⟨true,orc_103 (l.length+1) ?_⟩
 generalize k+(ctsClaim l:Nat)=k' at *
 generalize mksClaim k l=l' at *
 simp -dsimp [Tryz.f103] at hlp
 simp (maxSteps:=1000000) +contextual -dsimp [Tryz.f103,hlp,hcl,finishL,mergeL,List.set]
end Go.TM.Ft
namespace Go.TM.Ft
open Go Go.TM Go.Proofs
set_option maxRecDepth 20000
attribute [local congr] gif_cg
attribute [local simp] footOf noClash clash upsets setsHit setHits layHits layMeets setsMeet evFeet
def czEngine (x:Engine):Nat:=ctsProc x.procs+ctsInst x.insts
noncomputable def mzEngine (k:Int) (x:Engine):Engine:={ x with procs:=mksProc (k) x.procs,insts:=mksInst (k+(ctsProc x.procs:Nat)) x.insts }
set_option maxHeartbeats 4000000 in
theorem o_markEngine (x:Engine) (k:Int) (h0:0≤k) (h1:k+(czEngine x:Nat) < 2 ^ 59) (hx:wEngine x≤2097152):∃ b,fo 44 [⟨.agg [.ref 0 0 [] 0 x.procs.length,.ref 0 0 [] 1 x.insts.length,vI x.now],some ⟨0,0,false,[.own 160 (x.procs.map ProcO),.own 163 (x.insts.map InstO),.dead]⟩⟩,A (vI k)]=some ⟨vI (k+(czEngine x:Nat)),[(0,EngineO (mzEngine k x))],b⟩:=by
 simp only [czEngine] at h1
 obtain ⟨k1,e1⟩:∃ z,z=k+(ctsProc x.procs:Nat):=⟨_,rfl⟩
 obtain ⟨b0,g0⟩:=o_markProcS x.procs k (by omega) (by omega) (by simp only [wEngine,wsProc] at hx; omega) (fun y hy=>by have:=sumProc_mem hy; simp only [wEngine,wsProc] at hx; omega)
 rw [← e1] at g0
 obtain ⟨k2,e2⟩:∃ z,z=k1+(ctsInst x.insts:Nat):=⟨_,rfl⟩
 obtain ⟨b1,g1⟩:=o_markInstS x.insts k1 (by omega) (by omega) (by simp only [wEngine,wsInst] at hx; omega) (fun y hy=>by have:=sumInst_mem hy; simp only [wEngine,wsInst] at hx; omega)
 rw [← e2] at g1
 have hk:k+(czEngine x:Nat)=k2:=by simp only [czEngine]; omega
 have hm:mzEngine k x={ x with procs:=mksProc k x.procs,insts:=mksInst k1 x.insts }:=by subst_vars; rfl
 rw [hk,hm]
 refine ⟨true,orc_44 1 ?_⟩
 simp (maxSteps:=1000000) +contextual -dsimp [Tryz.f44,g0,g1,oclean_Proc,oclean_Inst,evBodyB,boxed,finishB,finishL,mergeL,lendEff,lendOne,lendMany,firstRef,lendRow,lendCell,putRow,putBack,valArg,List.set]
def czDesk (x:Desk):Nat:=czEngine x.eng+ctsClaim x.claims
noncomputable def mzDesk (k:Int) (x:Desk):Desk:={ x with eng:=mzEngine (k) x.eng,claims:=mksClaim (k+(czEngine x.eng:Nat)) x.claims }
set_option maxHeartbeats 4000000 in
theorem o_markDesk (x:Desk) (k:Int) (h0:0≤k) (h1:k+(czDesk x:Nat) < 2 ^ 59) (hx:wDesk x≤2097152):∃ b,fo 35 [⟨.agg [.ref 0 0 [] 0 x.eng.procs.length,.ref 0 0 [] 1 x.eng.insts.length,vI x.eng.now,.ref 0 0 [] 3 x.claims.length],some ⟨0,0,false,[.own 160 (x.eng.procs.map ProcO),.own 163 (x.eng.insts.map InstO),.dead,.own 150 (x.claims.map kT)]⟩⟩,A (vI k)]=some ⟨vI (k+(czDesk x:Nat)),[(0,DeskO (mzDesk k x))],b⟩:=by
 simp only [czDesk] at h1
 obtain ⟨k1,e1⟩:∃ z,z=k+(czEngine x.eng:Nat):=⟨_,rfl⟩
 obtain ⟨b0,g0⟩:=o_markEngine x.eng k (by omega) (by omega) (by simp only [wDesk] at hx; omega)
 rw [← e1] at g0
 obtain ⟨k2,e2⟩:∃ z,z=k1+(ctsClaim x.claims:Nat):=⟨_,rfl⟩
 obtain ⟨b1,g1⟩:=o_markClaimS x.claims k1 (by omega) (by omega) (by simp only [wDesk,wEngine] at hx; omega)
 rw [← e2] at g1
 have hk:k+(czDesk x:Nat)=k2:=by simp only [czDesk]; omega
 have hm:mzDesk k x={ x with eng:=mzEngine k x.eng,claims:=mksClaim k1 x.claims }:=by subst_vars; rfl
 rw [hk,hm]
 refine ⟨true,orc_35 1 ?_⟩
 simp (maxSteps:=1000000) +contextual -dsimp [Tryz.f35,g0,g1,oclean_Proc,oclean_Inst,oclean_Claim,evBodyB,boxed,finishB,finishL,mergeL,lendEff,lendOne,lendMany,firstRef,lendRow,lendCell,putRow,putBack,valArg,List.set]
 all_goals (repeat' (first | rfl | constructor))
end Go.TM.Ft
