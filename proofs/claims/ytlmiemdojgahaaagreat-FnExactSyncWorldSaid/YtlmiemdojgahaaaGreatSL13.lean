/- What functions of the program come to, by the machine. -/
import Derived.Test.YtlmiemdojgahaaaGreatSL12
import Derived.Test.YtlmiemdojgahaaaGreatSL10
set_option linter.unusedSimpArgs false
set_option linter.unusedVariables false
namespace Go.TM.Ft
open Go Go.TM Go.Proofs
set_option maxRecDepth 20000
attribute [local congr] gif_cg
attribute [local simp] footOf noClash clash upsets setsHit setHits layHits layMeets setsMeet evFeet
set_option maxHeartbeats 4000000 in
theorem lhdintS (all:List Int) (hall:all.length≤2097152):∀ (rest:List Int) (i:Nat) (k:Int),all.drop i=mksint k rest→0≤k→k+(ctsint rest:Nat) < 2 ^ 60→
  evLoop E (orc E) (89:Nat) (rest.length+1) (loopOf Tryz.f89 0) ⟨21,[(0,.sl 2 (all.map iV)),(1,vI k),(5,vI i)],[],2⟩=
  some (.exit 0,⟨21,[(0,.sl 2 (all.map iV)),(1,vI (k+(ctsint rest:Nat))),(5,vI (i+rest.length:Nat)),(9,vB false)],[],2⟩)
 | [],i,k,h,h0,h1=>by
  have hge:all.length≤i:=by simpa [mksint] using h
  have hlt:ltI (i:Int) (all.length:Int)=false:=ltI_f (by omega)
  rw [loop_eq]
  simp +contextual -dsimp [Tryz.f89,hlt,ctsint_nil]
 | x::rest,i,k,h,h0,h1=>by
  rw [ctsint_cons] at h1
  have he:i+1+rest.length=i+(rest.length+1):=by omega
  obtain ⟨k1,e1⟩:∃ z,z=k+1:=⟨_,rfl⟩
  have w0:IntKind.i64.wrap (k+1)=k1:=by rw [e1,wrapI] <;> omega
  have hk:k1+(ctsint rest:Nat)=k+(ctsint (x::rest):Nat):=by rw [ctsint_cons]; omega
  have hm:mksint k (x::rest)=k::mksint k1 rest:=by rw [e1]; rfl
  rw [hm] at h
  obtain ⟨hi,hc,hr⟩:=drop_cons h
  have hlt:ltI (i:Int) (all.length:Int)=true:=ltI_t (by omega)
  have hw:IntKind.i64.wrap ((i:Int)+1)=((i+1:Nat):Int):=by rw [wrapI] <;> omega
  have ih:=lhdintS all hall rest (i+1) k1 hr (by omega) (by omega)
  rw [hk,he] at ih
  refine evLoop_next ?_ (by simpa only [List.length_cons] using ih)
  simp (maxSteps:=1000000) +contextual -dsimp [Tryz.f89,hlt,hi,hc,hw,eqI_self,eqS_self,w0,List.set]
theorem mksint_len:∀ (l:List Int) (k:Int),(mksint k l).length=l.length
 | [],_=>rfl
 | x::l,k=>by simp only [mksint,List.length_cons,mksint_len l]
theorem o_heldInt64S (l:List Int) (k:Int) (h0:0≤k) (h1:k+(ctsint l:Nat) < 2 ^ 60) (hn:l.length≤2097152):fo 89 [A (.sl 2 ((mksint k l).map iV)),A (vI k)]=some (R (vI (k+(ctsint l:Nat)))):=by
 have hlp:=lhdintS (mksint k l) (by rw [mksint_len]; exact hn) l 0 k rfl h0 h1
 refine orc_89 (l.length+1) ?_
 generalize k+(ctsint l:Nat)=k' at *
 generalize mksint k l=l' at *
 simp -dsimp [Tryz.f89] at hlp
 simp (maxSteps:=1000000) +contextual -dsimp [Tryz.f89,hlp,List.set]
set_option maxHeartbeats 4000000 in
theorem lhdNodeS (all:List Node) (hall:all.length≤2097152):∀ (rest:List Node) (i:Nat) (k:Int),all.drop i=mksNode k rest→0≤k→k+(ctsNode rest:Nat) < 2 ^ 60→
  evLoop E (orc E) (286:Nat) (rest.length+1) (loopOf Tryz.f286 0) ⟨49,[(0,.sl 219 (all.map nT)),(1,vI k),(5,vI i)],[],2⟩=
  some (.exit 0,⟨49,[(0,.sl 219 (all.map nT)),(1,vI (k+(ctsNode rest:Nat))),(5,vI (i+rest.length:Nat)),(9,vB false)],[],2⟩)
 | [],i,k,h,h0,h1=>by
  have hge:all.length≤i:=by simpa [mksNode] using h
  have hlt:ltI (i:Int) (all.length:Int)=false:=ltI_f (by omega)
  rw [loop_eq]
  simp +contextual -dsimp [Tryz.f286,hlt,ctsNode_nil]
 | x::rest,i,k,h,h0,h1=>by
  rw [ctsNode_cons] at h1
  have he:i+1+rest.length=i+(rest.length+1):=by omega
  simp only [ctNode] at h1
  obtain ⟨k1,e1⟩:∃ z,z=k+1:=⟨_,rfl⟩
  have w0:IntKind.i64.wrap (k+1)=k1:=by rw [e1,wrapI] <;> omega
  obtain ⟨k2,e2⟩:∃ z,z=k1+1:=⟨_,rfl⟩
  have w1:IntKind.i64.wrap (k1+1)=k2:=by rw [e2,wrapI] <;> omega
  obtain ⟨k3,e3⟩:∃ z,z=k2+1:=⟨_,rfl⟩
  have w2:IntKind.i64.wrap (k2+1)=k3:=by rw [e3,wrapI] <;> omega
  obtain ⟨k4,e4⟩:∃ z,z=k3+1:=⟨_,rfl⟩
  have w3:IntKind.i64.wrap (k3+1)=k4:=by rw [e4,wrapI] <;> omega
  have hk:k4+(ctsNode rest:Nat)=k+(ctsNode (x::rest):Nat):=by rw [ctsNode_cons]; simp only [ctNode]; omega
  have hm:mksNode k (x::rest)=({ kind:=k,value:=k1,left:=k2,right:=k3 }:Node)::mksNode k4 rest:=by
   have e:k4=k+(ctNode x:Nat):=by simp only [ctNode]; omega
   have e2:mkNode k x=({ kind:=k,value:=k1,left:=k2,right:=k3 }:Node):=by subst_vars; rfl
   simp only [mksNode]; rw [e2,e]
  rw [hm] at h
  obtain ⟨hi,hc,hr⟩:=drop_cons h
  have hlt:ltI (i:Int) (all.length:Int)=true:=ltI_t (by omega)
  have hw:IntKind.i64.wrap ((i:Int)+1)=((i+1:Nat):Int):=by rw [wrapI] <;> omega
  have ih:=lhdNodeS all hall rest (i+1) k4 hr (by omega) (by omega)
  rw [hk,he] at ih
  refine evLoop_next ?_ (by simpa only [List.length_cons] using ih)
  simp (maxSteps:=1000000) +contextual -dsimp [Tryz.f286,hlt,hi,hc,hw,eqI_self,eqS_self,w0,w1,w2,w3,List.set]
theorem mksNode_len:∀ (l:List Node) (k:Int),(mksNode k l).length=l.length
 | [],_=>rfl
 | x::l,k=>by simp only [mksNode,List.length_cons,mksNode_len l]
theorem o_heldNodeS (l:List Node) (k:Int) (h0:0≤k) (h1:k+(ctsNode l:Nat) < 2 ^ 60) (hn:l.length≤2097152):fo 286 [A (.sl 219 ((mksNode k l).map nT)),A (vI k)]=some (R (vI (k+(ctsNode l:Nat)))):=by
 have hlp:=lhdNodeS (mksNode k l) (by rw [mksNode_len]; exact hn) l 0 k rfl h0 h1
 refine orc_286 (l.length+1) ?_
 generalize k+(ctsNode l:Nat)=k' at *
 generalize mksNode k l=l' at *
 simp -dsimp [Tryz.f286] at hlp
 simp (maxSteps:=1000000) +contextual -dsimp [Tryz.f286,hlp,List.set]
set_option maxHeartbeats 4000000 in
theorem lhdStepS (all:List Step) (hall:all.length≤2097152):∀ (rest:List Step) (i:Nat) (k:Int),all.drop i=mksStep k rest→(∀ x,x∈rest→wStep x≤2097152)→0≤k→k+(ctsStep rest:Nat) < 2 ^ 60→
  evLoop E (orc E) (247:Nat) (rest.length+1) (loopOf Tryz.f247 0) ⟨68,[(0,.sl 124 (all.map (sT 219))),(1,vI k),(5,vI i)],[],2⟩=
  some (.exit 0,⟨68,[(0,.sl 124 (all.map (sT 219))),(1,vI (k+(ctsStep rest:Nat))),(5,vI (i+rest.length:Nat)),(9,vB false)],[],2⟩)
 | [],i,k,h,hf,h0,h1=>by
  have hge:all.length≤i:=by simpa [mksStep] using h
  have hlt:ltI (i:Int) (all.length:Int)=false:=ltI_f (by omega)
  rw [loop_eq]
  simp +contextual -dsimp [Tryz.f247,hlt,ctsStep_nil]
 | x::rest,i,k,h,hf,h0,h1=>by
  have hx:=hf x (by simp)
  rw [ctsStep_cons] at h1
  have he:i+1+rest.length=i+(rest.length+1):=by omega
  simp only [ctStep] at h1
  obtain ⟨k1,e1⟩:∃ z,z=k+1:=⟨_,rfl⟩
  have w0:IntKind.i64.wrap (k+1)=k1:=by rw [e1,wrapI] <;> omega
  obtain ⟨k2,e2⟩:∃ z,z=k1+1:=⟨_,rfl⟩
  have w1:IntKind.i64.wrap (k1+1)=k2:=by rw [e2,wrapI] <;> omega
  obtain ⟨k3,e3⟩:∃ z,z=k2+1:=⟨_,rfl⟩
  have w2:IntKind.i64.wrap (k2+1)=k3:=by rw [e3,wrapI] <;> omega
  have g2:=o_markText k2 (by omega) (by omega)
  obtain ⟨k4,e4⟩:∃ z,z=k3+1:=⟨_,rfl⟩
  have w3:IntKind.i64.wrap (k3+1)=k4:=by rw [e4,wrapI] <;> omega
  obtain ⟨k5,e5⟩:∃ z,z=k4+(ctsNode x.cond:Nat):=⟨_,rfl⟩
  have g4:=o_heldNodeS x.cond k4 (by omega) (by omega) (by simp only [wStep] at hx; omega)
  have n4:ltI k5 0=false:=ltI_f (by omega)
  rw [← e5] at g4
  obtain ⟨k6,e6⟩:∃ z,z=k5+(ctsNode x.expr:Nat):=⟨_,rfl⟩
  have g5:=o_heldNodeS x.expr k5 (by omega) (by omega) (by simp only [wStep] at hx; omega)
  have n5:ltI k6 0=false:=ltI_f (by omega)
  rw [← e6] at g5
  have hk:k6+(ctsStep rest:Nat)=k+(ctsStep (x::rest):Nat):=by rw [ctsStep_cons]; simp only [ctStep]; omega
  have hm:mksStep k (x::rest)=({ kind:=k,parent:=k1,name:=mkTx k2,arg:=k3,cond:=mksNode k4 x.cond,expr:=mksNode k5 x.expr }:Step)::mksStep k6 rest:=by
   have e:k6=k+(ctStep x:Nat):=by simp only [ctStep]; omega
   have e2:mkStep k x=({ kind:=k,parent:=k1,name:=mkTx k2,arg:=k3,cond:=mksNode k4 x.cond,expr:=mksNode k5 x.expr }:Step):=by subst_vars; rfl
   simp only [mksStep]; rw [e2,e]
  rw [hm] at h
  obtain ⟨hi,hc,hr⟩:=drop_cons h
  have hlt:ltI (i:Int) (all.length:Int)=true:=ltI_t (by omega)
  have hw:IntKind.i64.wrap ((i:Int)+1)=((i+1:Nat):Int):=by rw [wrapI] <;> omega
  have ih:=lhdStepS all hall rest (i+1) k6 hr (fun y hy=>hf y (by simp [hy])) (by omega) (by omega)
  rw [hk,he] at ih
  refine evLoop_next ?_ (by simpa only [List.length_cons] using ih)
  simp (maxSteps:=1000000) +contextual -dsimp [Tryz.f247,hlt,hi,hc,hw,eqI_self,eqS_self,w0,w1,w2,g2,w3,n4,g4,n5,g5,List.set]
theorem mksStep_len:∀ (l:List Step) (k:Int),(mksStep k l).length=l.length
 | [],_=>rfl
 | x::l,k=>by simp only [mksStep,List.length_cons,mksStep_len l]
theorem o_heldStepS (l:List Step) (k:Int) (h0:0≤k) (h1:k+(ctsStep l:Nat) < 2 ^ 60) (hn:l.length≤2097152) (hf:∀ x,x∈l→wStep x≤2097152):fo 247 [A (.sl 124 ((mksStep k l).map (sT 219))),A (vI k)]=some (R (vI (k+(ctsStep l:Nat)))):=by
 have hlp:=lhdStepS (mksStep k l) (by rw [mksStep_len]; exact hn) l 0 k rfl hf h0 h1
 refine orc_247 (l.length+1) ?_
 generalize k+(ctsStep l:Nat)=k' at *
 generalize mksStep k l=l' at *
 simp -dsimp [Tryz.f247] at hlp
 simp (maxSteps:=1000000) +contextual -dsimp [Tryz.f247,hlp,List.set]
set_option maxHeartbeats 4000000 in
theorem lhdProcS (all:List (List Step)) (hall:all.length≤2097152):∀ (rest:List (List Step)) (i:Nat) (k:Int),all.drop i=mksProc k rest→(∀ x,x∈rest→wProc x≤2097152)→0≤k→k+(ctsProc rest:Nat) < 2 ^ 60→
  evLoop E (orc E) (191:Nat) (rest.length+1) (loopOf Tryz.f191 0) ⟨22,[(0,.sl 160 (all.map (pT 124 219))),(1,vI k),(5,vI i)],[],2⟩=
  some (.exit 0,⟨22,[(0,.sl 160 (all.map (pT 124 219))),(1,vI (k+(ctsProc rest:Nat))),(5,vI (i+rest.length:Nat)),(9,vB false)],[],2⟩)
 | [],i,k,h,hf,h0,h1=>by
  have hge:all.length≤i:=by simpa [mksProc] using h
  have hlt:ltI (i:Int) (all.length:Int)=false:=ltI_f (by omega)
  rw [loop_eq]
  simp +contextual -dsimp [Tryz.f191,hlt,ctsProc_nil]
 | x::rest,i,k,h,hf,h0,h1=>by
  have hx:=hf x (by simp)
  rw [ctsProc_cons] at h1
  have he:i+1+rest.length=i+(rest.length+1):=by omega
  simp only [ctProc] at h1
  obtain ⟨k1,e1⟩:∃ z,z=k+(ctsStep x:Nat):=⟨_,rfl⟩
  have g0:=o_heldStepS x k (by omega) (by omega) (by simp only [wProc,wsStep] at hx; omega) (fun y hy=>by have:=sumStep_mem hy; simp only [wProc,wsStep] at hx; omega)
  have n0:ltI k1 0=false:=ltI_f (by omega)
  rw [← e1] at g0
  have hk:k1+(ctsProc rest:Nat)=k+(ctsProc (x::rest):Nat):=by rw [ctsProc_cons]; simp only [ctProc]; omega
  have hm:mksProc k (x::rest)=(mksStep k x:List Step)::mksProc k1 rest:=by
   have e:k1=k+(ctProc x:Nat):=by simp only [ctProc]; omega
   have e2:mkProc k x=(mksStep k x:List Step):=by subst_vars; rfl
   simp only [mksProc]; rw [e2,e]
  rw [hm] at h
  obtain ⟨hi,hc,hr⟩:=drop_cons h
  have hlt:ltI (i:Int) (all.length:Int)=true:=ltI_t (by omega)
  have hw:IntKind.i64.wrap ((i:Int)+1)=((i+1:Nat):Int):=by rw [wrapI] <;> omega
  have ih:=lhdProcS all hall rest (i+1) k1 hr (fun y hy=>hf y (by simp [hy])) (by omega) (by omega)
  rw [hk,he] at ih
  refine evLoop_next ?_ (by simpa only [List.length_cons] using ih)
  simp (maxSteps:=1000000) +contextual -dsimp [Tryz.f191,hlt,hi,hc,hw,eqI_self,eqS_self,n0,g0,List.set]
theorem mksProc_len:∀ (l:List (List Step)) (k:Int),(mksProc k l).length=l.length
 | [],_=>rfl
 | x::l,k=>by simp only [mksProc,List.length_cons,mksProc_len l]
theorem o_heldProcS (l:List (List Step)) (k:Int) (h0:0≤k) (h1:k+(ctsProc l:Nat) < 2 ^ 60) (hn:l.length≤2097152) (hf:∀ x,x∈l→wProc x≤2097152):fo 191 [A (.sl 160 ((mksProc k l).map (pT 124 219))),A (vI k)]=some (R (vI (k+(ctsProc l:Nat)))):=by
 have hlp:=lhdProcS (mksProc k l) (by rw [mksProc_len]; exact hn) l 0 k rfl hf h0 h1
 refine orc_191 (l.length+1) ?_
 generalize k+(ctsProc l:Nat)=k' at *
 generalize mksProc k l=l' at *
 simp -dsimp [Tryz.f191] at hlp
 simp (maxSteps:=1000000) +contextual -dsimp [Tryz.f191,hlp,List.set]
set_option maxHeartbeats 4000000 in
theorem lhdInstS (all:List Inst) (hall:all.length≤2097152):∀ (rest:List Inst) (i:Nat) (k:Int),all.drop i=mksInst k rest→(∀ x,x∈rest→wInst x≤2097152)→0≤k→k+(ctsInst rest:Nat) < 2 ^ 60→
  evLoop E (orc E) (192:Nat) (rest.length+1) (loopOf Tryz.f192 0) ⟨72,[(0,.sl 163 (all.map xT)),(1,vI k),(5,vI i)],[],2⟩=
  some (.exit 0,⟨72,[(0,.sl 163 (all.map xT)),(1,vI (k+(ctsInst rest:Nat))),(5,vI (i+rest.length:Nat)),(9,vB false)],[],2⟩)
 | [],i,k,h,hf,h0,h1=>by
  have hge:all.length≤i:=by simpa [mksInst] using h
  have hlt:ltI (i:Int) (all.length:Int)=false:=ltI_f (by omega)
  rw [loop_eq]
  simp +contextual -dsimp [Tryz.f192,hlt,ctsInst_nil]
 | x::rest,i,k,h,hf,h0,h1=>by
  have hx:=hf x (by simp)
  rw [ctsInst_cons] at h1
  have he:i+1+rest.length=i+(rest.length+1):=by omega
  simp only [ctInst] at h1
  obtain ⟨k1,e1⟩:∃ z,z=k+1:=⟨_,rfl⟩
  have w0:IntKind.i64.wrap (k+1)=k1:=by rw [e1,wrapI] <;> omega
  obtain ⟨k2,e2⟩:∃ z,z=k1+1:=⟨_,rfl⟩
  have w1:IntKind.i64.wrap (k1+1)=k2:=by rw [e2,wrapI] <;> omega
  obtain ⟨k3,e3⟩:∃ z,z=k2+1:=⟨_,rfl⟩
  have w2:IntKind.i64.wrap (k2+1)=k3:=by rw [e3,wrapI] <;> omega
  obtain ⟨k4,e4⟩:∃ z,z=k3+(ctsint x.chart.vars:Nat):=⟨_,rfl⟩
  have g3:=o_heldInt64S x.chart.vars k3 (by omega) (by omega) (by simp only [wInst,wChart] at hx; omega)
  have n3:ltI k4 0=false:=ltI_f (by omega)
  rw [← e4] at g3
  obtain ⟨k5,e5⟩:∃ z,z=k4+(ctsint x.chart.acts:Nat):=⟨_,rfl⟩
  have g4:=o_heldInt64S x.chart.acts k4 (by omega) (by omega) (by simp only [wInst,wChart] at hx; omega)
  have n4:ltI k5 0=false:=ltI_f (by omega)
  rw [← e5] at g4
  obtain ⟨k6,e6⟩:∃ z,z=k5+(ctsint x.chart.dues:Nat):=⟨_,rfl⟩
  have g5:=o_heldInt64S x.chart.dues k5 (by omega) (by omega) (by simp only [wInst,wChart] at hx; omega)
  have n5:ltI k6 0=false:=ltI_f (by omega)
  rw [← e6] at g5
  have hk:k6+(ctsInst rest:Nat)=k+(ctsInst (x::rest):Nat):=by rw [ctsInst_cons]; simp only [ctInst]; omega
  have hm:mksInst k (x::rest)=({ proc:=k,chart:={ status:=k1,now:=k2,vars:=mksint k3 x.chart.vars,acts:=mksint k4 x.chart.acts,dues:=mksint k5 x.chart.dues } }:Inst)::mksInst k6 rest:=by
   have e:k6=k+(ctInst x:Nat):=by simp only [ctInst]; omega
   have e2:mkInst k x=({ proc:=k,chart:={ status:=k1,now:=k2,vars:=mksint k3 x.chart.vars,acts:=mksint k4 x.chart.acts,dues:=mksint k5 x.chart.dues } }:Inst):=by subst_vars; rfl
   simp only [mksInst]; rw [e2,e]
  rw [hm] at h
  obtain ⟨hi,hc,hr⟩:=drop_cons h
  have hlt:ltI (i:Int) (all.length:Int)=true:=ltI_t (by omega)
  have hw:IntKind.i64.wrap ((i:Int)+1)=((i+1:Nat):Int):=by rw [wrapI] <;> omega
  have ih:=lhdInstS all hall rest (i+1) k6 hr (fun y hy=>hf y (by simp [hy])) (by omega) (by omega)
  rw [hk,he] at ih
  refine evLoop_next ?_ (by simpa only [List.length_cons] using ih)
  simp (maxSteps:=1000000) +contextual -dsimp [Tryz.f192,hlt,hi,hc,hw,eqI_self,eqS_self,w0,w1,w2,n3,g3,n4,g4,n5,g5,List.set]
theorem mksInst_len:∀ (l:List Inst) (k:Int),(mksInst k l).length=l.length
 | [],_=>rfl
 | x::l,k=>by simp only [mksInst,List.length_cons,mksInst_len l]
theorem o_heldInstS (l:List Inst) (k:Int) (h0:0≤k) (h1:k+(ctsInst l:Nat) < 2 ^ 60) (hn:l.length≤2097152) (hf:∀ x,x∈l→wInst x≤2097152):fo 192 [A (.sl 163 ((mksInst k l).map xT)),A (vI k)]=some (R (vI (k+(ctsInst l:Nat)))):=by
 have hlp:=lhdInstS (mksInst k l) (by rw [mksInst_len]; exact hn) l 0 k rfl hf h0 h1
 refine orc_192 (l.length+1) ?_
 generalize k+(ctsInst l:Nat)=k' at *
 generalize mksInst k l=l' at *
 simp -dsimp [Tryz.f192] at hlp
 simp (maxSteps:=1000000) +contextual -dsimp [Tryz.f192,hlp,List.set]
set_option maxHeartbeats 4000000 in
theorem lhdClaimS (all:List Claim) (hall:all.length≤2097152):∀ (rest:List Claim) (i:Nat) (k:Int),all.drop i=mksClaim k rest→0≤k→k+(ctsClaim rest:Nat) < 2 ^ 60→
  evLoop E (orc E) (178:Nat) (rest.length+1) (loopOf Tryz.f178 0) ⟨40,[(0,.sl 150 (all.map kT)),(1,vI k),(5,vI i)],[],2⟩=
  some (.exit 0,⟨40,[(0,.sl 150 (all.map kT)),(1,vI (k+(ctsClaim rest:Nat))),(5,vI (i+rest.length:Nat)),(9,vB false)],[],2⟩)
 | [],i,k,h,h0,h1=>by
  have hge:all.length≤i:=by simpa [mksClaim] using h
  have hlt:ltI (i:Int) (all.length:Int)=false:=ltI_f (by omega)
  rw [loop_eq]
  simp +contextual -dsimp [Tryz.f178,hlt,ctsClaim_nil]
 | x::rest,i,k,h,h0,h1=>by
  rw [ctsClaim_cons] at h1
  have he:i+1+rest.length=i+(rest.length+1):=by omega
  simp only [ctClaim] at h1
  obtain ⟨k1,e1⟩:∃ z,z=k+1:=⟨_,rfl⟩
  have w0:IntKind.i64.wrap (k+1)=k1:=by rw [e1,wrapI] <;> omega
  obtain ⟨k2,e2⟩:∃ z,z=k1+1:=⟨_,rfl⟩
  have w1:IntKind.i64.wrap (k1+1)=k2:=by rw [e2,wrapI] <;> omega
  obtain ⟨k3,e3⟩:∃ z,z=k2+1:=⟨_,rfl⟩
  have w2:IntKind.i64.wrap (k2+1)=k3:=by rw [e3,wrapI] <;> omega
  have hk:k3+(ctsClaim rest:Nat)=k+(ctsClaim (x::rest):Nat):=by rw [ctsClaim_cons]; simp only [ctClaim]; omega
  have hm:mksClaim k (x::rest)=({ inst:=k,step:=k1,user:=k2 }:Claim)::mksClaim k3 rest:=by
   have e:k3=k+(ctClaim x:Nat):=by simp only [ctClaim]; omega
   have e2:mkClaim k x=({ inst:=k,step:=k1,user:=k2 }:Claim):=by subst_vars; rfl
   simp only [mksClaim]; rw [e2,e]
  rw [hm] at h
  obtain ⟨hi,hc,hr⟩:=drop_cons h
  have hlt:ltI (i:Int) (all.length:Int)=true:=ltI_t (by omega)
  have hw:IntKind.i64.wrap ((i:Int)+1)=((i+1:Nat):Int):=by rw [wrapI] <;> omega
  have ih:=lhdClaimS all hall rest (i+1) k3 hr (by omega) (by omega)
  rw [hk,he] at ih
  refine evLoop_next ?_ (by simpa only [List.length_cons] using ih)
  simp (maxSteps:=1000000) +contextual -dsimp [Tryz.f178,hlt,hi,hc,hw,eqI_self,eqS_self,w0,w1,w2,List.set]
theorem mksClaim_len:∀ (l:List Claim) (k:Int),(mksClaim k l).length=l.length
 | [],_=>rfl
 | x::l,k=>by simp only [mksClaim,List.length_cons,mksClaim_len l]
theorem o_heldClaimS (l:List Claim) (k:Int) (h0:0≤k) (h1:k+(ctsClaim l:Nat) < 2 ^ 60) (hn:l.length≤2097152):fo 178 [A (.sl 150 ((mksClaim k l).map kT)),A (vI k)]=some (R (vI (k+(ctsClaim l:Nat)))):=by
 have hlp:=lhdClaimS (mksClaim k l) (by rw [mksClaim_len]; exact hn) l 0 k rfl h0 h1
 refine orc_178 (l.length+1) ?_
 generalize k+(ctsClaim l:Nat)=k' at *
 generalize mksClaim k l=l' at *
 simp -dsimp [Tryz.f178] at hlp
 simp (maxSteps:=1000000) +contextual -dsimp [Tryz.f178,hlp,List.set]
end Go.TM.Ft
namespace Go.TM.Ft
open Go Go.TM Go.Proofs
set_option maxRecDepth 20000
attribute [local congr] gif_cg
attribute [local simp] footOf noClash clash upsets setsHit setHits layHits layMeets setsMeet evFeet
set_option maxHeartbeats 4000000 in
theorem o_heldEngine (x:Engine) (k:Int) (h0:0≤k) (h1:k+(czEngine x:Nat) < 2 ^ 59) (hx:wEngine x≤2097152):fo 121 [A (.agg (eT (mzEngine k x))),A (vI k)]=some (R (vI (k+(czEngine x:Nat)))):=by
 simp only [czEngine] at h1
 obtain ⟨k1,e1⟩:∃ z,z=k+(ctsProc x.procs:Nat):=⟨_,rfl⟩
 have g0:=o_heldProcS x.procs k (by omega) (by omega) (by simp only [wEngine,wsProc] at hx; omega) (fun y hy=>by have:=sumProc_mem hy; simp only [wEngine,wsProc] at hx; omega)
 rw [← e1] at g0
 have n0:ltI k1 0=false:=ltI_f (by omega)
 obtain ⟨k2,e2⟩:∃ z,z=k1+(ctsInst x.insts:Nat):=⟨_,rfl⟩
 have g1:=o_heldInstS x.insts k1 (by omega) (by omega) (by simp only [wEngine,wsInst] at hx; omega) (fun y hy=>by have:=sumInst_mem hy; simp only [wEngine,wsInst] at hx; omega)
 rw [← e2] at g1
 have n1:ltI k2 0=false:=ltI_f (by omega)
 have hk:k+(czEngine x:Nat)=k2:=by simp only [czEngine]; omega
 have hm:mzEngine k x={ x with procs:=mksProc k x.procs,insts:=mksInst k1 x.insts }:=by subst_vars; rfl
 rw [hk,hm]
 refine orc_121 1 ?_
 simp (maxSteps:=1000000) +contextual -dsimp [Tryz.f121,g0,n0,g1,n1,List.set]
set_option maxHeartbeats 4000000 in
theorem o_heldDesk (x:Desk) (k:Int) (h0:0≤k) (h1:k+(czDesk x:Nat) < 2 ^ 59) (hx:wDesk x≤2097152):fo 104 [A (.agg (dT (mzDesk k x))),A (vI k)]=some (R (vI (k+(czDesk x:Nat)))):=by
 simp only [czDesk] at h1
 obtain ⟨k1,e1⟩:∃ z,z=k+(czEngine x.eng:Nat):=⟨_,rfl⟩
 have g0:=o_heldEngine x.eng k (by omega) (by omega) (by simp only [wDesk] at hx; omega)
 rw [← e1] at g0
 have n0:ltI k1 0=false:=ltI_f (by omega)
 obtain ⟨k2,e2⟩:∃ z,z=k1+(ctsClaim x.claims:Nat):=⟨_,rfl⟩
 have g1:=o_heldClaimS x.claims k1 (by omega) (by omega) (by simp only [wDesk,wEngine] at hx; omega)
 rw [← e2] at g1
 have n1:ltI k2 0=false:=ltI_f (by omega)
 have hk:k+(czDesk x:Nat)=k2:=by simp only [czDesk]; omega
 have hm:mzDesk k x={ x with eng:=mzEngine k x.eng,claims:=mksClaim k1 x.claims }:=by subst_vars; rfl
 rw [hk,hm]
 refine orc_104 1 ?_
 simp (maxSteps:=1000000) +contextual -dsimp [Tryz.f104,g0,n0,g1,n1,List.set]
end Go.TM.Ft
namespace Go.TM.Ft
open Go Go.TM Go.Proofs
set_option maxRecDepth 20000
attribute [local congr] gif_cg
attribute [local simp] fresh ownLen footOf noClash clash upsets setsHit setHits layHits layMeets setsMeet evFeet
abbrev zI:List T:=[vI 0]
theorem oltointS (all:List Int) (hall:all.length≤1048576):∀ (rest:List Int) (i:Nat) (es:List (List T)),all.drop i=rest→es.length=all.length→(∀ j,i≤j→j < all.length→es[j]?=some zI)→
  evLoop E (orc E) (17:Nat) (rest.length+1) (loopOf Tryz.f17 0) ⟨22,[(0,.sl 2 (all.map iV)),(3,.ref 3 1 [] 0 all.length),(4,vI i)],[(3,⟨1,1,false,[.own 2 es]⟩)],2⟩=
  some (.exit 0,⟨22,[(0,.sl 2 (all.map iV)),(3,.ref 3 1 [] 0 all.length),(4,vI (i+rest.length:Nat)),(11,vB false)],[(3,⟨1,1,false,[.own 2 (es.take i++rest.map iV)]⟩)],2⟩)
 | [],i,es,h,hl,hz=>by
  have hge:all.length≤i:=by simpa using h
  have hlt:ltI (i:Int) (all.length:Int)=false:=ltI_f (by omega)
  have ht:es.take i=es:=List.take_of_length_le (by omega)
  rw [loop_eq]
  simp +contextual -dsimp [Tryz.f17,hlt,ht]
 | x::rest,i,es,h,hl,hz=>by
  obtain ⟨hi,hc,hr⟩:=drop_cons h
  have hlt:ltI (i:Int) (all.length:Int)=true:=ltI_t (by omega)
  have hw:IntKind.i64.wrap ((i:Int)+1)=((i+1:Nat):Int):=by rw [wrapI] <;> omega
  have hi2:i < es.length:=by omega
  have hz1:es[i]=zI:=by
   have:=hz i (Nat.le_refl _) hi
   rw [List.getElem?_eq_getElem hi2] at this
   simpa using this
  have ih:=oltointS all hall rest (i+1) (es.set i (iV x)) hr (by simpa using hl) (fun j hj hj2=>by
   rw [List.getElem?_set_ne (by omega)]
   exact hz j (by omega) hj2)
  have he:i+1+rest.length=i+(rest.length+1):=by omega
  have hes:(es.set i (iV x)).take (i+1)=es.take i++[iV x]:=by
   rw [List.take_add_one,List.take_set_of_le (Nat.le_refl _)]
   simp [hi2]
  rw [he,hes,List.append_assoc] at ih
  refine evLoop_next ?_ (by simpa only [List.length_cons,List.map_cons,List.singleton_append] using ih)
  simp (maxSteps:=1000000) +contextual -dsimp [Tryz.f17,hlt,hi,hi2,hc,hw,hz1,hl,List.set]
theorem o_tointS (l:List Int) (hl:l.length≤1048576):fo 17 [A (.sl 2 (l.map iV))]=some ⟨.own 2 (l.map iV),[],true⟩:=by
 have hm:(l.length:Int)≤(maxElems:Nat):=by unfold maxElems; omega
 have hlp:=oltointS l hl l 0 (List.replicate l.length zI) rfl (by simp) (fun j _ hj=>by simp [hj])
 have hcl:=oclean_int l
 refine orc_17 (l.length+1) ?_
 simp -dsimp [Tryz.f17] at hlp
 simp (maxSteps:=1000000) +contextual -dsimp [Tryz.f17,hm,hlp,hcl,finishL,mergeL,List.set]
theorem o_toNode (x:Node):fo 231 [A (.agg (nT x))]=some ⟨.agg (nT x),[],true⟩:=by
 refine orc_231 1 ?_
 simp (maxSteps:=1000000) +contextual -dsimp [Tryz.f231,List.set]
theorem oltoNodeS (all:List Node) (hall:all.length≤1048576):∀ (rest:List Node) (i:Nat) (es:List (List T)),all.drop i=rest→es.length=all.length→(∀ j,i≤j→j < all.length→es[j]?=some [vI 0,vI 0,vI 0,vI 0])→
  evLoop E (orc E) (166:Nat) (rest.length+1) (loopOf Tryz.f166 0) ⟨23,[(0,.sl 267 (all.map nT)),(3,.ref 3 1 [] 0 all.length),(4,vI i)],[(3,⟨1,1,false,[.own 219 es]⟩)],2⟩=
  some (.exit 0,⟨23,[(0,.sl 267 (all.map nT)),(3,.ref 3 1 [] 0 all.length),(4,vI (i+rest.length:Nat)),(11,vB false)],[(3,⟨1,1,false,[.own 219 (es.take i++rest.map nT)]⟩)],2⟩)
 | [],i,es,h,hl,hz=>by
  have hge:all.length≤i:=by simpa using h
  have hlt:ltI (i:Int) (all.length:Int)=false:=ltI_f (by omega)
  have ht:es.take i=es:=List.take_of_length_le (by omega)
  rw [loop_eq]
  simp +contextual -dsimp [Tryz.f166,hlt,ht]
 | x::rest,i,es,h,hl,hz=>by
  obtain ⟨hi,hc,hr⟩:=drop_cons h
  have hlt:ltI (i:Int) (all.length:Int)=true:=ltI_t (by omega)
  have hw:IntKind.i64.wrap ((i:Int)+1)=((i+1:Nat):Int):=by rw [wrapI] <;> omega
  have hi2:i < es.length:=by omega
  have hz1:es[i]=[vI 0,vI 0,vI 0,vI 0]:=by
   have:=hz i (Nat.le_refl _) hi
   rw [List.getElem?_eq_getElem hi2] at this
   simpa using this
  have ih:=oltoNodeS all hall rest (i+1) (es.set i (nT x)) hr (by simpa using hl) (fun j hj hj2=>by
   rw [List.getElem?_set_ne (by omega)]
   exact hz j (by omega) hj2)
  have he:i+1+rest.length=i+(rest.length+1):=by omega
  have hes:(es.set i (nT x)).take (i+1)=es.take i++[nT x]:=by
   rw [List.take_add_one,List.take_set_of_le (Nat.le_refl _)]
   simp [hi2]
  rw [he,hes,List.append_assoc] at ih
  have g:=o_toNode x
  refine evLoop_next ?_ (by simpa only [List.length_cons,List.map_cons,List.singleton_append] using ih)
  simp (maxSteps:=1000000) +contextual -dsimp [Tryz.f166,hlt,hi,hi2,hc,hw,hz1,hl,g,List.set]
theorem o_toNodeS (l:List Node) (hl:l.length≤1048576):fo 166 [A (.sl 267 (l.map nT))]=some ⟨.own 219 (l.map nT),[],true⟩:=by
 have hm:(l.length:Int)≤(maxElems:Nat):=by unfold maxElems; omega
 have hlp:=oltoNodeS l hl l 0 (List.replicate l.length [vI 0,vI 0,vI 0,vI 0]) rfl (by simp) (fun j _ hj=>by simp [hj])
 have hcl:=oclean_Node l
 refine orc_166 (l.length+1) ?_
 simp -dsimp [Tryz.f166] at hlp
 simp (maxSteps:=1000000) +contextual -dsimp [Tryz.f166,hm,hlp,hcl,finishL,mergeL,List.set]
theorem o_toStep (x:Step) (h:wStep x≤1048576):fo 75 [A (.agg (sT 267 x))]=some ⟨.agg (StepO x),[],true⟩:=by
 have g4:=o_toNodeS x.cond (by simp only [wStep] at h; omega)
 have s4:=oclean_Node x.cond
 have g5:=o_toNodeS x.expr (by simp only [wStep] at h; omega)
 have s5:=oclean_Node x.expr
 refine orc_75 1 ?_
 simp (maxSteps:=1000000) +contextual -dsimp [Tryz.f75,g4,s4,g5,s5,List.set]
theorem oltoStepS (all:List Step) (hall:all.length≤1048576) (hf:∀ x,x∈all→wStep x≤1048576):∀ (rest:List Step) (i:Nat) (es:List (List T)),all.drop i=rest→es.length=all.length→(∀ j,i≤j→j < all.length→es[j]?=some [vI 0,vI 0,vS emp,vI 0,.own 219 [],.own 219 []])→
  evLoop E (orc E) (16:Nat) (rest.length+1) (loopOf Tryz.f16 0) ⟨23,[(0,.sl 111 (all.map (sT 267))),(3,.ref 3 1 [] 0 all.length),(4,vI i)],[(3,⟨1,1,false,[.own 124 es]⟩)],2⟩=
  some (.exit 0,⟨23,[(0,.sl 111 (all.map (sT 267))),(3,.ref 3 1 [] 0 all.length),(4,vI (i+rest.length:Nat)),(11,vB false)],[(3,⟨1,1,false,[.own 124 (es.take i++rest.map StepO)]⟩)],2⟩)
 | [],i,es,h,hl,hz=>by
  have hge:all.length≤i:=by simpa using h
  have hlt:ltI (i:Int) (all.length:Int)=false:=ltI_f (by omega)
  have ht:es.take i=es:=List.take_of_length_le (by omega)
  rw [loop_eq]
  simp +contextual -dsimp [Tryz.f16,hlt,ht]
 | x::rest,i,es,h,hl,hz=>by
  obtain ⟨hi,hc,hr⟩:=drop_cons h
  have hlt:ltI (i:Int) (all.length:Int)=true:=ltI_t (by omega)
  have hw:IntKind.i64.wrap ((i:Int)+1)=((i+1:Nat):Int):=by rw [wrapI] <;> omega
  have hi2:i < es.length:=by omega
  have hz1:es[i]=[vI 0,vI 0,vS emp,vI 0,.own 219 [],.own 219 []]:=by
   have:=hz i (Nat.le_refl _) hi
   rw [List.getElem?_eq_getElem hi2] at this
   simpa using this
  have ih:=oltoStepS all hall hf rest (i+1) (es.set i (StepO x)) hr (by simpa using hl) (fun j hj hj2=>by
   rw [List.getElem?_set_ne (by omega)]
   exact hz j (by omega) hj2)
  have he:i+1+rest.length=i+(rest.length+1):=by omega
  have hes:(es.set i (StepO x)).take (i+1)=es.take i++[StepO x]:=by
   rw [List.take_add_one,List.take_set_of_le (Nat.le_refl _)]
   simp [hi2]
  rw [he,hes,List.append_assoc] at ih
  have g:=o_toStep x (hf x (by rw [← hc]; exact List.getElem_mem _))
  refine evLoop_next ?_ (by simpa only [List.length_cons,List.map_cons,List.singleton_append] using ih)
  simp (maxSteps:=1000000) +contextual -dsimp [Tryz.f16,hlt,hi,hi2,hc,hw,hz1,hl,g,List.set]
theorem o_toStepS (l:List Step) (hl:l.length≤1048576) (hf:∀ x,x∈l→wStep x≤1048576):fo 16 [A (.sl 111 (l.map (sT 267)))]=some ⟨.own 124 (l.map StepO),[],true⟩:=by
 have hm:(l.length:Int)≤(maxElems:Nat):=by unfold maxElems; omega
 have hlp:=oltoStepS l hl hf l 0 (List.replicate l.length [vI 0,vI 0,vS emp,vI 0,.own 219 [],.own 219 []]) rfl (by simp) (fun j _ hj=>by simp [hj])
 have hcl:=oclean_Step l
 refine orc_16 (l.length+1) ?_
 simp -dsimp [Tryz.f16] at hlp
 simp (maxSteps:=1000000) +contextual -dsimp [Tryz.f16,hm,hlp,hcl,finishL,mergeL,List.set]
theorem o_toProc (x:List Step) (h:wProc x≤1048576):fo 183 [A (.agg (pT 111 267 x))]=some ⟨.agg (ProcO x),[],true⟩:=by
 have g0:=o_toStepS x (by simp only [wProc,wsStep] at h; omega) (fun y hy=>by have:=sumStep_mem hy; simp only [wProc,wsStep] at h; omega)
 have s0:=oclean_Step x
 refine orc_183 1 ?_
 simp (maxSteps:=1000000) +contextual -dsimp [Tryz.f183,g0,s0,List.set]
theorem oltoProcS (all:List (List Step)) (hall:all.length≤1048576) (hf:∀ x,x∈all→wProc x≤1048576):∀ (rest:List (List Step)) (i:Nat) (es:List (List T)),all.drop i=rest→es.length=all.length→(∀ j,i≤j→j < all.length→es[j]?=some [.own 124 []])→
  evLoop E (orc E) (111:Nat) (rest.length+1) (loopOf Tryz.f111 0) ⟨23,[(0,.sl 225 (all.map (pT 111 267))),(3,.ref 3 1 [] 0 all.length),(4,vI i)],[(3,⟨1,1,false,[.own 160 es]⟩)],2⟩=
  some (.exit 0,⟨23,[(0,.sl 225 (all.map (pT 111 267))),(3,.ref 3 1 [] 0 all.length),(4,vI (i+rest.length:Nat)),(11,vB false)],[(3,⟨1,1,false,[.own 160 (es.take i++rest.map ProcO)]⟩)],2⟩)
 | [],i,es,h,hl,hz=>by
  have hge:all.length≤i:=by simpa using h
  have hlt:ltI (i:Int) (all.length:Int)=false:=ltI_f (by omega)
  have ht:es.take i=es:=List.take_of_length_le (by omega)
  rw [loop_eq]
  simp +contextual -dsimp [Tryz.f111,hlt,ht]
 | x::rest,i,es,h,hl,hz=>by
  obtain ⟨hi,hc,hr⟩:=drop_cons h
  have hlt:ltI (i:Int) (all.length:Int)=true:=ltI_t (by omega)
  have hw:IntKind.i64.wrap ((i:Int)+1)=((i+1:Nat):Int):=by rw [wrapI] <;> omega
  have hi2:i < es.length:=by omega
  have hz1:es[i]=[.own 124 []]:=by
   have:=hz i (Nat.le_refl _) hi
   rw [List.getElem?_eq_getElem hi2] at this
   simpa using this
  have ih:=oltoProcS all hall hf rest (i+1) (es.set i (ProcO x)) hr (by simpa using hl) (fun j hj hj2=>by
   rw [List.getElem?_set_ne (by omega)]
   exact hz j (by omega) hj2)
  have he:i+1+rest.length=i+(rest.length+1):=by omega
  have hes:(es.set i (ProcO x)).take (i+1)=es.take i++[ProcO x]:=by
   rw [List.take_add_one,List.take_set_of_le (Nat.le_refl _)]
   simp [hi2]
  rw [he,hes,List.append_assoc] at ih
  have g:=o_toProc x (hf x (by rw [← hc]; exact List.getElem_mem _))
  refine evLoop_next ?_ (by simpa only [List.length_cons,List.map_cons,List.singleton_append] using ih)
  simp (maxSteps:=1000000) +contextual -dsimp [Tryz.f111,hlt,hi,hi2,hc,hw,hz1,hl,g,List.set]
theorem o_toProcS (l:List (List Step)) (hl:l.length≤1048576) (hf:∀ x,x∈l→wProc x≤1048576):fo 111 [A (.sl 225 (l.map (pT 111 267)))]=some ⟨.own 160 (l.map ProcO),[],true⟩:=by
 have hm:(l.length:Int)≤(maxElems:Nat):=by unfold maxElems; omega
 have hlp:=oltoProcS l hl hf l 0 (List.replicate l.length [.own 124 []]) rfl (by simp) (fun j _ hj=>by simp [hj])
 have hcl:=oclean_Proc l
 refine orc_111 (l.length+1) ?_
 simp -dsimp [Tryz.f111] at hlp
 simp (maxSteps:=1000000) +contextual -dsimp [Tryz.f111,hm,hlp,hcl,finishL,mergeL,List.set]
theorem o_toChart (x:Chart) (h:wChart x≤1048576):fo 243 [A (.agg (cT x))]=some ⟨.agg (ChartO x),[],true⟩:=by
 have g2:=o_tointS x.vars (by simp only [wChart] at h; omega)
 have s2:=oclean_int x.vars
 have g3:=o_tointS x.acts (by simp only [wChart] at h; omega)
 have s3:=oclean_int x.acts
 have g4:=o_tointS x.dues (by simp only [wChart] at h; omega)
 have s4:=oclean_int x.dues
 refine orc_243 1 ?_
 simp (maxSteps:=1000000) +contextual -dsimp [Tryz.f243,g2,s2,g3,s3,g4,s4,List.set]
theorem o_toInst (x:Inst) (h:wInst x≤1048576):fo 184 [A (.agg (xT x))]=some ⟨.agg (InstO x),[],true⟩:=by
 have g1:=o_toChart x.chart (by simp only [wInst] at h; omega)
 have s1vars:=oclean_int x.chart.vars
 have s1acts:=oclean_int x.chart.acts
 have s1dues:=oclean_int x.chart.dues
 refine orc_184 1 ?_
 simp (maxSteps:=1000000) +contextual -dsimp [Tryz.f184,g1,s1vars,s1acts,s1dues,List.set]
theorem oltoInstS (all:List Inst) (hall:all.length≤1048576) (hf:∀ x,x∈all→wInst x≤1048576):∀ (rest:List Inst) (i:Nat) (es:List (List T)),all.drop i=rest→es.length=all.length→(∀ j,i≤j→j < all.length→es[j]?=some [vI 0,vI 0,vI 0,.own 2 [],.own 2 [],.own 2 []])→
  evLoop E (orc E) (112:Nat) (rest.length+1) (loopOf Tryz.f112 0) ⟨23,[(0,.sl 229 (all.map xT)),(3,.ref 3 1 [] 0 all.length),(4,vI i)],[(3,⟨1,1,false,[.own 163 es]⟩)],2⟩=
  some (.exit 0,⟨23,[(0,.sl 229 (all.map xT)),(3,.ref 3 1 [] 0 all.length),(4,vI (i+rest.length:Nat)),(11,vB false)],[(3,⟨1,1,false,[.own 163 (es.take i++rest.map InstO)]⟩)],2⟩)
 | [],i,es,h,hl,hz=>by
  have hge:all.length≤i:=by simpa using h
  have hlt:ltI (i:Int) (all.length:Int)=false:=ltI_f (by omega)
  have ht:es.take i=es:=List.take_of_length_le (by omega)
  rw [loop_eq]
  simp +contextual -dsimp [Tryz.f112,hlt,ht]
 | x::rest,i,es,h,hl,hz=>by
  obtain ⟨hi,hc,hr⟩:=drop_cons h
  have hlt:ltI (i:Int) (all.length:Int)=true:=ltI_t (by omega)
  have hw:IntKind.i64.wrap ((i:Int)+1)=((i+1:Nat):Int):=by rw [wrapI] <;> omega
  have hi2:i < es.length:=by omega
  have hz1:es[i]=[vI 0,vI 0,vI 0,.own 2 [],.own 2 [],.own 2 []]:=by
   have:=hz i (Nat.le_refl _) hi
   rw [List.getElem?_eq_getElem hi2] at this
   simpa using this
  have ih:=oltoInstS all hall hf rest (i+1) (es.set i (InstO x)) hr (by simpa using hl) (fun j hj hj2=>by
   rw [List.getElem?_set_ne (by omega)]
   exact hz j (by omega) hj2)
  have he:i+1+rest.length=i+(rest.length+1):=by omega
  have hes:(es.set i (InstO x)).take (i+1)=es.take i++[InstO x]:=by
   rw [List.take_add_one,List.take_set_of_le (Nat.le_refl _)]
   simp [hi2]
  rw [he,hes,List.append_assoc] at ih
  have g:=o_toInst x (hf x (by rw [← hc]; exact List.getElem_mem _))
  refine evLoop_next ?_ (by simpa only [List.length_cons,List.map_cons,List.singleton_append] using ih)
  simp (maxSteps:=1000000) +contextual -dsimp [Tryz.f112,hlt,hi,hi2,hc,hw,hz1,hl,g,List.set]
theorem o_toInstS (l:List Inst) (hl:l.length≤1048576) (hf:∀ x,x∈l→wInst x≤1048576):fo 112 [A (.sl 229 (l.map xT))]=some ⟨.own 163 (l.map InstO),[],true⟩:=by
 have hm:(l.length:Int)≤(maxElems:Nat):=by unfold maxElems; omega
 have hlp:=oltoInstS l hl hf l 0 (List.replicate l.length [vI 0,vI 0,vI 0,.own 2 [],.own 2 [],.own 2 []]) rfl (by simp) (fun j _ hj=>by simp [hj])
 have hcl:=oclean_Inst l
 refine orc_112 (l.length+1) ?_
 simp -dsimp [Tryz.f112] at hlp
 simp (maxSteps:=1000000) +contextual -dsimp [Tryz.f112,hm,hlp,hcl,finishL,mergeL,List.set]
theorem o_toClaim (x:Claim):fo 176 [A (.agg (kT x))]=some ⟨.agg (kT x),[],true⟩:=by
 refine orc_176 1 ?_
 simp (maxSteps:=1000000) +contextual -dsimp [Tryz.f176,List.set]
theorem oltoClaimS (all:List Claim) (hall:all.length≤1048576):∀ (rest:List Claim) (i:Nat) (es:List (List T)),all.drop i=rest→es.length=all.length→(∀ j,i≤j→j < all.length→es[j]?=some [vI 0,vI 0,vI 0])→
  evLoop E (orc E) (98:Nat) (rest.length+1) (loopOf Tryz.f98 0) ⟨23,[(0,.sl 222 (all.map kT)),(3,.ref 3 1 [] 0 all.length),(4,vI i)],[(3,⟨1,1,false,[.own 150 es]⟩)],2⟩=
  some (.exit 0,⟨23,[(0,.sl 222 (all.map kT)),(3,.ref 3 1 [] 0 all.length),(4,vI (i+rest.length:Nat)),(11,vB false)],[(3,⟨1,1,false,[.own 150 (es.take i++rest.map kT)]⟩)],2⟩)
 | [],i,es,h,hl,hz=>by
  have hge:all.length≤i:=by simpa using h
  have hlt:ltI (i:Int) (all.length:Int)=false:=ltI_f (by omega)
  have ht:es.take i=es:=List.take_of_length_le (by omega)
  rw [loop_eq]
  simp +contextual -dsimp [Tryz.f98,hlt,ht]
 | x::rest,i,es,h,hl,hz=>by
  obtain ⟨hi,hc,hr⟩:=drop_cons h
  have hlt:ltI (i:Int) (all.length:Int)=true:=ltI_t (by omega)
  have hw:IntKind.i64.wrap ((i:Int)+1)=((i+1:Nat):Int):=by rw [wrapI] <;> omega
  have hi2:i < es.length:=by omega
  have hz1:es[i]=[vI 0,vI 0,vI 0]:=by
   have:=hz i (Nat.le_refl _) hi
   rw [List.getElem?_eq_getElem hi2] at this
   simpa using this
  have ih:=oltoClaimS all hall rest (i+1) (es.set i (kT x)) hr (by simpa using hl) (fun j hj hj2=>by
   rw [List.getElem?_set_ne (by omega)]
   exact hz j (by omega) hj2)
  have he:i+1+rest.length=i+(rest.length+1):=by omega
  have hes:(es.set i (kT x)).take (i+1)=es.take i++[kT x]:=by
   rw [List.take_add_one,List.take_set_of_le (Nat.le_refl _)]
   simp [hi2]
  rw [he,hes,List.append_assoc] at ih
  have g:=o_toClaim x
  refine evLoop_next ?_ (by simpa only [List.length_cons,List.map_cons,List.singleton_append] using ih)
  simp (maxSteps:=1000000) +contextual -dsimp [Tryz.f98,hlt,hi,hi2,hc,hw,hz1,hl,g,List.set]
theorem o_toClaimS (l:List Claim) (hl:l.length≤1048576):fo 98 [A (.sl 222 (l.map kT))]=some ⟨.own 150 (l.map kT),[],true⟩:=by
 have hm:(l.length:Int)≤(maxElems:Nat):=by unfold maxElems; omega
 have hlp:=oltoClaimS l hl l 0 (List.replicate l.length [vI 0,vI 0,vI 0]) rfl (by simp) (fun j _ hj=>by simp [hj])
 have hcl:=oclean_Claim l
 refine orc_98 (l.length+1) ?_
 simp -dsimp [Tryz.f98] at hlp
 simp (maxSteps:=1000000) +contextual -dsimp [Tryz.f98,hm,hlp,hcl,finishL,mergeL,List.set]
theorem o_toEngine (x:Engine) (h:wEngine x≤1048576):fo 40 [A (.agg (eTl x))]=some ⟨.agg (EngineO x),[],true⟩:=by
 have g0:=o_toProcS x.procs (by simp only [wEngine,wsProc] at h; omega) (fun y hy=>by have:=sumProc_mem hy; simp only [wEngine,wsProc] at h; omega)
 have s0:=oclean_Proc x.procs
 have g1:=o_toInstS x.insts (by simp only [wEngine,wsInst] at h; omega) (fun y hy=>by have:=sumInst_mem hy; simp only [wEngine,wsInst] at h; omega)
 have s1:=oclean_Inst x.insts
 refine orc_40 1 ?_
 simp (maxSteps:=1000000) +contextual -dsimp [Tryz.f40,g0,s0,g1,s1,List.set]
theorem o_toDesk (x:Desk) (h:wDesk x≤1048576):fo 31 [A (.agg (dTl x))]=some ⟨.agg (DeskO x),[],true⟩:=by
 have g0:=o_toEngine x.eng (by simp only [wDesk] at h; omega)
 have s0procs:=oclean_Proc x.eng.procs
 have s0insts:=oclean_Inst x.eng.insts
 have g1:=o_toClaimS x.claims (by simp only [wDesk] at h; omega)
 have s1:=oclean_Claim x.claims
 refine orc_31 1 ?_
 simp (maxSteps:=1000000) +contextual -dsimp [Tryz.f31,g0,s0procs,s0insts,g1,s1,List.set]
end Go.TM.Ft
namespace Go.TM.Ft
open Go Go.TM Go.Proofs
set_option maxRecDepth 20000
attribute [local congr] gif_cg
attribute [local simp] footOf noClash clash upsets setsHit setHits layHits layMeets setsMeet evFeet
end Go.TM.Ft
namespace Go.TM.Ft
open Go Go.TM Go.Proofs
theorem cts_Node (l:List Node):ctsNode l=4*l.length:=by
 induction l with
 | nil=>rfl
 | cons x l ih=>rw [ctsNode_cons,ih]; simp only [ctNode,List.length_cons]; omega
theorem ct_Step (x:Step):ctStep x≤4+4*wStep x:=by
 simp only [ctStep,cts_Node,wStep]; omega
theorem cts_Step (l:List Step):ctsStep l≤4*wsStep l:=by
 have:ctsStep l≤4*l.length+4*sumStep l:=by
  induction l with
  | nil=>exact Nat.zero_le _
  | cons x l ih=>rw [ctsStep_cons]; have:=ct_Step x; simp only [sumStep,List.length_cons]; omega
 simp only [wsStep]; omega
theorem cts_Proc (l:List (List Step)):ctsProc l≤4*wsProc l:=by
 have:ctsProc l≤4*sumProc l:=by
  induction l with
  | nil=>exact Nat.zero_le _
  | cons x l ih=>rw [ctsProc_cons]; have:=cts_Step x; simp only [sumProc,ctProc,wProc]; omega
 simp only [wsProc]; omega
theorem cts_Inst (l:List Inst):ctsInst l≤3*wsInst l:=by
 have:ctsInst l≤3*l.length+3*sumInst l:=by
  induction l with
  | nil=>exact Nat.zero_le _
  | cons x l ih=>rw [ctsInst_cons]; simp only [sumInst,ctInst,wInst,wChart,ctsint,List.length_cons]; omega
 simp only [wsInst]; omega
theorem cts_Claim (l:List Claim):ctsClaim l=3*l.length:=by
 induction l with
 | nil=>rfl
 | cons x l ih=>rw [ctsClaim_cons,ih]; simp only [ctClaim,List.length_cons]; omega
theorem cz_Engine (x:Engine):czEngine x≤4*wEngine x:=by
 have h1:=cts_Proc x.procs
 have h2:=cts_Inst x.insts
 simp only [czEngine,wEngine]; omega
theorem cz_Desk (x:Desk):czDesk x≤4*wDesk x:=by
 have h1:=cz_Engine x.eng
 have h2:=cts_Claim x.claims
 simp only [czDesk,wDesk]; omega
end Go.TM.Ft
