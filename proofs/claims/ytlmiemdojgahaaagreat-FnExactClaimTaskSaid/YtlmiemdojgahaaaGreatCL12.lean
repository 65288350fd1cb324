/- What functions of the program come to, by the machine. -/
import Derived.Test.YtlmiemdojgahaaaGreatCL11
set_option linter.unusedSimpArgs false
set_option linter.unusedVariables false
namespace Go.TM.Ft
open Go Go.TM Go.Proofs
set_option maxRecDepth 20000
attribute [local congr] gif_cg
attribute [local simp] footOf noClash clash upsets setsHit setHits layHits layMeets setsMeet evFeet
def czEngine (x:Engine):Nat:=ctsProc x.procs+ctsInst x.insts
noncomputable def mzEngine (k:Int) (x:Engine):Engine:={ x with procs:=mksProc (k) x.procs,insts:=mksInst (k+(ctsProc x.procs:Nat)) x.insts }
set_option maxHeartbeats 4000000 in
theorem o_markEngine (x:Engine) (k:Int) (h0:0≤k) (h1:k+(czEngine x:Nat) < 2 ^ 59) (hx:wEngine x≤2097152):∃ b,fo 44 [⟨.agg [.ref 0 0 [] 0 x.procs.length,.ref 0 0 [] 1 x.insts.length,vI x.now],some ⟨0,0,false,[.own 160 (x.procs.map ProcO),.own 163 (x.insts.map InstO),.dead]⟩⟩,A (vI k)]=some ⟨vI (k+(czEngine x:Nat)),[(0,EngineO (mzEngine k x))],b⟩:=by
 simp only [czEngine] at h1
 obtain ⟨k1,e1⟩:∃ z,z=k+(ctsProc x.procs:Nat):=⟨_,rfl⟩
 obtain ⟨b0,g0⟩:=o_markProcS x.procs k (by omega) (by omega) (by simp only [wEngine,wsProc] at hx; omega) (fun y hy=>by have:=sumProc_mem hy; simp only [wEngine,wsProc] at hx; omega)
 rw [← e1] at g0
 obtain ⟨k2,e2⟩:∃ z,z=k1+(ctsInst x.insts:Nat):=⟨_,rfl⟩
 obtain ⟨b1,g1⟩:=o_markInstS x.insts k1 (by omega) (by omega) (by simp only [wEngine,wsInst] at hx; omega) (fun y hy=>by have:=sumInst_mem hy; simp only [wEngine,wsInst] at hx; omega)
 rw [← e2] at g1
 have hk:k+(czEngine x:Nat)=k2:=by simp only [czEngine]; omega
 have hm:mzEngine k x={ x with procs:=mksProc k x.procs,insts:=mksInst k1 x.insts }:=by subst_vars; rfl
 rw [hk,hm]
 refine ⟨true,orc_44 1 ?_⟩
 simp (maxSteps:=1000000) +contextual -dsimp [Tryz.f44,g0,g1,oclean_Proc,oclean_Inst,evBodyB,boxed,finishB,finishL,mergeL,lendEff,lendOne,lendMany,firstRef,lendRow,lendCell,putRow,putBack,valArg,List.set]
def czDesk (x:Desk):Nat:=czEngine x.eng+ctsClaim x.claims
noncomputable def mzDesk (k:Int) (x:Desk):Desk:={ x with eng:=mzEngine (k) x.eng,claims:=mksClaim (k+(czEngine x.eng:Nat)) x.claims }
set_option maxHeartbeats 4000000 in
theorem o_markDesk (x:Desk) (k:Int) (h0:0≤k) (h1:k+(czDesk x:Nat) < 2 ^ 59) (hx:wDesk x≤2097152):∃ b,fo 35 [⟨.agg [.ref 0 0 [] 0 x.eng.procs.length,.ref 0 0 [] 1 x.eng.insts.length,vI x.eng.now,.ref 0 0 [] 3 x.claims.length],some ⟨0,0,false,[.own 160 (x.eng.procs.map ProcO),.own 163 (x.eng.insts.map InstO),.dead,.own 150 (x.claims.map kT)]⟩⟩,A (vI k)]=some ⟨vI (k+(czDesk x:Nat)),[(0,DeskO (mzDesk k x))],b⟩:=by
 simp only [czDesk] at h1
 obtain ⟨k1,e1⟩:∃ z,z=k+(czEngine x.eng:Nat):=⟨_,rfl⟩
 obtain ⟨b0,g0⟩:=o_markEngine x.eng k (by omega) (by omega) (by simp only [wDesk] at hx; omega)
 rw [← e1] at g0
 obtain ⟨k2,e2⟩:∃ z,z=k1+(ctsClaim x.claims:Nat):=⟨_,rfl⟩
 obtain ⟨b1,g1⟩:=o_markClaimS x.claims k1 (by omega) (by omega) (by simp only [wDesk,wEngine] at hx; omega)
 rw [← e2] at g1
 have hk:k+(czDesk x:Nat)=k2:=by simp only [czDesk]; omega
 have hm:mzDesk k x={ x with eng:=mzEngine k x.eng,claims:=mksClaim k1 x.claims }:=by subst_vars; rfl
 rw [hk,hm]
 refine ⟨true,orc_35 1 ?_⟩
 simp (maxSteps:=1000000) +contextual -dsimp [Tryz.f35,g0,g1,oclean_Proc,oclean_Inst,oclean_Claim,evBodyB,boxed,finishB,finishL,mergeL,lendEff,lendOne,lendMany,firstRef,lendRow,lendCell,putRow,putBack,valArg,List.set]
 all_goals (repeat' (first | rfl | constructor))
def czDeskResult (x:DeskR):Nat:=czDesk x.desk
noncomputable def mzDeskResult (k:Int) (x:DeskR):DeskR:={ x with desk:=mzDesk (k) x.desk }
set_option maxHeartbeats 4000000 in
theorem o_markDeskResult (x:DeskR) (k:Int) (h0:0≤k) (h1:k+(czDeskResult x:Nat) < 2 ^ 59) (hx:wDeskResult x≤2097152):∃ b,fo 36 [⟨.agg [vI x.code,vI x.value,.ref 0 0 [] 2 x.desk.eng.procs.length,.ref 0 0 [] 3 x.desk.eng.insts.length,vI x.desk.eng.now,.ref 0 0 [] 5 x.desk.claims.length],some ⟨0,0,false,[.dead,.dead,.own 160 (x.desk.eng.procs.map ProcO),.own 163 (x.desk.eng.insts.map InstO),.dead,.own 150 (x.desk.claims.map kT)]⟩⟩,A (vI k)]=some ⟨vI (k+(czDeskResult x:Nat)),[(0,DeskResultO (mzDeskResult k x))],b⟩:=by
 simp only [czDeskResult] at h1
 obtain ⟨k1,e1⟩:∃ z,z=k+(czDesk x.desk:Nat):=⟨_,rfl⟩
 obtain ⟨b0,g0⟩:=o_markDesk x.desk k (by omega) (by omega) (by simp only [wDeskResult] at hx; omega)
 rw [← e1] at g0
 have hk:k+(czDeskResult x:Nat)=k1:=by simp only [czDeskResult]; omega
 have hm:mzDeskResult k x={ x with desk:=mzDesk k x.desk }:=by subst_vars; rfl
 rw [hk,hm]
 refine ⟨true,orc_36 1 ?_⟩
 simp (maxSteps:=1000000) +contextual -dsimp [Tryz.f36,g0,oclean_Proc,oclean_Inst,oclean_Claim,evBodyB,boxed,finishB,finishL,mergeL,lendEff,lendOne,lendMany,firstRef,lendRow,lendCell,putRow,putBack,valArg,List.set]
 all_goals (repeat' (first | rfl | constructor))
end Go.TM.Ft
namespace Go.TM.Ft
open Go Go.TM Go.Proofs
set_option maxRecDepth 20000
attribute [local congr] gif_cg
attribute [local simp] footOf noClash clash upsets setsHit setHits layHits layMeets setsMeet evFeet
set_option maxHeartbeats 4000000 in
theorem lhdintS (all:List Int) (hall:all.length≤2097152):∀ (rest:List Int) (i:Nat) (k:Int),all.drop i=mksint k rest→0≤k→k+(ctsint rest:Nat) < 2 ^ 60→
  evLoop E (orc E) (89:Nat) (rest.length+1) (loopOf Tryz.f89 0) ⟨21,[(0,.sl 2 (all.map iV)),(1,vI k),(5,vI i)],[],2⟩=
  some (.exit 0,⟨21,[(0,.sl 2 (all.map iV)),(1,vI (k+(ctsint rest:Nat))),(5,vI (i+rest.length:Nat)),(9,vB false)],[],2⟩)
 | [],i,k,h,h0,h1=>by
  have hge:all.length≤i:=by simpa [mksint] using h
  have hlt:ltI (i:Int) (all.length:Int)=false:=ltI_f (by omega)
  rw [loop_eq]
  simp +contextual -dsimp [Tryz.f89,hlt,ctsint_nil]
 | x::rest,i,k,h,h0,h1=>by
  rw [ctsint_cons] at h1
  have he:i+1+rest.length=i+(rest.length+1):=by omega
  obtain ⟨k1,e1⟩:∃ z,z=k+1:=⟨_,rfl⟩
  have w0:IntKind.i64.wrap (k+1)=k1:=by rw [e1,wrapI] <;> omega
  have hk:k1+(ctsint rest:Nat)=k+(ctsint (x::rest):Nat):=by rw [ctsint_cons]; omega
  have hm:mksint k (x::rest)=k::mksint k1 rest:=by rw [e1]; rfl
  rw [hm] at h
  obtain ⟨hi,hc,hr⟩:=drop_cons h
  have hlt:ltI (i:Int) (all.length:Int)=true:=ltI_t (by omega)
  have hw:IntKind.i64.wrap ((i:Int)+1)=((i+1:Nat):Int):=by rw [wrapI] <;> omega
  have ih:=lhdintS all hall rest (i+1) k1 hr (by omega) (by omega)
  rw [hk,he] at ih
  refine evLoop_next ?_ (by simpa only [List.length_cons] using ih)
  simp (maxSteps:=1000000) +contextual -dsimp [Tryz.f89,hlt,hi,hc,hw,eqI_self,eqS_self,w0,List.set]
theorem mksint_len:∀ (l:List Int) (k:Int),(mksint k l).length=l.length
 | [],_=>rfl
 | x::l,k=>by simp only [mksint,List.length_cons,mksint_len l]
theorem o_heldInt64S (l:List Int) (k:Int) (h0:0≤k) (h1:k+(ctsint l:Nat) < 2 ^ 60) (hn:l.length≤2097152):fo 89 [A (.sl 2 ((mksint k l).map iV)),A (vI k)]=some (R (vI (k+(ctsint l:Nat)))):=by
 have hlp:=lhdintS (mksint k l) (by rw [mksint_len]; exact hn) l 0 k rfl h0 h1
 refine orc_89 (l.length+1) ?_
 generalize k+(ctsint l:Nat)=k' at *
 generalize mksint k l=l' at *
 simp -dsimp [Tryz.f89] at hlp
 simp (maxSteps:=1000000) +contextual -dsimp [Tryz.f89,hlp,List.set]
set_option maxHeartbeats 4000000 in
theorem lhdNodeS (all:List Node) (hall:all.length≤2097152):∀ (rest:List Node) (i:Nat) (k:Int),all.drop i=mksNode k rest→0≤k→k+(ctsNode rest:Nat) < 2 ^ 60→
  evLoop E (orc E) (286:Nat) (rest.length+1) (loopOf Tryz.f286 0) ⟨49,[(0,.sl 219 (all.map nT)),(1,vI k),(5,vI i)],[],2⟩=
  some (.exit 0,⟨49,[(0,.sl 219 (all.map nT)),(1,vI (k+(ctsNode rest:Nat))),(5,vI (i+rest.length:Nat)),(9,vB false)],[],2⟩)
 | [],i,k,h,h0,h1=>by
  have hge:all.length≤i:=by simpa [mksNode] using h
  have hlt:ltI (i:Int) (all.length:Int)=false:=ltI_f (by omega)
  rw [loop_eq]
  simp +contextual -dsimp [Tryz.f286,hlt,ctsNode_nil]
 | x::rest,i,k,h,h0,h1=>by
  rw [ctsNode_cons] at h1
  have he:i+1+rest.length=i+(rest.length+1):=by omega
  simp only [ctNode] at h1
  obtain ⟨k1,e1⟩:∃ z,z=k+1:=⟨_,rfl⟩
  have w0:IntKind.i64.wrap (k+1)=k1:=by rw [e1,wrapI] <;> omega
  obtain ⟨k2,e2⟩:∃ z,z=k1+1:=⟨_,rfl⟩
  have w1:IntKind.i64.wrap (k1+1)=k2:=by rw [e2,wrapI] <;> omega
  obtain ⟨k3,e3⟩:∃ z,z=k2+1:=⟨_,rfl⟩
  have w2:IntKind.i64.wrap (k2+1)=k3:=by rw [e3,wrapI] <;> omega
  obtain ⟨k4,e4⟩:∃ z,z=k3+1:=⟨_,rfl⟩
  have w3:IntKind.i64.wrap (k3+1)=k4:=by rw [e4,wrapI] <;> omega
  have hk:k4+(ctsNode rest:Nat)=k+(ctsNode (x::rest):Nat):=by rw [ctsNode_cons]; simp only [ctNode]; omega
  have hm:mksNode k (x::rest)=({ kind:=k,value:=k1,left:=k2,right:=k3 }:Node)::mksNode k4 rest:=by
   have e:k4=k+(ctNode x:Nat):=by simp only [ctNode]; omega
   have e2:mkNode k x=({ kind:=k,value:=k1,left:=k2,right:=k3 }:Node):=by subst_vars; rfl
   simp only [mksNode]; rw [e2,e]
  rw [hm] at h
  obtain ⟨hi,hc,hr⟩:=drop_cons h
  have hlt:ltI (i:Int) (all.length:Int)=true:=ltI_t (by omega)
  have hw:IntKind.i64.wrap ((i:Int)+1)=((i+1:Nat):Int):=by rw [wrapI] <;> omega
  have ih:=lhdNodeS all hall rest (i+1) k4 hr (by omega) (by omega)
  rw [hk,he] at ih
  refine evLoop_next ?_ (by simpa only [List.length_cons] using ih)
  simp (maxSteps:=1000000) +contextual -dsimp [Tryz.f286,hlt,hi,hc,hw,eqI_self,eqS_self,w0,w1,w2,w3,List.set]
theorem mksNode_len:∀ (l:List Node) (k:Int),(mksNode k l).length=l.length
 | [],_=>rfl
 | x::l,k=>by simp only [mksNode,List.length_cons,mksNode_len l]
theorem o_heldNodeS (l:List Node) (k:Int) (h0:0≤k) (h1:k+(ctsNode l:Nat) < 2 ^ 60) (hn:l.length≤2097152):fo 286 [A (.sl 219 ((mksNode k l).map nT)),A (vI k)]=some (R (vI (k+(ctsNode l:Nat)))):=by
 have hlp:=lhdNodeS (mksNode k l) (by rw [mksNode_len]; exact hn) l 0 k rfl h0 h1
 refine orc_286 (l.length+1) ?_
 generalize k+(ctsNode l:Nat)=k' at *
 generalize mksNode k l=l' at *
 simp -dsimp [Tryz.f286] at hlp
 simp (maxSteps:=1000000) +contextual -dsimp [Tryz.f286,hlp,List.set]
set_option maxHeartbeats 4000000 in
theorem lhdStepS (all:List Step) (hall:all.length≤2097152):∀ (rest:List Step) (i:Nat) (k:Int),all.drop i=mksStep k rest→(∀ x,x∈rest→wStep x≤2097152)→0≤k→k+(ctsStep rest:Nat) < 2 ^ 60→
  evLoop E (orc E) (247:Nat) (rest.length+1) (loopOf Tryz.f247 0) ⟨68,[(0,.sl 124 (all.map (sT 219))),(1,vI k),(5,vI i)],[],2⟩=
  some (.exit 0,⟨68,[(0,.sl 124 (all.map (sT 219))),(1,vI (k+(ctsStep rest:Nat))),(5,vI (i+rest.length:Nat)),(9,vB false)],[],2⟩)
 | [],i,k,h,hf,h0,h1=>by
  have hge:all.length≤i:=by simpa [mksStep] using h
  have hlt:ltI (i:Int) (all.length:Int)=false:=ltI_f (by omega)
  rw [loop_eq]
  simp +contextual -dsimp [Tryz.f247,hlt,ctsStep_nil]
 | x::rest,i,k,h,hf,h0,h1=>by
  have hx:=hf x (by simp)
  rw [ctsStep_cons] at h1
  have he:i+1+rest.length=i+(rest.length+1):=by omega
  simp only [ctStep] at h1
  obtain ⟨k1,e1⟩:∃ z,z=k+1:=⟨_,rfl⟩
  have w0:IntKind.i64.wrap (k+1)=k1:=by rw [e1,wrapI] <;> omega
  obtain ⟨k2,e2⟩:∃ z,z=k1+1:=⟨_,rfl⟩
  have w1:IntKind.i64.wrap (k1+1)=k2:=by rw [e2,wrapI] <;> omega
  obtain ⟨k3,e3⟩:∃ z,z=k2+1:=⟨_,rfl⟩
  have w2:IntKind.i64.wrap (k2+1)=k3:=by rw [e3,wrapI] <;> omega
  have g2:=o_markText k2 (by omega) (by omega)
  obtain ⟨k4,e4⟩:∃ z,z=k3+1:=⟨_,rfl⟩
  have w3:IntKind.i64.wrap (k3+1)=k4:=by rw [e4,wrapI] <;> omega
  obtain ⟨k5,e5⟩:∃ z,z=k4+(ctsNode x.cond:Nat):=⟨_,rfl⟩
  have g4:=o_heldNodeS x.cond k4 (by omega) (by omega) (by simp only [wStep] at hx; omega)
  have n4:ltI k5 0=false:=ltI_f (by omega)
  rw [← e5] at g4
  obtain ⟨k6,e6⟩:∃ z,z=k5+(ctsNode x.expr:Nat):=⟨_,rfl⟩
  have g5:=o_heldNodeS x.expr k5 (by omega) (by omega) (by simp only [wStep] at hx; omega)
  have n5:ltI k6 0=false:=ltI_f (by omega)
  rw [← e6] at g5
  have hk:k6+(ctsStep rest:Nat)=k+(ctsStep (x::rest):Nat):=by rw [ctsStep_cons]; simp only [ctStep]; omega
  have hm:mksStep k (x::rest)=({ kind:=k,parent:=k1,name:=mkTx k2,arg:=k3,cond:=mksNode k4 x.cond,expr:=mksNode k5 x.expr }:Step)::mksStep k6 rest:=by
   have e:k6=k+(ctStep x:Nat):=by simp only [ctStep]; omega
   have e2:mkStep k x=({ kind:=k,parent:=k1,name:=mkTx k2,arg:=k3,cond:=mksNode k4 x.cond,expr:=mksNode k5 x.expr }:Step):=by subst_vars; rfl
   simp only [mksStep]; rw [e2,e]
  rw [hm] at h
  obtain ⟨hi,hc,hr⟩:=drop_cons h
  have hlt:ltI (i:Int) (all.length:Int)=true:=ltI_t (by omega)
  have hw:IntKind.i64.wrap ((i:Int)+1)=((i+1:Nat):Int):=by rw [wrapI] <;> omega
  have ih:=lhdStepS all hall rest (i+1) k6 hr (fun y hy=>hf y (by simp [hy])) (by omega) (by omega)
  rw [hk,he] at ih
  refine evLoop_next ?_ (by simpa only [List.length_cons] using ih)
  simp (maxSteps:=1000000) +contextual -dsimp [Tryz.f247,hlt,hi,hc,hw,eqI_self,eqS_self,w0,w1,w2,g2,w3,n4,g4,n5,g5,List.set]
theorem mksStep_len:∀ (l:List Step) (k:Int),(mksStep k l).length=l.length
 | [],_=>rfl
 | x::l,k=>by simp only [mksStep,List.length_cons,mksStep_len l]
theorem o_heldStepS (l:List Step) (k:Int) (h0:0≤k) (h1:k+(ctsStep l:Nat) < 2 ^ 60) (hn:l.length≤2097152) (hf:∀ x,x∈l→wStep x≤2097152):fo 247 [A (.sl 124 ((mksStep k l).map (sT 219))),A (vI k)]=some (R (vI (k+(ctsStep l:Nat)))):=by
 have hlp:=lhdStepS (mksStep k l) (by rw [mksStep_len]; exact hn) l 0 k rfl hf h0 h1
 refine orc_247 (l.length+1) ?_
 generalize k+(ctsStep l:Nat)=k' at *
 generalize mksStep k l=l' at *
 simp -dsimp [Tryz.f247] at hlp
 simp (maxSteps:=1000000) +contextual -dsimp [Tryz.f247,hlp,List.set]
set_option maxHeartbeats 4000000 in
theorem lhdProcS (all:List (List Step)) (hall:all.length≤2097152):∀ (rest:List (List Step)) (i:Nat) (k:Int),all.drop i=mksProc k rest→(∀ x,x∈rest→wProc x≤2097152)→0≤k→k+(ctsProc rest:Nat) < 2 ^ 60→
  evLoop E (orc E) (191:Nat) (rest.length+1) (loopOf Tryz.f191 0) ⟨22,[(0,.sl 160 (all.map (pT 124 219))),(1,vI k),(5,vI i)],[],2⟩=
  some (.exit 0,⟨22,[(0,.sl 160 (all.map (pT 124 219))),(1,vI (k+(ctsProc rest:Nat))),(5,vI (i+rest.length:Nat)),(9,vB false)],[],2⟩)
 | [],i,k,h,hf,h0,h1=>by
  have hge:all.length≤i:=by simpa [mksProc] using h
  have hlt:ltI (i:Int) (all.length:Int)=false:=ltI_f (by omega)
  rw [loop_eq]
  simp +contextual -dsimp [Tryz.f191,hlt,ctsProc_nil]
 | x::rest,i,k,h,hf,h0,h1=>by
  have hx:=hf x (by simp)
  rw [ctsProc_cons] at h1
  have he:i+1+rest.length=i+(rest.length+1):=by omega
  simp only [ctProc] at h1
  obtain ⟨k1,e1⟩:∃ z,z=k+(ctsStep x:Nat):=⟨_,rfl⟩
  have g0:=o_heldStepS x k (by omega) (by omega) (by simp only [wProc,wsStep] at hx; omega) (fun y hy=>by have:=sumStep_mem hy; simp only [wProc,wsStep] at hx; omega)
  have n0:ltI k1 0=false:=ltI_f (by omega)
  rw [← e1] at g0
  have hk:k1+(ctsProc rest:Nat)=k+(ctsProc (x::rest):Nat):=by rw [ctsProc_cons]; simp only [ctProc]; omega
  have hm:mksProc k (x::rest)=(mksStep k x:List Step)::mksProc k1 rest:=by
   have e:k1=k+(ctProc x:Nat):=by simp only [ctProc]; omega
   have e2:mkProc k x=(mksStep k x:List Step):=by subst_vars; rfl
   simp only [mksProc]; rw [e2,e]
  rw [hm] at h
  obtain ⟨hi,hc,hr⟩:=drop_cons h
  have hlt:ltI (i:Int) (all.length:Int)=true:=ltI_t (by omega)
  have hw:IntKind.i64.wrap ((i:Int)+1)=((i+1:Nat):Int):=by rw [wrapI] <;> omega
  have ih:=lhdProcS all hall rest (i+1) k1 hr (fun y hy=>hf y (by simp [hy])) (by omega) (by omega)
  rw [hk,he] at ih
  refine evLoop_next ?_ (by simpa only [List.length_cons] using ih)
  simp (maxSteps:=1000000) +contextual -dsimp [Tryz.f191,hlt,hi,hc,hw,eqI_self,eqS_self,n0,g0,List.set]
theorem mksProc_len:∀ (l:List (List Step)) (k:Int),(mksProc k l).length=l.length
 | [],_=>rfl
 | x::l,k=>by simp only [mksProc,List.length_cons,mksProc_len l]
theorem o_heldProcS (l:List (List Step)) (k:Int) (h0:0≤k) (h1:k+(ctsProc l:Nat) < 2 ^ 60) (hn:l.length≤2097152) (hf:∀ x,x∈l→wProc x≤2097152):fo 191 [A (.sl 160 ((mksProc k l).map (pT 124 219))),A (vI k)]=some (R (vI (k+(ctsProc l:Nat)))):=by
 have hlp:=lhdProcS (mksProc k l) (by rw [mksProc_len]; exact hn) l 0 k rfl hf h0 h1
 refine orc_191 (l.length+1) ?_
 generalize k+(ctsProc l:Nat)=k' at *
 generalize mksProc k l=l' at *
 simp -dsimp [Tryz.f191] at hlp
 simp (maxSteps:=1000000) +contextual -dsimp [Tryz.f191,hlp,List.set]
set_option maxHeartbeats 4000000 in
theorem lhdInstS (all:List Inst) (hall:all.length≤2097152):∀ (rest:List Inst) (i:Nat) (k:Int),all.drop i=mksInst k rest→(∀ x,x∈rest→wInst x≤2097152)→0≤k→k+(ctsInst rest:Nat) < 2 ^ 60→
  evLoop E (orc E) (192:Nat) (rest.length+1) (loopOf Tryz.f192 0) ⟨72,[(0,.sl 163 (all.map xT)),(1,vI k),(5,vI i)],[],2⟩=
  some (.exit 0,⟨72,[(0,.sl 163 (all.map xT)),(1,vI (k+(ctsInst rest:Nat))),(5,vI (i+rest.length:Nat)),(9,vB false)],[],2⟩)
 | [],i,k,h,hf,h0,h1=>by
  have hge:all.length≤i:=by simpa [mksInst] using h
  have hlt:ltI (i:Int) (all.length:Int)=false:=ltI_f (by omega)
  rw [loop_eq]
  simp +contextual -dsimp [Tryz.f192,hlt,ctsInst_nil]
 | x::rest,i,k,h,hf,h0,h1=>by
  have hx:=hf x (by simp)
  rw [ctsInst_cons] at h1
  have he:i+1+rest.length=i+(rest.length+1):=by omega
  simp only [ctInst] at h1
  obtain ⟨k1,e1⟩:∃ z,z=k+1:=⟨_,rfl⟩
  have w0:IntKind.i64.wrap (k+1)=k1:=by rw [e1,wrapI] <;> omega
  obtain ⟨k2,e2⟩:∃ z,z=k1+1:=⟨_,rfl⟩
  have w1:IntKind.i64.wrap (k1+1)=k2:=by rw [e2,wrapI] <;> omega
  obtain ⟨k3,e3⟩:∃ z,z=k2+1:=⟨_,rfl⟩
  have w2:IntKind.i64.wrap (k2+1)=k3:=by rw [e3,wrapI] <;> omega
  obtain ⟨k4,e4⟩:∃ z,z=k3+(ctsint x.chart.vars:Nat):=⟨_,rfl⟩
  have g3:=o_heldInt64S x.chart.vars k3 (by omega) (by omega) (by simp only [wInst,wChart] at hx; omega)
  have n3:ltI k4 0=false:=ltI_f (by omega)
  rw [← e4] at g3
  obtain ⟨k5,e5⟩:∃ z,z=k4+(ctsint x.chart.acts:Nat):=⟨_,rfl⟩
  have g4:=o_heldInt64S x.chart.acts k4 (by omega) (by omega) (by simp only [wInst,wChart] at hx; omega)
  have n4:ltI k5 0=false:=ltI_f (by omega)
  rw [← e5] at g4
  obtain ⟨k6,e6⟩:∃ z,z=k5+(ctsint x.chart.dues:Nat):=⟨_,rfl⟩
  have g5:=o_heldInt64S x.chart.dues k5 (by omega) (by omega) (by simp only [wInst,wChart] at hx; omega)
  have n5:ltI k6 0=false:=ltI_f (by omega)
  rw [← e6] at g5
  have hk:k6+(ctsInst rest:Nat)=k+(ctsInst (x::rest):Nat):=by rw [ctsInst_cons]; simp only [ctInst]; omega
  have hm:mksInst k (x::rest)=({ proc:=k,chart:={ status:=k1,now:=k2,vars:=mksint k3 x.chart.vars,acts:=mksint k4 x.chart.acts,dues:=mksint k5 x.chart.dues } }:Inst)::mksInst k6 rest:=by
   have e:k6=k+(ctInst x:Nat):=by simp only [ctInst]; omega
   have e2:mkInst k x=({ proc:=k,chart:={ status:=k1,now:=k2,vars:=mksint k3 x.chart.vars,acts:=mksint k4 x.chart.acts,dues:=mksint k5 x.chart.dues } }:Inst):=by subst_vars; rfl
   simp only [mksInst]; rw [e2,e]
  rw [hm] at h
  obtain ⟨hi,hc,hr⟩:=drop_cons h
  have hlt:ltI (i:Int) (all.length:Int)=true:=ltI_t (by omega)
  have hw:IntKind.i64.wrap ((i:Int)+1)=((i+1:Nat):Int):=by rw [wrapI] <;> omega
  have ih:=lhdInstS all hall rest (i+1) k6 hr (fun y hy=>hf y (by simp [hy])) (by omega) (by omega)
  rw [hk,he] at ih
  refine evLoop_next ?_ (by simpa only [List.length_cons] using ih)
  simp (maxSteps:=1000000) +contextual -dsimp [Tryz.f192,hlt,hi,hc,hw,eqI_self,eqS_self,w0,w1,w2,n3,g3,n4,g4,n5,g5,List.set]
theorem mksInst_len:∀ (l:List Inst) (k:Int),(mksInst k l).length=l.length
 | [],_=>rfl
 | x::l,k=>by simp only [mksInst,List.length_cons,mksInst_len l]
theorem o_heldInstS (l:List Inst) (k:Int) (h0:0≤k) (h1:k+(ctsInst l:Nat) < 2 ^ 60) (hn:l.length≤2097152) (hf:∀ x,x∈l→wInst x≤2097152):fo 192 [A (.sl 163 ((mksInst k l).map xT)),A (vI k)]=some (R (vI (k+(ctsInst l:Nat)))):=by
 have hlp:=lhdInstS (mksInst k l) (by rw [mksInst_len]; exact hn) l 0 k rfl hf h0 h1
 refine orc_192 (l.length+1) ?_
 generalize k+(ctsInst l:Nat)=k' at *
 generalize mksInst k l=l' at *
 simp -dsimp [Tryz.f192] at hlp
 simp (maxSteps:=1000000) +contextual -dsimp [Tryz.f192,hlp,List.set]
set_option maxHeartbeats 4000000 in
theorem lhdClaimS (all:List Claim) (hall:all.length≤2097152):∀ (rest:List Claim) (i:Nat) (k:Int),all.drop i=mksClaim k rest→0≤k→k+(ctsClaim rest:Nat) < 2 ^ 60→
  evLoop E (orc E) (178:Nat) (rest.length+1) (loopOf Tryz.f178 0) ⟨40,[(0,.sl 150 (all.map kT)),(1,vI k),(5,vI i)],[],2⟩=
  some (.exit 0,⟨40,[(0,.sl 150 (all.map kT)),(1,vI (k+(ctsClaim rest:Nat))),(5,vI (i+rest.length:Nat)),(9,vB false)],[],2⟩)
 | [],i,k,h,h0,h1=>by
  have hge:all.length≤i:=by simpa [mksClaim] using h
  have hlt:ltI (i:Int) (all.length:Int)=false:=ltI_f (by omega)
  rw [loop_eq]
  simp +contextual -dsimp [Tryz.f178,hlt,ctsClaim_nil]
 | x::rest,i,k,h,h0,h1=>by
  rw [ctsClaim_cons] at h1
  have he:i+1+rest.length=i+(rest.length+1):=by omega
  simp only [ctClaim] at h1
  obtain ⟨k1,e1⟩:∃ z,z=k+1:=⟨_,rfl⟩
  have w0:IntKind.i64.wrap (k+1)=k1:=by rw [e1,wrapI] <;> omega
  obtain ⟨k2,e2⟩:∃ z,z=k1+1:=⟨_,rfl⟩
  have w1:IntKind.i64.wrap (k1+1)=k2:=by rw [e2,wrapI] <;> omega
  obtain ⟨k3,e3⟩:∃ z,z=k2+1:=⟨_,rfl⟩
  have w2:IntKind.i64.wrap (k2+1)=k3:=by rw [e3,wrapI] <;> omega
  have hk:k3+(ctsClaim rest:Nat)=k+(ctsClaim (x::rest):Nat):=by rw [ctsClaim_cons]; simp only [ctClaim]; omega
  have hm:mksClaim k (x::rest)=({ inst:=k,step:=k1,user:=k2 }:Claim)::mksClaim k3 rest:=by
   have e:k3=k+(ctClaim x:Nat):=by simp only [ctClaim]; omega
   have e2:mkClaim k x=({ inst:=k,step:=k1,user:=k2 }:Claim):=by subst_vars; rfl
   simp only [mksClaim]; rw [e2,e]
  rw [hm] at h
  obtain ⟨hi,hc,hr⟩:=drop_cons h
  have hlt:ltI (i:Int) (all.length:Int)=true:=ltI_t (by omega)
  have hw:IntKind.i64.wrap ((i:Int)+1)=((i+1:Nat):Int):=by rw [wrapI] <;> omega
  have ih:=lhdClaimS all hall rest (i+1) k3 hr (by omega) (by omega)
  rw [hk,he] at ih
  refine evLoop_next ?_ (by simpa only [List.length_cons] using ih)
  simp (maxSteps:=1000000) +contextual -dsimp [Tryz.f178,hlt,hi,hc,hw,eqI_self,eqS_self,w0,w1,w2,List.set]
theorem mksClaim_len:∀ (l:List Claim) (k:Int),(mksClaim k l).length=l.length
 | [],_=>rfl
 | x::l,k=>by simp only [mksClaim,List.length_cons,mksClaim_len l]
theorem o_heldClaimS (l:List Claim) (k:Int) (h0:0≤k) (h1:k+(ctsClaim l:Nat) < 2 ^ 60) (hn:l.length≤2097152):fo 178 [A (.sl 150 ((mksClaim k l).map kT)),A (vI k)]=some (R (vI (k+(ctsClaim l:Nat)))):=by
 have hlp:=lhdClaimS (mksClaim k l) (by rw [mksClaim_len]; exact hn) l 0 k rfl h0 h1
 refine orc_178 (l.length+1) ?_
 generalize k+(ctsClaim l:Nat)=k' at *
 generalize mksClaim k l=l' at *
 simp -dsimp [Tryz.f178] at hlp
 simp (maxSteps:=1000000) +contextual -dsimp [Tryz.f178,hlp,List.set]
end Go.TM.Ft
namespace Go.TM.Ft
open Go Go.TM Go.Proofs
set_option maxRecDepth 20000
attribute [local congr] gif_cg
attribute [local simp] footOf noClash clash upsets setsHit setHits layHits layMeets setsMeet evFeet
set_option maxHeartbeats 4000000 in
theorem o_heldEngine (x:Engine) (k:Int) (h0:0≤k) (h1:k+(czEngine x:Nat) < 2 ^ 59) (hx:wEngine x≤2097152):fo 121 [A (.agg (eT (mzEngine k x))),A (vI k)]=some (R (vI (k+(czEngine x:Nat)))):=by
 simp only [czEngine] at h1
 obtain ⟨k1,e1⟩:∃ z,z=k+(ctsProc x.procs:Nat):=⟨_,rfl⟩
 have g0:=o_heldProcS x.procs k (by omega) (by omega) (by simp only [wEngine,wsProc] at hx; omega) (fun y hy=>by have:=sumProc_mem hy; simp only [wEngine,wsProc] at hx; omega)
 rw [← e1] at g0
 have n0:ltI k1 0=false:=ltI_f (by omega)
 obtain ⟨k2,e2⟩:∃ z,z=k1+(ctsInst x.insts:Nat):=⟨_,rfl⟩
 have g1:=o_heldInstS x.insts k1 (by omega) (by omega) (by simp only [wEngine,wsInst] at hx; omega) (fun y hy=>by have:=sumInst_mem hy; simp only [wEngine,wsInst] at hx; omega)
 rw [← e2] at g1
 have n1:ltI k2 0=false:=ltI_f (by omega)
 have hk:k+(czEngine x:Nat)=k2:=by simp only [czEngine]; omega
 have hm:mzEngine k x={ x with procs:=mksProc k x.procs,insts:=mksInst k1 x.insts }:=by subst_vars; rfl
 rw [hk,hm]
 refine orc_121 1 ?_
 simp (maxSteps:=1000000) +contextual -dsimp [Tryz.f121,g0,n0,g1,n1,List.set]
set_option maxHeartbeats 4000000 in
theorem o_heldDesk (x:Desk) (k:Int) (h0:0≤k) (h1:k+(czDesk x:Nat) < 2 ^ 59) (hx:wDesk x≤2097152):fo 104 [A (.agg (dT (mzDesk k x))),A (vI k)]=some (R (vI (k+(czDesk x:Nat)))):=by
 simp only [czDesk] at h1
 obtain ⟨k1,e1⟩:∃ z,z=k+(czEngine x.eng:Nat):=⟨_,rfl⟩
 have g0:=o_heldEngine x.eng k (by omega) (by omega) (by simp only [wDesk] at hx; omega)
 rw [← e1] at g0
 have n0:ltI k1 0=false:=ltI_f (by omega)
 obtain ⟨k2,e2⟩:∃ z,z=k1+(ctsClaim x.claims:Nat):=⟨_,rfl⟩
 have g1:=o_heldClaimS x.claims k1 (by omega) (by omega) (by simp only [wDesk,wEngine] at hx; omega)
 rw [← e2] at g1
 have n1:ltI k2 0=false:=ltI_f (by omega)
 have hk:k+(czDesk x:Nat)=k2:=by simp only [czDesk]; omega
 have hm:mzDesk k x={ x with eng:=mzEngine k x.eng,claims:=mksClaim k1 x.claims }:=by subst_vars; rfl
 rw [hk,hm]
 refine orc_104 1 ?_
 simp (maxSteps:=1000000) +contextual -dsimp [Tryz.f104,g0,n0,g1,n1,List.set]
set_option maxHeartbeats 4000000 in
theorem o_heldDeskResult (x:DeskR) (k:Int) (h0:0≤k) (h1:k+(czDeskResult x:Nat) < 2 ^ 59) (hx:wDeskResult x≤2097152):fo 37 [A (.agg (drT (mzDeskResult k x))),A (vI k)]=some (R (vI (k+(czDeskResult x:Nat)))):=by
 simp only [czDeskResult] at h1
 obtain ⟨k1,e1⟩:∃ z,z=k+(czDesk x.desk:Nat):=⟨_,rfl⟩
 have g0:=o_heldDesk x.desk k (by omega) (by omega) (by simp only [wDeskResult] at hx; omega)
 rw [← e1] at g0
 have n0:ltI k1 0=false:=ltI_f (by omega)
 have hk:k+(czDeskResult x:Nat)=k1:=by simp only [czDeskResult]; omega
 have hm:mzDeskResult k x={ x with desk:=mzDesk k x.desk }:=by subst_vars; rfl
 rw [hk,hm]
 refine orc_37 1 ?_
 simp (maxSteps:=1000000) +contextual -dsimp [Tryz.f37,g0,n0,List.set]
end Go.TM.Ft
