/- What functions of the program come to, by the machine. -/
import Derived.Test.YtlmiemdojgahaaaGreatCL9
import Derived.Test.YtlmiemdojgahaaaGreatCL5
import Derived.Test.YtlmiemdojgahaaaGreatCL8
set_option linter.unusedSimpArgs false
set_option linter.unusedVariables false
namespace Go.TM.Ft
open Go Go.TM Go.Proofs
set_option maxRecDepth 20000
attribute [local congr] gif_cg
attribute [local simp] footOf noClash clash upsets setsHit setHits layHits layMeets setsMeet evFeet
theorem leqintS (all:List Int) (hall:all.length≤2097152):∀ (rest:List Int) (i:Nat),all.drop i=rest→
  evLoop E (orc E) (22:Nat) (rest.length+1) (loopOf Tryz.f22 0) ⟨26,[(0,.sl 2 (all.map iV)),(1,.sl 2 (all.map iV)),(5,vI i)],[],2⟩=
  some (.exit 0,⟨26,[(0,.sl 2 (all.map iV)),(1,.sl 2 (all.map iV)),(5,vI (i+rest.length:Nat)),(14,vB false)],[],2⟩)
 | [],i,h=>by
  have hge:all.length≤i:=by simpa using h
  have hlt:ltI (i:Int) (all.length:Int)=false:=ltI_f (by omega)
  rw [loop_eq]
  simp +contextual -dsimp [Tryz.f22,hlt]
 | x::rest,i,h=>by
  obtain ⟨hi,hc,hr⟩:=drop_cons h
  have hlt:ltI (i:Int) (all.length:Int)=true:=ltI_t (by omega)
  have hw:IntKind.i64.wrap ((i:Int)+1)=((i+1:Nat):Int):=by rw [wrapI] <;> omega
  have ih:=leqintS all hall rest (i+1) hr
  have he:i+1+rest.length=i+(rest.length+1):=by omega
  rw [he] at ih
  refine evLoop_next ?_ (by simpa only [List.length_cons] using ih)
  simp (maxSteps:=1000000) +contextual -dsimp [Tryz.f22,hlt,hi,hc,hw,eqI_self]
theorem g_eqintS (l:List Int) (hl:l.length≤2097152):fo 22 [A (.sl 2 (l.map iV)),A (.sl 2 (l.map iV))]=some (R (vB true)):=by
 have hlp:=leqintS l hl l 0 rfl
 refine orc_22 (l.length+1) ?_
 simp -dsimp [Tryz.f22] at hlp
 simp (maxSteps:=1000000) +contextual -dsimp [Tryz.f22,hlp,eqI_self]
theorem g_eqNode (x:Node):fo 240 [A (.agg (nT x)),A (.agg (nT x))]=some (R (vB true)):=by
 refine orc_240 1 ?_
 simp (maxSteps:=1000000) +contextual -dsimp [Tryz.f240,eqI_self]
theorem leqNodeS (all:List Node) (hall:all.length≤2097152):∀ (rest:List Node) (i:Nat),all.drop i=rest→
  evLoop E (orc E) (173:Nat) (rest.length+1) (loopOf Tryz.f173 0) ⟨27,[(0,.sl 219 (all.map nT)),(1,.sl 219 (all.map nT)),(5,vI i)],[],2⟩=
  some (.exit 0,⟨27,[(0,.sl 219 (all.map nT)),(1,.sl 219 (all.map nT)),(5,vI (i+rest.length:Nat)),(14,vB false)],[],2⟩)
 | [],i,h=>by
  have hge:all.length≤i:=by simpa using h
  have hlt:ltI (i:Int) (all.length:Int)=false:=ltI_f (by omega)
  rw [loop_eq]
  simp +contextual -dsimp [Tryz.f173,hlt]
 | x::rest,i,h=>by
  obtain ⟨hi,hc,hr⟩:=drop_cons h
  have hlt:ltI (i:Int) (all.length:Int)=true:=ltI_t (by omega)
  have hw:IntKind.i64.wrap ((i:Int)+1)=((i+1:Nat):Int):=by rw [wrapI] <;> omega
  have ih:=leqNodeS all hall rest (i+1) hr
  have he:i+1+rest.length=i+(rest.length+1):=by omega
  rw [he] at ih
  have g:=g_eqNode x
  refine evLoop_next ?_ (by simpa only [List.length_cons] using ih)
  simp (maxSteps:=1000000) +contextual -dsimp [Tryz.f173,hlt,hi,hc,hw,g]
theorem g_eqNodeS (l:List Node) (hl:l.length≤2097152):fo 173 [A (.sl 219 (l.map nT)),A (.sl 219 (l.map nT))]=some (R (vB true)):=by
 have hlp:=leqNodeS l hl l 0 rfl
 refine orc_173 (l.length+1) ?_
 simp -dsimp [Tryz.f173] at hlp
 simp (maxSteps:=1000000) +contextual -dsimp [Tryz.f173,hlp,eqI_self]
theorem g_eqStep (x:Step) (h:wStep x≤2097152):fo 83 [A (.agg (sT 219 x)),A (.agg (sT 219 x))]=some (R (vB true)):=by
 have g4:=g_eqNodeS x.cond (by simp only [wStep] at h; omega)
 have g5:=g_eqNodeS x.expr (by simp only [wStep] at h; omega)
 refine orc_83 1 ?_
 simp (maxSteps:=1000000) +contextual -dsimp [Tryz.f83,eqI_self,eqS_self,g4,g5]
theorem leqStepS (all:List Step) (hall:all.length≤2097152) (hf:∀ x,x∈all→wStep x≤2097152):∀ (rest:List Step) (i:Nat),all.drop i=rest→
  evLoop E (orc E) (21:Nat) (rest.length+1) (loopOf Tryz.f21 0) ⟨27,[(0,.sl 124 (all.map (sT 219))),(1,.sl 124 (all.map (sT 219))),(5,vI i)],[],2⟩=
  some (.exit 0,⟨27,[(0,.sl 124 (all.map (sT 219))),(1,.sl 124 (all.map (sT 219))),(5,vI (i+rest.length:Nat)),(14,vB false)],[],2⟩)
 | [],i,h=>by
  have hge:all.length≤i:=by simpa using h
  have hlt:ltI (i:Int) (all.length:Int)=false:=ltI_f (by omega)
  rw [loop_eq]
  simp +contextual -dsimp [Tryz.f21,hlt]
 | x::rest,i,h=>by
  obtain ⟨hi,hc,hr⟩:=drop_cons h
  have hlt:ltI (i:Int) (all.length:Int)=true:=ltI_t (by omega)
  have hw:IntKind.i64.wrap ((i:Int)+1)=((i+1:Nat):Int):=by rw [wrapI] <;> omega
  have ih:=leqStepS all hall hf rest (i+1) hr
  have he:i+1+rest.length=i+(rest.length+1):=by omega
  rw [he] at ih
  have g:=g_eqStep x (hf x (by rw [← hc]; exact List.getElem_mem _))
  refine evLoop_next ?_ (by simpa only [List.length_cons] using ih)
  simp (maxSteps:=1000000) +contextual -dsimp [Tryz.f21,hlt,hi,hc,hw,g]
theorem g_eqStepS (l:List Step) (hl:l.length≤2097152) (hf:∀ x,x∈l→wStep x≤2097152):fo 21 [A (.sl 124 (l.map (sT 219))),A (.sl 124 (l.map (sT 219)))]=some (R (vB true)):=by
 have hlp:=leqStepS l hl hf l 0 rfl
 refine orc_21 (l.length+1) ?_
 simp -dsimp [Tryz.f21] at hlp
 simp (maxSteps:=1000000) +contextual -dsimp [Tryz.f21,hlp,eqI_self]
theorem g_eqProc (x:List Step) (h:wProc x≤2097152):fo 189 [A (.agg (pT 124 219 x)),A (.agg (pT 124 219 x))]=some (R (vB true)):=by
 have g0:=g_eqStepS x (by simp only [wProc,wsStep] at h; omega) (fun y hy=>by have:=sumStep_mem hy; simp only [wProc,wsStep] at h; omega)
 refine orc_189 1 ?_
 simp (maxSteps:=1000000) +contextual -dsimp [Tryz.f189,g0]
theorem leqProcS (all:List (List Step)) (hall:all.length≤2097152) (hf:∀ x,x∈all→wProc x≤2097152):∀ (rest:List (List Step)) (i:Nat),all.drop i=rest→
  evLoop E (orc E) (117:Nat) (rest.length+1) (loopOf Tryz.f117 0) ⟨27,[(0,.sl 160 (all.map (pT 124 219))),(1,.sl 160 (all.map (pT 124 219))),(5,vI i)],[],2⟩=
  some (.exit 0,⟨27,[(0,.sl 160 (all.map (pT 124 219))),(1,.sl 160 (all.map (pT 124 219))),(5,vI (i+rest.length:Nat)),(14,vB false)],[],2⟩)
 | [],i,h=>by
  have hge:all.length≤i:=by simpa using h
  have hlt:ltI (i:Int) (all.length:Int)=false:=ltI_f (by omega)
  rw [loop_eq]
  simp +contextual -dsimp [Tryz.f117,hlt]
 | x::rest,i,h=>by
  obtain ⟨hi,hc,hr⟩:=drop_cons h
  have hlt:ltI (i:Int) (all.length:Int)=true:=ltI_t (by omega)
  have hw:IntKind.i64.wrap ((i:Int)+1)=((i+1:Nat):Int):=by rw [wrapI] <;> omega
  have ih:=leqProcS all hall hf rest (i+1) hr
  have he:i+1+rest.length=i+(rest.length+1):=by omega
  rw [he] at ih
  have g:=g_eqProc x (hf x (by rw [← hc]; exact List.getElem_mem _))
  refine evLoop_next ?_ (by simpa only [List.length_cons] using ih)
  simp (maxSteps:=1000000) +contextual -dsimp [Tryz.f117,hlt,hi,hc,hw,g]
theorem g_eqProcS (l:List (List Step)) (hl:l.length≤2097152) (hf:∀ x,x∈l→wProc x≤2097152):fo 117 [A (.sl 160 (l.map (pT 124 219))),A (.sl 160 (l.map (pT 124 219)))]=some (R (vB true)):=by
 have hlp:=leqProcS l hl hf l 0 rfl
 refine orc_117 (l.length+1) ?_
 simp -dsimp [Tryz.f117] at hlp
 simp (maxSteps:=1000000) +contextual -dsimp [Tryz.f117,hlp,eqI_self]
theorem g_eqChart (x:Chart) (h:wChart x≤2097152):fo 82 [A (.agg (cT x)),A (.agg (cT x))]=some (R (vB true)):=by
 have g2:=g_eqintS x.vars (by simp only [wChart] at h; omega)
 have g3:=g_eqintS x.acts (by simp only [wChart] at h; omega)
 have g4:=g_eqintS x.dues (by simp only [wChart] at h; omega)
 refine orc_82 1 ?_
 simp (maxSteps:=1000000) +contextual -dsimp [Tryz.f82,eqI_self,g2,g3,g4]
theorem g_eqInst (x:Inst) (h:wInst x≤2097152):fo 190 [A (.agg (xT x)),A (.agg (xT x))]=some (R (vB true)):=by
 have g1:=g_eqChart x.chart (by simp only [wInst] at h; omega)
 refine orc_190 1 ?_
 simp (maxSteps:=1000000) +contextual -dsimp [Tryz.f190,eqI_self,g1]
theorem leqInstS (all:List Inst) (hall:all.length≤2097152) (hf:∀ x,x∈all→wInst x≤2097152):∀ (rest:List Inst) (i:Nat),all.drop i=rest→
  evLoop E (orc E) (118:Nat) (rest.length+1) (loopOf Tryz.f118 0) ⟨27,[(0,.sl 163 (all.map xT)),(1,.sl 163 (all.map xT)),(5,vI i)],[],2⟩=
  some (.exit 0,⟨27,[(0,.sl 163 (all.map xT)),(1,.sl 163 (all.map xT)),(5,vI (i+rest.length:Nat)),(14,vB false)],[],2⟩)
 | [],i,h=>by
  have hge:all.length≤i:=by simpa using h
  have hlt:ltI (i:Int) (all.length:Int)=false:=ltI_f (by omega)
  rw [loop_eq]
  simp +contextual -dsimp [Tryz.f118,hlt]
 | x::rest,i,h=>by
  obtain ⟨hi,hc,hr⟩:=drop_cons h
  have hlt:ltI (i:Int) (all.length:Int)=true:=ltI_t (by omega)
  have hw:IntKind.i64.wrap ((i:Int)+1)=((i+1:Nat):Int):=by rw [wrapI] <;> omega
  have ih:=leqInstS all hall hf rest (i+1) hr
  have he:i+1+rest.length=i+(rest.length+1):=by omega
  rw [he] at ih
  have g:=g_eqInst x (hf x (by rw [← hc]; exact List.getElem_mem _))
  refine evLoop_next ?_ (by simpa only [List.length_cons] using ih)
  simp (maxSteps:=1000000) +contextual -dsimp [Tryz.f118,hlt,hi,hc,hw,g]
theorem g_eqInstS (l:List Inst) (hl:l.length≤2097152) (hf:∀ x,x∈l→wInst x≤2097152):fo 118 [A (.sl 163 (l.map xT)),A (.sl 163 (l.map xT))]=some (R (vB true)):=by
 have hlp:=leqInstS l hl hf l 0 rfl
 refine orc_118 (l.length+1) ?_
 simp -dsimp [Tryz.f118] at hlp
 simp (maxSteps:=1000000) +contextual -dsimp [Tryz.f118,hlp,eqI_self]
theorem g_eqClaim (x:Claim):fo 177 [A (.agg (kT x)),A (.agg (kT x))]=some (R (vB true)):=by
 refine orc_177 1 ?_
 simp (maxSteps:=1000000) +contextual -dsimp [Tryz.f177,eqI_self]
theorem leqClaimS (all:List Claim) (hall:all.length≤2097152):∀ (rest:List Claim) (i:Nat),all.drop i=rest→
  evLoop E (orc E) (102:Nat) (rest.length+1) (loopOf Tryz.f102 0) ⟨27,[(0,.sl 150 (all.map kT)),(1,.sl 150 (all.map kT)),(5,vI i)],[],2⟩=
  some (.exit 0,⟨27,[(0,.sl 150 (all.map kT)),(1,.sl 150 (all.map kT)),(5,vI (i+rest.length:Nat)),(14,vB false)],[],2⟩)
 | [],i,h=>by
  have hge:all.length≤i:=by simpa using h
  have hlt:ltI (i:Int) (all.length:Int)=false:=ltI_f (by omega)
  rw [loop_eq]
  simp +contextual -dsimp [Tryz.f102,hlt]
 | x::rest,i,h=>by
  obtain ⟨hi,hc,hr⟩:=drop_cons h
  have hlt:ltI (i:Int) (all.length:Int)=true:=ltI_t (by omega)
  have hw:IntKind.i64.wrap ((i:Int)+1)=((i+1:Nat):Int):=by rw [wrapI] <;> omega
  have ih:=leqClaimS all hall rest (i+1) hr
  have he:i+1+rest.length=i+(rest.length+1):=by omega
  rw [he] at ih
  have g:=g_eqClaim x
  refine evLoop_next ?_ (by simpa only [List.length_cons] using ih)
  simp (maxSteps:=1000000) +contextual -dsimp [Tryz.f102,hlt,hi,hc,hw,g]
theorem g_eqClaimS (l:List Claim) (hl:l.length≤2097152):fo 102 [A (.sl 150 (l.map kT)),A (.sl 150 (l.map kT))]=some (R (vB true)):=by
 have hlp:=leqClaimS l hl l 0 rfl
 refine orc_102 (l.length+1) ?_
 simp -dsimp [Tryz.f102] at hlp
 simp (maxSteps:=1000000) +contextual -dsimp [Tryz.f102,hlp,eqI_self]
theorem g_eqEngine (x:Engine) (h:wEngine x≤2097152):fo 43 [A (.agg (eT x)),A (.agg (eT x))]=some (R (vB true)):=by
 have g0:=g_eqProcS x.procs (by simp only [wEngine,wsProc] at h; omega) (fun y hy=>by have:=sumProc_mem hy; simp only [wEngine,wsProc] at h; omega)
 have g1:=g_eqInstS x.insts (by simp only [wEngine,wsInst] at h; omega) (fun y hy=>by have:=sumInst_mem hy; simp only [wEngine,wsInst] at h; omega)
 refine orc_43 1 ?_
 simp (maxSteps:=1000000) +contextual -dsimp [Tryz.f43,eqI_self,g0,g1]
theorem g_eqDesk (x:Desk) (h:wDesk x≤2097152):fo 34 [A (.agg (dT x)),A (.agg (dT x))]=some (R (vB true)):=by
 have g0:=g_eqEngine x.eng (by simp only [wDesk] at h; omega)
 have g1:=g_eqClaimS x.claims (by simp only [wDesk] at h; omega)
 refine orc_34 1 ?_
 simp (maxSteps:=1000000) +contextual -dsimp [Tryz.f34,g0,g1]
end Go.TM.Ft
namespace Go.TM.Ft
open Go Go.TM Go.Proofs
set_option maxRecDepth 20000
attribute [local congr] gif_cg
attribute [local simp] footOf noClash clash upsets setsHit setHits layHits layMeets setsMeet evFeet
theorem osealed_int (l:List Int):sealEs (l.map iV)=l.map iV:=sealEs_map (f:=iV) (g:=iV) (fun a=>by simp [sealL,seal_]) l
theorem oclean_int (l:List Int):cleanEs (l.map iV)=true:=by
 induction l with
 | nil=>rfl
 | cons x l ih=>simp only [List.map_cons,cleanEs,ih,Bool.and_true]; simp [cleanL,clean]
theorem osealed_Node (l:List Node):sealEs (l.map nT)=l.map nT:=sealEs_map (f:=nT) (g:=nT) (fun a=>by simp [sealL,seal_]) l
theorem oclean_Node (l:List Node):cleanEs (l.map nT)=true:=by
 induction l with
 | nil=>rfl
 | cons x l ih=>simp only [List.map_cons,cleanEs,ih,Bool.and_true]; simp [cleanL,clean]
abbrev StepO (x:Step):List T:=[vI x.kind,vI x.parent,vS x.name,vI x.arg,.own 219 (x.cond.map nT),.own 219 (x.expr.map nT)]
theorem osealed_Step (l:List Step):sealEs (l.map StepO)=l.map (sT 219):=sealEs_map (f:=StepO) (g:=(sT 219)) (fun a=>by simp [sealL,seal_,osealed_Node]) l
theorem oclean_Step (l:List Step):cleanEs (l.map StepO)=true:=by
 induction l with
 | nil=>rfl
 | cons x l ih=>simp only [List.map_cons,cleanEs,ih,Bool.and_true]; simp [cleanL,clean,oclean_Node]
abbrev ProcO (x:List Step):List T:=[.own 124 (x.map StepO)]
theorem osealed_Proc (l:List (List Step)):sealEs (l.map ProcO)=l.map (pT 124 219):=sealEs_map (f:=ProcO) (g:=(pT 124 219)) (fun a=>by simp [sealL,seal_,osealed_Step]) l
theorem oclean_Proc (l:List (List Step)):cleanEs (l.map ProcO)=true:=by
 induction l with
 | nil=>rfl
 | cons x l ih=>simp only [List.map_cons,cleanEs,ih,Bool.and_true]; simp [cleanL,clean,oclean_Step]
abbrev ChartO (x:Chart):List T:=[vI x.status,vI x.now,.own 2 (x.vars.map iV),.own 2 (x.acts.map iV),.own 2 (x.dues.map iV)]
abbrev InstO (x:Inst):List T:=[vI x.proc,vI x.chart.status,vI x.chart.now,.own 2 (x.chart.vars.map iV),.own 2 (x.chart.acts.map iV),.own 2 (x.chart.dues.map iV)]
theorem osealed_Inst (l:List Inst):sealEs (l.map InstO)=l.map xT:=sealEs_map (f:=InstO) (g:=xT) (fun a=>by simp [sealL,seal_,osealed_int]) l
theorem oclean_Inst (l:List Inst):cleanEs (l.map InstO)=true:=by
 induction l with
 | nil=>rfl
 | cons x l ih=>simp only [List.map_cons,cleanEs,ih,Bool.and_true]; simp [cleanL,clean,oclean_int]
theorem osealed_Claim (l:List Claim):sealEs (l.map kT)=l.map kT:=sealEs_map (f:=kT) (g:=kT) (fun a=>by simp [sealL,seal_]) l
theorem oclean_Claim (l:List Claim):cleanEs (l.map kT)=true:=by
 induction l with
 | nil=>rfl
 | cons x l ih=>simp only [List.map_cons,cleanEs,ih,Bool.and_true]; simp [cleanL,clean]
abbrev EngineO (x:Engine):List T:=[.own 160 (x.procs.map ProcO),.own 163 (x.insts.map InstO),vI x.now]
abbrev DeskO (x:Desk):List T:=[.own 160 (x.eng.procs.map ProcO),.own 163 (x.eng.insts.map InstO),vI x.eng.now,.own 150 (x.claims.map kT)]
abbrev DeskResultO (x:DeskR):List T:=[vI x.code,vI x.value,.own 160 (x.desk.eng.procs.map ProcO),.own 163 (x.desk.eng.insts.map InstO),vI x.desk.eng.now,.own 150 (x.desk.claims.map kT)]
end Go.TM.Ft
namespace Go.TM.Ft
open Go Go.TM Go.Proofs
set_option maxRecDepth 20000
attribute [local congr] gif_cg
attribute [local simp] footOf noClash clash upsets setsHit setHits layHits layMeets setsMeet evFeet seal4_iE seal4_set clean_iE osealed_Node oclean_Node
theorem one_nT (l:List Node):((l.map nT).all fun c=>c.all one1)=true:=by
 rw [List.all_eq_true]; intro c hc; obtain ⟨x,_,rfl⟩:=List.mem_map.1 hc; rfl
theorem f_CloneN (l:List Node) (hl:l.length≤1048576):fo 285 [A (nS 219 l)]=some ⟨.own 219 (l.map nT),[],true⟩:=by
 refine orc_ext (g:=cloneT 219) rfl ?_
 have h1:=one_nT l
 have h2:=elems_le hl
 simp only [cloneT]
 rw [if_pos ⟨trivial,h1,by simpa using h2⟩,oclean_Node]
theorem foldI_snoc {α:Type}:∀ (r:List α) (i:Nat) (acc:List α),foldI (fun _ acc x=>acc++[x]) i acc r=acc++r
 | [],_,acc=>by simp [foldI]
 | x::r,i,acc=>by simp only [foldI]; rw [foldI_snoc r]; simp
def SmS (s:Step):Prop:=s.cond.length≤1048576∧s.expr.length≤1048576
set_option maxHeartbeats 4000000 in
theorem lp246 (l:List Step) (hl:l.length≤1048576) (hf:∀ s,s∈l→SmS s):
  evLoop E (orc E) (246:Nat) (l.length+1) (loopOf Tryz.f246 0) ⟨27,[(3,.ref 3 1 [] 0 0),(7,.sl 124 (l.map (sT 219))),(8,vI l.length),(9,vI (0:Nat))],[(3,⟨1,1,false,[.own 124 []]⟩)],2⟩=
  some (.exit 0,⟨27,[(3,.ref 3 1 [] 0 l.length),(7,.sl 124 (l.map (sT 219))),(8,vI l.length),(9,vI l.length),(10,vB false)],[(3,⟨1,1,false,[.own 124 (l.map StepO)]⟩)],2⟩):=by
 have h:=loop_all (σ:=List Step) (f:=246) (id:=0) (code:=loopOf Tryz.f246 0) l (fun i acc=>acc.length=i)
  (fun i acc=>⟨27,[(3,.ref 3 1 [] 0 acc.length),(7,.sl 124 (l.map (sT 219))),(8,vI l.length),(9,vI i)],[(3,⟨1,1,false,[.own 124 (acc.map StepO)]⟩)],2⟩) (fun _ acc x=>acc++[x])
  (fun acc=>⟨27,[(3,.ref 3 1 [] 0 acc.length),(7,.sl 124 (l.map (sT 219))),(8,vI l.length),(9,vI l.length),(10,vB false)],[(3,⟨1,1,false,[.own 124 (acc.map StepO)]⟩)],2⟩)
 have h2:=h ?_ ?_ [] rfl
 ·rw [foldI_snoc] at h2; simpa using h2
 ·intro k acc _
  have hlt:=ltN_f l.length
  simp +contextual -dsimp [Tryz.f246,hlt]
 ·intro k i acc hi hI
  have hlt:=ltN_t hi
  have hw:=wrap1 hi (by omega)
  have hcap:acc.length+1≤maxElems:=by unfold maxElems; omega
  have hs:=hf l[i] (List.getElem_mem hi)
  have g1:=f_CloneN l[i].cond hs.1
  have g2:=f_CloneN l[i].expr hs.2
  refine ⟨?_,by simp [hI]⟩
  simp (maxSteps:=1000000) +contextual -dsimp [Tryz.f246,hlt,hi,hw,g1,g2,hcap,List.set]
theorem f_cloneSteps (l:List Step) (hl:l.length≤1048576) (hf:∀ s,s∈l→SmS s):fo 246 [A (.sl 124 (l.map (sT 219)))]=some ⟨.own 124 (l.map StepO),[],true⟩:=by
 have hlp:=lp246 l hl hf
 have hcl:=oclean_Step l
 refine orc_246 (l.length+1) ?_
 simp -dsimp [Tryz.f246] at hlp
 simp (maxSteps:=1000000) +contextual -dsimp [Tryz.f246,hlp,hcl,List.set]
set_option maxHeartbeats 4000000 in
theorem lp242 (l:List Step) (hl:l.length≤1048576) (hf:∀ s,s∈l→SmS s):
  evLoop E (orc E) (242:Nat) (l.length+1) (loopOf Tryz.f242 0) ⟨32,[(0,.sl 124 (l.map (sT 219))),(3,.ref 3 1 [] 0 0),(4,vI (0:Nat))],[(3,⟨1,1,false,[.own 124 []]⟩)],2⟩=
  some (.exit 0,⟨32,[(0,.sl 124 (l.map (sT 219))),(3,.ref 3 1 [] 0 l.length),(4,vI l.length),(10,vB false)],[(3,⟨1,1,false,[.own 124 (l.map StepO)]⟩)],2⟩):=by
 have h:=loop_all (σ:=List Step) (f:=242) (id:=0) (code:=loopOf Tryz.f242 0) l (fun i acc=>acc.length=i)
  (fun i acc=>⟨32,[(0,.sl 124 (l.map (sT 219))),(3,.ref 3 1 [] 0 acc.length),(4,vI i)],[(3,⟨1,1,false,[.own 124 (acc.map StepO)]⟩)],2⟩) (fun _ acc x=>acc++[x])
  (fun acc=>⟨32,[(0,.sl 124 (l.map (sT 219))),(3,.ref 3 1 [] 0 acc.length),(4,vI l.length),(10,vB false)],[(3,⟨1,1,false,[.own 124 (acc.map StepO)]⟩)],2⟩)
 have h2:=h ?_ ?_ [] rfl
 ·rw [foldI_snoc] at h2; simpa using h2
 ·intro k acc _
  have hlt:=ltN_f l.length
  simp +contextual -dsimp [Tryz.f242,hlt]
 ·intro k i acc hi hI
  have hlt:=ltN_t hi
  have hw:=wrap1 hi (by omega)
  have hcap:acc.length+1≤maxElems:=by unfold maxElems; omega
  have hs:=hf l[i] (List.getElem_mem hi)
  have h1:=one_nT l[i].cond
  have h2:=one_nT l[i].expr
  have h3:l[i].cond.length≤maxElems:=elems_le hs.1
  have h4:l[i].expr.length≤maxElems:=elems_le hs.2
  refine ⟨?_,by simp [hI]⟩
  simp (maxSteps:=1000000) +contextual -dsimp [Tryz.f242,hlt,hi,hw,h1,h2,h3,h4,hcap,List.set]
theorem f_l4Copy (l:List Step) (hl:l.length≤1048576) (hf:∀ s,s∈l→SmS s):fo 242 [A (.sl 124 (l.map (sT 219)))]=some ⟨.own 124 (l.map StepO),[],true⟩:=by
 have hlp:=lp242 l hl hf
 have hcl:=oclean_Step l
 refine orc_242 (l.length+1) ?_
 simp -dsimp [Tryz.f242] at hlp
 simp (maxSteps:=1000000) +contextual -dsimp [Tryz.f242,hlp,hcl,List.set]
abbrev SmP (p:List Step):Prop:=p.length≤1048576∧∀ s,s∈p→SmS s
set_option maxHeartbeats 4000000 in
theorem lp187 (l:List (List Step)) (hl:l.length≤1048576) (hf:∀ s,s∈l→SmP s):
  evLoop E (orc E) (187:Nat) (l.length+1) (loopOf Tryz.f187 0) ⟨22,[(3,.ref 3 1 [] 0 0),(7,.sl 160 (l.map (pT 124 219))),(8,vI l.length),(9,vI (0:Nat))],[(3,⟨1,1,false,[.own 160 []]⟩)],2⟩=
  some (.exit 0,⟨22,[(3,.ref 3 1 [] 0 l.length),(7,.sl 160 (l.map (pT 124 219))),(8,vI l.length),(9,vI l.length),(10,vB false)],[(3,⟨1,1,false,[.own 160 (l.map ProcO)]⟩)],2⟩):=by
 have h:=loop_all (σ:=List (List Step)) (f:=187) (id:=0) (code:=loopOf Tryz.f187 0) l (fun i acc=>acc.length=i)
  (fun i acc=>⟨22,[(3,.ref 3 1 [] 0 acc.length),(7,.sl 160 (l.map (pT 124 219))),(8,vI l.length),(9,vI i)],[(3,⟨1,1,false,[.own 160 (acc.map ProcO)]⟩)],2⟩) (fun _ acc x=>acc++[x])
  (fun acc=>⟨22,[(3,.ref 3 1 [] 0 acc.length),(7,.sl 160 (l.map (pT 124 219))),(8,vI l.length),(9,vI l.length),(10,vB false)],[(3,⟨1,1,false,[.own 160 (acc.map ProcO)]⟩)],2⟩)
 have h2:=h ?_ ?_ [] rfl
 ·rw [foldI_snoc] at h2; simpa using h2
 ·intro k acc _
  have hlt:=ltN_f l.length
  simp +contextual -dsimp [Tryz.f187,hlt]
 ·intro k i acc hi hI
  have hlt:=ltN_t hi
  have hw:=wrap1 hi (by omega)
  have hcap:acc.length+1≤maxElems:=by unfold maxElems; omega
  have hs:=hf l[i] (List.getElem_mem hi)
  have g1:=f_cloneSteps l[i] hs.1 hs.2
  refine ⟨?_,by simp [hI]⟩
  simp (maxSteps:=1000000) +contextual -dsimp [Tryz.f187,hlt,hi,hw,g1,hcap,List.set]
theorem f_cloneProcs (l:List (List Step)) (hl:l.length≤1048576) (hf:∀ s,s∈l→SmP s):fo 187 [A (.sl 160 (l.map (pT 124 219)))]=some ⟨.own 160 (l.map ProcO),[],true⟩:=by
 have hlp:=lp187 l hl hf
 have hcl:=oclean_Proc l
 refine orc_187 (l.length+1) ?_
 simp -dsimp [Tryz.f187] at hlp
 simp (maxSteps:=1000000) +contextual -dsimp [Tryz.f187,hlp,hcl,List.set]
set_option maxHeartbeats 4000000 in
theorem lp182 (l:List (List Step)) (hl:l.length≤1048576) (hf:∀ s,s∈l→SmP s):
  evLoop E (orc E) (182:Nat) (l.length+1) (loopOf Tryz.f182 0) ⟨23,[(0,.sl 160 (l.map (pT 124 219))),(3,.ref 3 1 [] 0 0),(4,vI (0:Nat))],[(3,⟨1,1,false,[.own 160 []]⟩)],2⟩=
  some (.exit 0,⟨23,[(0,.sl 160 (l.map (pT 124 219))),(3,.ref 3 1 [] 0 l.length),(4,vI l.length),(9,vB false)],[(3,⟨1,1,false,[.own 160 (l.map ProcO)]⟩)],2⟩):=by
 have h:=loop_all (σ:=List (List Step)) (f:=182) (id:=0) (code:=loopOf Tryz.f182 0) l (fun i acc=>acc.length=i)
  (fun i acc=>⟨23,[(0,.sl 160 (l.map (pT 124 219))),(3,.ref 3 1 [] 0 acc.length),(4,vI i)],[(3,⟨1,1,false,[.own 160 (acc.map ProcO)]⟩)],2⟩) (fun _ acc x=>acc++[x])
  (fun acc=>⟨23,[(0,.sl 160 (l.map (pT 124 219))),(3,.ref 3 1 [] 0 acc.length),(4,vI l.length),(9,vB false)],[(3,⟨1,1,false,[.own 160 (acc.map ProcO)]⟩)],2⟩)
 have h2:=h ?_ ?_ [] rfl
 ·rw [foldI_snoc] at h2; simpa using h2
 ·intro k acc _
  have hlt:=ltN_f l.length
  simp +contextual -dsimp [Tryz.f182,hlt]
 ·intro k i acc hi hI
  have hlt:=ltN_t hi
  have hw:=wrap1 hi (by omega)
  have hcap:acc.length+1≤maxElems:=by unfold maxElems; omega
  have hs:=hf l[i] (List.getElem_mem hi)
  have g1:=f_l4Copy l[i] hs.1 hs.2
  refine ⟨?_,by simp [hI]⟩
  simp (maxSteps:=1000000) +contextual -dsimp [Tryz.f182,hlt,hi,hw,g1,hcap,List.set]
theorem f_l11Copies (l:List (List Step)) (hl:l.length≤1048576) (hf:∀ s,s∈l→SmP s):fo 182 [A (.sl 160 (l.map (pT 124 219)))]=some ⟨.own 160 (l.map ProcO),[],true⟩:=by
 have hlp:=lp182 l hl hf
 have hcl:=oclean_Proc l
 refine orc_182 (l.length+1) ?_
 simp -dsimp [Tryz.f182] at hlp
 simp (maxSteps:=1000000) +contextual -dsimp [Tryz.f182,hlp,hcl,List.set]
structure SmE (e:Engine):Prop where
 np:e.procs.length≤1048576
 ni:e.insts.length≤1048576
 procs:∀ p,p∈e.procs→SmP p
 insts:∀ x,x∈e.insts→Few x.chart
abbrev z59:List T:=[.own 160 [],.own 163 [],vI 0]
set_option maxHeartbeats 4000000 in
theorem lp116 (e:Engine) (h:SmE e):
  evLoop E (orc E) (116:Nat) (e.insts.length+1) (loopOf Tryz.f116 0) ⟨32,[(2,.ptr 2 1 [] 0),(3,.ptr 3 1 [] 0),(13,.sl 163 (e.insts.map xT)),(14,vI e.insts.length),(15,vI (0:Nat))],[(1,⟨1,1,true,eT e⟩),(2,⟨1,1,true,z59⟩),(3,⟨1,1,true,[.own 160 (e.procs.map ProcO),.own 163 [],vI e.now]⟩)],2⟩=
  some (.exit 0,⟨32,[(2,.ptr 2 1 [] 0),(3,.ptr 3 1 [] 0),(13,.sl 163 (e.insts.map xT)),(14,vI e.insts.length),(15,vI e.insts.length),(16,vB false)],[(1,⟨1,1,true,eT e⟩),(2,⟨1,1,true,z59⟩),(3,⟨1,1,true,EngineO e⟩)],2⟩):=by
 have hl:=h.ni
 have hh:=loop_all (σ:=List Inst) (f:=116) (id:=0) (code:=loopOf Tryz.f116 0) e.insts (fun i acc=>acc.length=i)
  (fun i acc=>⟨32,[(2,.ptr 2 1 [] 0),(3,.ptr 3 1 [] 0),(13,.sl 163 (e.insts.map xT)),(14,vI e.insts.length),(15,vI i)],[(1,⟨1,1,true,eT e⟩),(2,⟨1,1,true,z59⟩),(3,⟨1,1,true,[.own 160 (e.procs.map ProcO),.own 163 (acc.map InstO),vI e.now]⟩)],2⟩) (fun _ acc x=>acc++[x])
  (fun acc=>⟨32,[(2,.ptr 2 1 [] 0),(3,.ptr 3 1 [] 0),(13,.sl 163 (e.insts.map xT)),(14,vI e.insts.length),(15,vI e.insts.length),(16,vB false)],[(1,⟨1,1,true,eT e⟩),(2,⟨1,1,true,z59⟩),(3,⟨1,1,true,[.own 160 (e.procs.map ProcO),.own 163 (acc.map InstO),vI e.now]⟩)],2⟩)
 have h2:=hh ?_ ?_ [] rfl
 ·rw [foldI_snoc] at h2; simpa using h2
 ·intro k acc _
  have hlt:=ltN_f e.insts.length
  simp +contextual -dsimp [Tryz.f116,hlt]
 ·intro k i acc hi hI
  have hlt:=ltN_t hi
  have hw:=wrap1 hi (by omega)
  have hcap:acc.length+1≤maxElems:=by unfold maxElems; omega
  have g1:=f_cloneC e.insts[i].chart (h.insts _ (List.getElem_mem hi))
  refine ⟨?_,by simp [hI]⟩
  simp (maxSteps:=1000000) +contextual -dsimp [Tryz.f116,hlt,hi,hw,g1,hcap,List.set]
theorem f_cloneE (e:Engine) (h:SmE e):fo 116 [A (.agg (eT e))]=some ⟨.agg (EngineO e),[],true⟩:=by
 have hlp:=lp116 e h
 have hcl:=oclean_Proc e.procs
 have hcl2:=oclean_Inst e.insts
 have g1:=f_cloneProcs e.procs h.np h.procs
 refine orc_116 (e.insts.length+1) ?_
 simp -dsimp [Tryz.f116] at hlp
 simp (maxSteps:=1000000) +contextual -dsimp [Tryz.f116,hlp,hcl,hcl2,g1,List.set]
set_option maxHeartbeats 4000000 in
theorem lp110 (e:Engine) (h:SmE e):
  evLoop E (orc E) (110:Nat) (e.insts.length+1) (loopOf Tryz.f110 0) ⟨38,[(1,.ptr 1 1 [] 0),(2,.ptr 2 1 [] 0),(3,.ptr 3 1 [] 0),(4,vI (0:Nat))],[(1,⟨1,1,true,eT e⟩),(2,⟨1,1,true,z59⟩),(3,⟨1,1,true,[.own 160 (e.procs.map ProcO),.own 163 [],vI e.now]⟩)],2⟩=
  some (.exit 0,⟨38,[(1,.ptr 1 1 [] 0),(2,.ptr 2 1 [] 0),(3,.ptr 3 1 [] 0),(4,vI e.insts.length),(15,vB false)],[(1,⟨1,1,true,eT e⟩),(2,⟨1,1,true,z59⟩),(3,⟨1,1,true,EngineO e⟩)],2⟩):=by
 have hl:=h.ni
 have hh:=loop_all (σ:=List Inst) (f:=110) (id:=0) (code:=loopOf Tryz.f110 0) e.insts (fun i acc=>acc.length=i)
  (fun i acc=>⟨38,[(1,.ptr 1 1 [] 0),(2,.ptr 2 1 [] 0),(3,.ptr 3 1 [] 0),(4,vI i)],[(1,⟨1,1,true,eT e⟩),(2,⟨1,1,true,z59⟩),(3,⟨1,1,true,[.own 160 (e.procs.map ProcO),.own 163 (acc.map InstO),vI e.now]⟩)],2⟩) (fun _ acc x=>acc++[x])
  (fun acc=>⟨38,[(1,.ptr 1 1 [] 0),(2,.ptr 2 1 [] 0),(3,.ptr 3 1 [] 0),(4,vI e.insts.length),(15,vB false)],[(1,⟨1,1,true,eT e⟩),(2,⟨1,1,true,z59⟩),(3,⟨1,1,true,[.own 160 (e.procs.map ProcO),.own 163 (acc.map InstO),vI e.now]⟩)],2⟩)
 have h2:=hh ?_ ?_ [] rfl
 ·rw [foldI_snoc] at h2; simpa using h2
 ·intro k acc _
  have hlt:=ltN_f e.insts.length
  simp +contextual -dsimp [Tryz.f110,hlt]
 ·intro k i acc hi hI
  have hlt:=ltN_t hi
  have hw:=wrap1 hi (by omega)
  have hcap:acc.length+1≤maxElems:=by unfold maxElems; omega
  have g1:=f_l9Copy e.insts[i].chart (h.insts _ (List.getElem_mem hi))
  refine ⟨?_,by simp [hI]⟩
  simp (maxSteps:=1000000) +contextual -dsimp [Tryz.f110,hlt,hi,hw,g1,hcap,List.set]
theorem f_l11Copy (e:Engine) (h:SmE e):fo 110 [A (.agg (eT e))]=some ⟨.agg (EngineO e),[],true⟩:=by
 have hlp:=lp110 e h
 have hcl:=oclean_Proc e.procs
 have hcl2:=oclean_Inst e.insts
 have g1:=f_l11Copies e.procs h.np h.procs
 refine orc_110 (e.insts.length+1) ?_
 simp -dsimp [Tryz.f110] at hlp
 simp (maxSteps:=1000000) +contextual -dsimp [Tryz.f110,hlp,hcl,hcl2,g1,List.set]
end Go.TM.Ft
namespace Go.TM.Ft
open Go Go.TM Go.Proofs
set_option maxRecDepth 20000
attribute [local congr] gif_cg
attribute [local simp] footOf noClash clash upsets setsHit setHits layHits layMeets setsMeet evFeet seal4_iE seal4_set clean_iE osealed_Node oclean_Node oclean_Proc oclean_Inst oclean_int oclean_Claim
theorem one_kT (l:List Claim):((l.map kT).all fun c=>c.all one1)=true:=by
 rw [List.all_eq_true]; intro c hc; obtain ⟨x,_,rfl⟩:=List.mem_map.1 hc; rfl
theorem f_CloneK (l:List Claim) (hl:l.length≤1048576):fo 149 [A (.sl 150 (l.map kT))]=some ⟨.own 150 (l.map kT),[],true⟩:=by
 refine orc_ext (g:=cloneT 150) rfl ?_
 have h1:=one_kT l
 have h2:=elems_le hl
 simp only [cloneT]
 rw [if_pos ⟨trivial,h1,by simpa using h2⟩,oclean_Claim]
structure SmD (d:Desk):Prop where
 eng:SmE d.eng
 claims:d.claims.length≤1048576
theorem f_cloneD (d:Desk) (h:SmD d):fo 100 [A (.agg (dT d))]=some ⟨.agg (DeskO d),[],true⟩:=by
 have g1:=f_cloneE d.eng h.eng
 have g2:=f_CloneK d.claims h.claims
 refine orc_100 1 ?_
 simp (maxSteps:=1000000) +contextual -dsimp [Tryz.f100,g1,g2,List.set]
theorem f_l12Copy (d:Desk) (h:SmD d):fo 96 [A (.agg (dT d))]=some ⟨.agg (DeskO d),[],true⟩:=by
 have g1:=f_l11Copy d.eng h.eng
 have h1:=one_kT d.claims
 have h2:d.claims.length≤maxElems:=elems_le h.claims
 refine orc_96 1 ?_
 simp (maxSteps:=1000000) +contextual -dsimp [Tryz.f96,g1,h1,h2,List.set]
def noD:Desk:=⟨⟨[],[],0⟩,[]⟩
def badD (k:Int):DeskR:=⟨k,0,noD⟩
abbrev RDk (r:DeskR):Res:=⟨.agg (DeskResultO r),[],true⟩
theorem f_l12Bad (k:Int):fo 94 [A (vI k)]=some (RDk (badD k)):=by
 refine orc_94 1 ?_
 simp (maxSteps:=1000000) +contextual -dsimp [Tryz.f94,badD,noD,List.set]
def sameB (c:Claim) (i s:Int):Bool:=andB (eqI c.inst i) (eqI c.step s)
def whoM:List Claim→Int→Int→Int
 | [],_,_=>0
 | c::r,i,s=>if sameB c i s=true then c.user else whoM r i s
set_option maxHeartbeats 4000000 in
theorem lp95 (d:Desk) (hl:d.claims.length≤1048576) (i s:Int):∀ (rest:List Claim) (k:Nat),d.claims.drop k=rest→(∀ c,c∈rest→sameB c i s=false)→
  evLoop E (orc E) (95:Nat) (rest.length+1) (loopOf Tryz.f95 0) ⟨47,[(0,.ipt (dT d)),(1,vI i),(2,vI s),(7,vI k)],[],2⟩=
  some (.exit 0,⟨47,[(0,.ipt (dT d)),(1,vI i),(2,vI s),(7,vI (k+rest.length:Nat)),(14,vB false)],[],2⟩)
 | [],k,h,_=>by
  have hge:d.claims.length≤k:=by simpa using h
  have hlt:ltI (k:Int) (d.claims.length:Int)=false:=ltI_f (by omega)
  rw [loop_eq]
  simp +contextual -dsimp [Tryz.f95,hlt]
 | c::rest,k,h,hn=>by
  obtain ⟨hi,hc,hr⟩:=drop_cons h
  have hlt:ltI (k:Int) (d.claims.length:Int)=true:=ltI_t (by omega)
  have hw:IntKind.i64.wrap ((k:Int)+1)=((k+1:Nat):Int):=by rw [wrapI] <;> omega
  have he:k+1+rest.length=k+(rest.length+1):=by omega
  have ih:=lp95 d hl i s rest (k+1) hr fun c hc=>hn c (by simp [hc])
  rw [he] at ih
  have q:=hn c (by simp)
  unfold sameB at q
  refine evLoop_next ?_ (by simpa only [List.length_cons] using ih)
  simp (maxSteps:=1000000) +contextual -dsimp [Tryz.f95,hlt,hi,hc,hw,q,List.set]
set_option maxHeartbeats 4000000 in
theorem lp95t (d:Desk) (hl:d.claims.length≤1048576) (i s:Int):∀ (rest:List Claim) (k:Nat),d.claims.drop k=rest→(∃ c,c∈rest∧sameB c i s=true)→
  evLoop E (orc E) (95:Nat) (rest.length+1) (loopOf Tryz.f95 0) ⟨47,[(0,.ipt (dT d)),(1,vI i),(2,vI s),(7,vI k)],[],2⟩=
  some (.ret,⟨47,[(6,vI (whoM rest i s))],[],2⟩)
 | [],k,h,hx=>by obtain ⟨c,hc,_⟩:=hx; simp at hc
 | c::rest,k,h,hx=>by
  obtain ⟨hi,hc,hr⟩:=drop_cons h
  have hlt:ltI (k:Int) (d.claims.length:Int)=true:=ltI_t (by omega)
  have hw:IntKind.i64.wrap ((k:Int)+1)=((k+1:Nat):Int):=by rw [wrapI] <;> omega
  cases q:sameB c i s
  ·have ih:=lp95t d hl i s rest (k+1) hr (by
    obtain ⟨c',hc',q'⟩:=hx
    rcases List.mem_cons.1 hc' with rfl | hc'
    ·rw [q] at q'; cases q'
    ·exact ⟨c',hc',q'⟩)
   have hm:whoM (c::rest) i s=whoM rest i s:=by simp [whoM,q]
   rw [hm]
   unfold sameB at q
   refine evLoop_next ?_ (by simpa only [List.length_cons] using ih)
   simp (maxSteps:=1000000) +contextual -dsimp [Tryz.f95,hlt,hi,hc,hw,q,List.set]
  ·have hm:whoM (c::rest) i s=c.user:=by simp [whoM,q]
   rw [hm]
   unfold sameB at q
   refine evLoop_out ?_ (by simp)
   simp (maxSteps:=1000000) +contextual -dsimp [Tryz.f95,hlt,hi,hc,q,List.set]
theorem whoM_none {i s:Int}:∀ {l:List Claim},(∀ c,c∈l→sameB c i s=false)→whoM l i s=0
 | [],_=>rfl
 | c::l,h=>by
  simp only [whoM,h c (by simp)]
  exact whoM_none fun c hc=>h c (by simp [hc])
theorem f_l12Who (d:Desk) (hl:d.claims.length≤1048576) (i s:Int):fo 95 [A (.ipt (dT d)),A (vI i),A (vI s)]=some (R (vI (whoM d.claims i s))):=by
 refine orc_95 (d.claims.length+1) ?_
 by_cases h:∃ c,c∈d.claims∧sameB c i s=true
 ·have hlp:=lp95t d hl i s d.claims 0 rfl h
  simp -dsimp [Tryz.f95] at hlp
  simp (maxSteps:=1000000) +contextual -dsimp [Tryz.f95,hlp,List.set]
 ·have hn:∀ c,c∈d.claims→sameB c i s=false:=fun c hc=>by
   cases q:sameB c i s
   ·rfl
   ·exact absurd ⟨c,hc,q⟩ h
  have hlp:=lp95 d hl i s d.claims 0 rfl hn
  simp -dsimp [Tryz.f95] at hlp
  rw [whoM_none hn]
  simp (maxSteps:=1000000) +contextual -dsimp [Tryz.f95,hlp,List.set]
def keepB (i s:Int) (c:Claim):Bool:=orB (notB (eqI c.inst i)) (notB (eqI c.step s))
def withoutM (l:List Claim) (i s:Int):List Claim:=l.filter (keepB i s)
theorem f_l12Asked (d:Desk) (hf:FitE d.eng) (hc:d.claims.length < 2 ^ 62) (user inst step:Int):
  fo 93 [A (.ipt (dT d)),A (vI user),A (vI inst),A (vI step)]=some (R (vI (taskM d user inst step))):=by
 have g1:=f_l12Fault d hf hc
 have hni:=hf.ni
 have hw:IntKind.i64.wrap ((d.eng.insts.length:Int) - 1)=(d.eng.insts.length:Int) - 1:=by rw [wrapI] <;> omega
 cases q:eqI (deskM d) 0
 ·have e:taskM d user inst step=deskM d:=by simp [taskM,taskA,first2,q,notB]
  rw [e]
  refine orc_93 1 ?_
  simp (maxSteps:=1000000) +contextual -dsimp [Tryz.f93,g1,q,List.set]
 ·have e0:deskM d=0:=by simpa [eqI] using q
  have h00:eqI 0 0=true:=rfl
  have h30:eqI 3 0=false:=rfl
  rw [e0] at g1
  cases u:inR user 1 9
  ·have e:taskM d user inst step=3:=by simp [taskM,taskA,first2,e0,h00,h30,u,notB,orB,ci]
   rw [e]
   refine orc_93 1 ?_
   simp (maxSteps:=1000000) +contextual -dsimp [Tryz.f93,g1,h00,f_l12User,u,List.set]
  ·cases v:inR inst 0 ((d.eng.insts.length:Int) - 1)
   ·have e:taskM d user inst step=3:=by simp [taskM,taskA,first2,e0,h00,h30,u,v,notB,orB,ci]
    rw [e]
    refine orc_93 1 ?_
    simp (maxSteps:=1000000) +contextual -dsimp [Tryz.f93,g1,h00,f_l12User,f_l1In,hw,u,v,List.set]
   ·obtain ⟨b,hb,hbl⟩:=inR_nat1 v
    obtain ⟨n1,n2,n3⟩:=engM_zero (deskM_all e0).1
    obtain ⟨a,ha,hx,e2,ok,hlen⟩:=(n3 (d.eng.insts[b]) (List.getElem_mem _)).at_
    have g3:=f_l12Open d.eng [.sl 150 (d.claims.map kT)] b hbl a hx ha (by have:=ok.le; omega) hlen step
    rw [← hb] at g3
    have e:taskM d user inst step=ci (notB (isOpenM d.eng inst step)) 4:=by simp [taskM,taskA,first2,e0,h00,u,v,notB,orB,ci]
    rw [e]
    cases o:isOpenM d.eng inst step
    ·refine orc_93 1 ?_
     simp (maxSteps:=1000000) +contextual -dsimp [Tryz.f93,g1,h00,f_l12User,f_l1In,hw,u,v,g3,o,ci,List.set]
    ·refine orc_93 1 ?_
     simp (maxSteps:=1000000) +contextual -dsimp [Tryz.f93,g1,h00,f_l12User,f_l1In,hw,u,v,g3,o,ci,List.set]
end Go.TM.Ft
