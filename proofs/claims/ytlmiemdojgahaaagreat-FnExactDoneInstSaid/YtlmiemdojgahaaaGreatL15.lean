/- What functions of the program come to, by the machine. -/
import Derived.Test.YtlmiemdojgahaaaGreatL14
import Derived.Test.YtlmiemdojgahaaaGreatL12
import Derived.Test.YtlmiemdojgahaaaGreatL13
import Derived.Test.YtlmiemdojgahaaaGreatTm3
import Derived.ProofKit
import Derived.SizedLaws
set_option linter.unusedSimpArgs false
set_option linter.unusedVariables false
namespace Go.TM.Ft
open Go Go.TM Go.Proofs
set_option maxRecDepth 20000
attribute [local congr] gif_cg
attribute [local simp] footOf noClash clash upsets setsHit setHits layHits layMeets setsMeet evFeet
set_option maxHeartbeats 4000000 in
theorem o_heldEngine (x:Engine) (k:Int) (h0:0≤k) (h1:k+(czEngine x:Nat) < 2 ^ 59) (hx:wEngine x≤2097152):fo 121 [A (.agg (eT (mzEngine k x))),A (vI k)]=some (R (vI (k+(czEngine x:Nat)))):=by
 simp only [czEngine] at h1
 obtain ⟨k1,e1⟩:∃ z,z=k+(ctsProc x.procs:Nat):=⟨_,rfl⟩
 have g0:=o_heldProcS x.procs k (by omega) (by omega) (by simp only [wEngine,wsProc] at hx; omega) (fun y hy=>by have:=sumProc_mem hy; simp only [wEngine,wsProc] at hx; omega)
 rw [← e1] at g0
 have n0:ltI k1 0=false:=ltI_f (by omega)
 obtain ⟨k2,e2⟩:∃ z,z=k1+(ctsInst x.insts:Nat):=⟨_,rfl⟩
 have g1:=o_heldInstS x.insts k1 (by omega) (by omega) (by simp only [wEngine,wsInst] at hx; omega) (fun y hy=>by have:=sumInst_mem hy; simp only [wEngine,wsInst] at hx; omega)
 rw [← e2] at g1
 have n1:ltI k2 0=false:=ltI_f (by omega)
 have hk:k+(czEngine x:Nat)=k2:=by simp only [czEngine]; omega
 have hm:mzEngine k x={ x with procs:=mksProc k x.procs,insts:=mksInst k1 x.insts }:=by subst_vars; rfl
 rw [hk,hm]
 refine orc_121 1 ?_
 simp (maxSteps:=1000000) +contextual -dsimp [Tryz.f121,g0,n0,g1,n1,List.set]
set_option maxHeartbeats 4000000 in
theorem o_heldEngineResult (x:EngR) (k:Int) (h0:0≤k) (h1:k+(czEngineResult x:Nat) < 2 ^ 59) (hx:wEngineResult x≤2097152):fo 46 [A (.agg (erT (mzEngineResult k x))),A (vI k)]=some (R (vI (k+(czEngineResult x:Nat)))):=by
 simp only [czEngineResult] at h1
 obtain ⟨k1,e1⟩:∃ z,z=k+(czEngine x.eng:Nat):=⟨_,rfl⟩
 have g0:=o_heldEngine x.eng k (by omega) (by omega) (by simp only [wEngineResult] at hx; omega)
 rw [← e1] at g0
 have n0:ltI k1 0=false:=ltI_f (by omega)
 have hk:k+(czEngineResult x:Nat)=k1:=by simp only [czEngineResult]; omega
 have hm:mzEngineResult k x={ x with eng:=mzEngine k x.eng }:=by subst_vars; rfl
 rw [hk,hm]
 refine orc_46 1 ?_
 simp (maxSteps:=1000000) +contextual -dsimp [Tryz.f46,g0,n0,List.set]
end Go.TM.Ft
namespace Go.TM.Ft
open Go Go.TM Go.Proofs
set_option maxRecDepth 20000
attribute [local congr] gif_cg
attribute [local simp] footOf noClash clash upsets setsHit setHits layHits layMeets setsMeet evFeet
abbrev zI:List T:=[vI 0]
theorem oltointS (all:List Int) (hall:all.length≤1048576):∀ (rest:List Int) (i:Nat) (es:List (List T)),all.drop i=rest→es.length=all.length→(∀ j,i≤j→j < all.length→es[j]?=some zI)→
  evLoop E (orc E) (17:Nat) (rest.length+1) (loopOf Tryz.f17 0) ⟨22,[(0,.sl 2 (all.map iV)),(3,.ref 3 1 [] 0 all.length),(4,vI i)],[(3,⟨1,1,false,[.own 2 es]⟩)],2⟩=
  some (.exit 0,⟨22,[(0,.sl 2 (all.map iV)),(3,.ref 3 1 [] 0 all.length),(4,vI (i+rest.length:Nat)),(11,vB false)],[(3,⟨1,1,false,[.own 2 (es.take i++rest.map iV)]⟩)],2⟩)
 | [],i,es,h,hl,hz=>by
  have hge:all.length≤i:=by simpa using h
  have hlt:ltI (i:Int) (all.length:Int)=false:=ltI_f (by omega)
  have ht:es.take i=es:=List.take_of_length_le (by omega)
  rw [loop_eq]
  simp +contextual -dsimp [Tryz.f17,hlt,ht]
 | x::rest,i,es,h,hl,hz=>by
  obtain ⟨hi,hc,hr⟩:=drop_cons h
  have hlt:ltI (i:Int) (all.length:Int)=true:=ltI_t (by omega)
  have hw:IntKind.i64.wrap ((i:Int)+1)=((i+1:Nat):Int):=by rw [wrapI] <;> omega
  have hi2:i < es.length:=by omega
  have hz1:es[i]=zI:=by
   have:=hz i (Nat.le_refl _) hi
   rw [List.getElem?_eq_getElem hi2] at this
   simpa using this
  have ih:=oltointS all hall rest (i+1) (es.set i (iV x)) hr (by simpa using hl) (fun j hj hj2=>by
   rw [List.getElem?_set_ne (by omega)]
   exact hz j (by omega) hj2)
  have he:i+1+rest.length=i+(rest.length+1):=by omega
  have hes:(es.set i (iV x)).take (i+1)=es.take i++[iV x]:=by
   rw [List.take_add_one,List.take_set_of_le (Nat.le_refl _)]
   simp [hi2]
  rw [he,hes,List.append_assoc] at ih
  refine evLoop_next ?_ (by simpa only [List.length_cons,List.map_cons,List.singleton_append] using ih)
  simp (maxSteps:=1000000) +contextual -dsimp [Tryz.f17,hlt,hi,hi2,hc,hw,hz1,hl,List.set]
theorem o_tointS (l:List Int) (hl:l.length≤1048576):fo 17 [A (.sl 2 (l.map iV))]=some ⟨.own 2 (l.map iV),[],true⟩:=by
 have hm:(l.length:Int)≤(maxElems:Nat):=by unfold maxElems; omega
 have hlp:=oltointS l hl l 0 (List.replicate l.length zI) rfl (by simp) (fun j _ hj=>by simp [hj])
 have hcl:=oclean_int l
 refine orc_17 (l.length+1) ?_
 simp -dsimp [Tryz.f17] at hlp
 simp (maxSteps:=1000000) +contextual -dsimp [Tryz.f17,hm,hlp,hcl,finishL,mergeL,List.set]
theorem o_toNode (x:Node):fo 231 [A (.agg (nT x))]=some ⟨.agg (nT x),[],true⟩:=by
 refine orc_231 1 ?_
 simp (maxSteps:=1000000) +contextual -dsimp [Tryz.f231,List.set]
theorem oltoNodeS (all:List Node) (hall:all.length≤1048576):∀ (rest:List Node) (i:Nat) (es:List (List T)),all.drop i=rest→es.length=all.length→(∀ j,i≤j→j < all.length→es[j]?=some [vI 0,vI 0,vI 0,vI 0])→
  evLoop E (orc E) (166:Nat) (rest.length+1) (loopOf Tryz.f166 0) ⟨23,[(0,.sl 267 (all.map nT)),(3,.ref 3 1 [] 0 all.length),(4,vI i)],[(3,⟨1,1,false,[.own 219 es]⟩)],2⟩=
  some (.exit 0,⟨23,[(0,.sl 267 (all.map nT)),(3,.ref 3 1 [] 0 all.length),(4,vI (i+rest.length:Nat)),(11,vB false)],[(3,⟨1,1,false,[.own 219 (es.take i++rest.map nT)]⟩)],2⟩)
 | [],i,es,h,hl,hz=>by
  have hge:all.length≤i:=by simpa using h
  have hlt:ltI (i:Int) (all.length:Int)=false:=ltI_f (by omega)
  have ht:es.take i=es:=List.take_of_length_le (by omega)
  rw [loop_eq]
  simp +contextual -dsimp [Tryz.f166,hlt,ht]
 | x::rest,i,es,h,hl,hz=>by
  obtain ⟨hi,hc,hr⟩:=drop_cons h
  have hlt:ltI (i:Int) (all.length:Int)=true:=ltI_t (by omega)
  have hw:IntKind.i64.wrap ((i:Int)+1)=((i+1:Nat):Int):=by rw [wrapI] <;> omega
  have hi2:i < es.length:=by omega
  have hz1:es[i]=[vI 0,vI 0,vI 0,vI 0]:=by
   have:=hz i (Nat.le_refl _) hi
   rw [List.getElem?_eq_getElem hi2] at this
   simpa using this
  have ih:=oltoNodeS all hall rest (i+1) (es.set i (nT x)) hr (by simpa using hl) (fun j hj hj2=>by
   rw [List.getElem?_set_ne (by omega)]
   exact hz j (by omega) hj2)
  have he:i+1+rest.length=i+(rest.length+1):=by omega
  have hes:(es.set i (nT x)).take (i+1)=es.take i++[nT x]:=by
   rw [List.take_add_one,List.take_set_of_le (Nat.le_refl _)]
   simp [hi2]
  rw [he,hes,List.append_assoc] at ih
  have g:=o_toNode x
  refine evLoop_next ?_ (by simpa only [List.length_cons,List.map_cons,List.singleton_append] using ih)
  simp (maxSteps:=1000000) +contextual -dsimp [Tryz.f166,hlt,hi,hi2,hc,hw,hz1,hl,g,List.set]
theorem o_toNodeS (l:List Node) (hl:l.length≤1048576):fo 166 [A (.sl 267 (l.map nT))]=some ⟨.own 219 (l.map nT),[],true⟩:=by
 have hm:(l.length:Int)≤(maxElems:Nat):=by unfold maxElems; omega
 have hlp:=oltoNodeS l hl l 0 (List.replicate l.length [vI 0,vI 0,vI 0,vI 0]) rfl (by simp) (fun j _ hj=>by simp [hj])
 have hcl:=oclean_Node l
 refine orc_166 (l.length+1) ?_
 simp -dsimp [Tryz.f166] at hlp
 simp (maxSteps:=1000000) +contextual -dsimp [Tryz.f166,hm,hlp,hcl,finishL,mergeL,List.set]
theorem o_toStep (x:Step) (h:wStep x≤1048576):fo 75 [A (.agg (sT 267 x))]=some ⟨.agg (StepO x),[],true⟩:=by
 have g4:=o_toNodeS x.cond (by simp only [wStep] at h; omega)
 have s4:=oclean_Node x.cond
 have g5:=o_toNodeS x.expr (by simp only [wStep] at h; omega)
 have s5:=oclean_Node x.expr
 refine orc_75 1 ?_
 simp (maxSteps:=1000000) +contextual -dsimp [Tryz.f75,g4,s4,g5,s5,List.set]
theorem oltoStepS (all:List Step) (hall:all.length≤1048576) (hf:∀ x,x∈all→wStep x≤1048576):∀ (rest:List Step) (i:Nat) (es:List (List T)),all.drop i=rest→es.length=all.length→(∀ j,i≤j→j < all.length→es[j]?=some [vI 0,vI 0,vS emp,vI 0,.own 219 [],.own 219 []])→
  evLoop E (orc E) (16:Nat) (rest.length+1) (loopOf Tryz.f16 0) ⟨23,[(0,.sl 111 (all.map (sT 267))),(3,.ref 3 1 [] 0 all.length),(4,vI i)],[(3,⟨1,1,false,[.own 124 es]⟩)],2⟩=
  some (.exit 0,⟨23,[(0,.sl 111 (all.map (sT 267))),(3,.ref 3 1 [] 0 all.length),(4,vI (i+rest.length:Nat)),(11,vB false)],[(3,⟨1,1,false,[.own 124 (es.take i++rest.map StepO)]⟩)],2⟩)
 | [],i,es,h,hl,hz=>by
  have hge:all.length≤i:=by simpa using h
  have hlt:ltI (i:Int) (all.length:Int)=false:=ltI_f (by omega)
  have ht:es.take i=es:=List.take_of_length_le (by omega)
  rw [loop_eq]
  simp +contextual -dsimp [Tryz.f16,hlt,ht]
 | x::rest,i,es,h,hl,hz=>by
  obtain ⟨hi,hc,hr⟩:=drop_cons h
  have hlt:ltI (i:Int) (all.length:Int)=true:=ltI_t (by omega)
  have hw:IntKind.i64.wrap ((i:Int)+1)=((i+1:Nat):Int):=by rw [wrapI] <;> omega
  have hi2:i < es.length:=by omega
  have hz1:es[i]=[vI 0,vI 0,vS emp,vI 0,.own 219 [],.own 219 []]:=by
   have:=hz i (Nat.le_refl _) hi
   rw [List.getElem?_eq_getElem hi2] at this
   simpa using this
  have ih:=oltoStepS all hall hf rest (i+1) (es.set i (StepO x)) hr (by simpa using hl) (fun j hj hj2=>by
   rw [List.getElem?_set_ne (by omega)]
   exact hz j (by omega) hj2)
  have he:i+1+rest.length=i+(rest.length+1):=by omega
  have hes:(es.set i (StepO x)).take (i+1)=es.take i++[StepO x]:=by
   rw [List.take_add_one,List.take_set_of_le (Nat.le_refl _)]
   simp [hi2]
  rw [he,hes,List.append_assoc] at ih
  have g:=o_toStep x (hf x (by rw [← hc]; exact List.getElem_mem _))
  refine evLoop_next ?_ (by simpa only [List.length_cons,List.map_cons,List.singleton_append] using ih)
  simp (maxSteps:=1000000) +contextual -dsimp [Tryz.f16,hlt,hi,hi2,hc,hw,hz1,hl,g,List.set]
theorem o_toStepS (l:List Step) (hl:l.length≤1048576) (hf:∀ x,x∈l→wStep x≤1048576):fo 16 [A (.sl 111 (l.map (sT 267)))]=some ⟨.own 124 (l.map StepO),[],true⟩:=by
 have hm:(l.length:Int)≤(maxElems:Nat):=by unfold maxElems; omega
 have hlp:=oltoStepS l hl hf l 0 (List.replicate l.length [vI 0,vI 0,vS emp,vI 0,.own 219 [],.own 219 []]) rfl (by simp) (fun j _ hj=>by simp [hj])
 have hcl:=oclean_Step l
 refine orc_16 (l.length+1) ?_
 simp -dsimp [Tryz.f16] at hlp
 simp (maxSteps:=1000000) +contextual -dsimp [Tryz.f16,hm,hlp,hcl,finishL,mergeL,List.set]
theorem o_toProc (x:List Step) (h:wProc x≤1048576):fo 183 [A (.agg (pT 111 267 x))]=some ⟨.agg (ProcO x),[],true⟩:=by
 have g0:=o_toStepS x (by simp only [wProc,wsStep] at h; omega) (fun y hy=>by have:=sumStep_mem hy; simp only [wProc,wsStep] at h; omega)
 have s0:=oclean_Step x
 refine orc_183 1 ?_
 simp (maxSteps:=1000000) +contextual -dsimp [Tryz.f183,g0,s0,List.set]
theorem oltoProcS (all:List (List Step)) (hall:all.length≤1048576) (hf:∀ x,x∈all→wProc x≤1048576):∀ (rest:List (List Step)) (i:Nat) (es:List (List T)),all.drop i=rest→es.length=all.length→(∀ j,i≤j→j < all.length→es[j]?=some [.own 124 []])→
  evLoop E (orc E) (111:Nat) (rest.length+1) (loopOf Tryz.f111 0) ⟨23,[(0,.sl 225 (all.map (pT 111 267))),(3,.ref 3 1 [] 0 all.length),(4,vI i)],[(3,⟨1,1,false,[.own 160 es]⟩)],2⟩=
  some (.exit 0,⟨23,[(0,.sl 225 (all.map (pT 111 267))),(3,.ref 3 1 [] 0 all.length),(4,vI (i+rest.length:Nat)),(11,vB false)],[(3,⟨1,1,false,[.own 160 (es.take i++rest.map ProcO)]⟩)],2⟩)
 | [],i,es,h,hl,hz=>by
  have hge:all.length≤i:=by simpa using h
  have hlt:ltI (i:Int) (all.length:Int)=false:=ltI_f (by omega)
  have ht:es.take i=es:=List.take_of_length_le (by omega)
  rw [loop_eq]
  simp +contextual -dsimp [Tryz.f111,hlt,ht]
 | x::rest,i,es,h,hl,hz=>by
  obtain ⟨hi,hc,hr⟩:=drop_cons h
  have hlt:ltI (i:Int) (all.length:Int)=true:=ltI_t (by omega)
  have hw:IntKind.i64.wrap ((i:Int)+1)=((i+1:Nat):Int):=by rw [wrapI] <;> omega
  have hi2:i < es.length:=by omega
  have hz1:es[i]=[.own 124 []]:=by
   have:=hz i (Nat.le_refl _) hi
   rw [List.getElem?_eq_getElem hi2] at this
   simpa using this
  have ih:=oltoProcS all hall hf rest (i+1) (es.set i (ProcO x)) hr (by simpa using hl) (fun j hj hj2=>by
   rw [List.getElem?_set_ne (by omega)]
   exact hz j (by omega) hj2)
  have he:i+1+rest.length=i+(rest.length+1):=by omega
  have hes:(es.set i (ProcO x)).take (i+1)=es.take i++[ProcO x]:=by
   rw [List.take_add_one,List.take_set_of_le (Nat.le_refl _)]
   simp [hi2]
  rw [he,hes,List.append_assoc] at ih
  have g:=o_toProc x (hf x (by rw [← hc]; exact List.getElem_mem _))
  refine evLoop_next ?_ (by simpa only [List.length_cons,List.map_cons,List.singleton_append] using ih)
  simp (maxSteps:=1000000) +contextual -dsimp [Tryz.f111,hlt,hi,hi2,hc,hw,hz1,hl,g,List.set]
theorem o_toProcS (l:List (List Step)) (hl:l.length≤1048576) (hf:∀ x,x∈l→wProc x≤1048576):fo 111 [A (.sl 225 (l.map (pT 111 267)))]=some ⟨.own 160 (l.map ProcO),[],true⟩:=by
 have hm:(l.length:Int)≤(maxElems:Nat):=by unfold maxElems; omega
 have hlp:=oltoProcS l hl hf l 0 (List.replicate l.length [.own 124 []]) rfl (by simp) (fun j _ hj=>by simp [hj])
 have hcl:=oclean_Proc l
 refine orc_111 (l.length+1) ?_
 simp -dsimp [Tryz.f111] at hlp
 simp (maxSteps:=1000000) +contextual -dsimp [Tryz.f111,hm,hlp,hcl,finishL,mergeL,List.set]
theorem o_toChart (x:Chart) (h:wChart x≤1048576):fo 243 [A (.agg (cT x))]=some ⟨.agg (ChartO x),[],true⟩:=by
 have g2:=o_tointS x.vars (by simp only [wChart] at h; omega)
 have s2:=oclean_int x.vars
 have g3:=o_tointS x.acts (by simp only [wChart] at h; omega)
 have s3:=oclean_int x.acts
 have g4:=o_tointS x.dues (by simp only [wChart] at h; omega)
 have s4:=oclean_int x.dues
 refine orc_243 1 ?_
 simp (maxSteps:=1000000) +contextual -dsimp [Tryz.f243,g2,s2,g3,s3,g4,s4,List.set]
theorem o_toInst (x:Inst) (h:wInst x≤1048576):fo 184 [A (.agg (xT x))]=some ⟨.agg (InstO x),[],true⟩:=by
 have g1:=o_toChart x.chart (by simp only [wInst] at h; omega)
 have s1vars:=oclean_int x.chart.vars
 have s1acts:=oclean_int x.chart.acts
 have s1dues:=oclean_int x.chart.dues
 refine orc_184 1 ?_
 simp (maxSteps:=1000000) +contextual -dsimp [Tryz.f184,g1,s1vars,s1acts,s1dues,List.set]
theorem oltoInstS (all:List Inst) (hall:all.length≤1048576) (hf:∀ x,x∈all→wInst x≤1048576):∀ (rest:List Inst) (i:Nat) (es:List (List T)),all.drop i=rest→es.length=all.length→(∀ j,i≤j→j < all.length→es[j]?=some [vI 0,vI 0,vI 0,.own 2 [],.own 2 [],.own 2 []])→
  evLoop E (orc E) (112:Nat) (rest.length+1) (loopOf Tryz.f112 0) ⟨23,[(0,.sl 229 (all.map xT)),(3,.ref 3 1 [] 0 all.length),(4,vI i)],[(3,⟨1,1,false,[.own 163 es]⟩)],2⟩=
  some (.exit 0,⟨23,[(0,.sl 229 (all.map xT)),(3,.ref 3 1 [] 0 all.length),(4,vI (i+rest.length:Nat)),(11,vB false)],[(3,⟨1,1,false,[.own 163 (es.take i++rest.map InstO)]⟩)],2⟩)
 | [],i,es,h,hl,hz=>by
  have hge:all.length≤i:=by simpa using h
  have hlt:ltI (i:Int) (all.length:Int)=false:=ltI_f (by omega)
  have ht:es.take i=es:=List.take_of_length_le (by omega)
  rw [loop_eq]
  simp +contextual -dsimp [Tryz.f112,hlt,ht]
 | x::rest,i,es,h,hl,hz=>by
  obtain ⟨hi,hc,hr⟩:=drop_cons h
  have hlt:ltI (i:Int) (all.length:Int)=true:=ltI_t (by omega)
  have hw:IntKind.i64.wrap ((i:Int)+1)=((i+1:Nat):Int):=by rw [wrapI] <;> omega
  have hi2:i < es.length:=by omega
  have hz1:es[i]=[vI 0,vI 0,vI 0,.own 2 [],.own 2 [],.own 2 []]:=by
   have:=hz i (Nat.le_refl _) hi
   rw [List.getElem?_eq_getElem hi2] at this
   simpa using this
  have ih:=oltoInstS all hall hf rest (i+1) (es.set i (InstO x)) hr (by simpa using hl) (fun j hj hj2=>by
   rw [List.getElem?_set_ne (by omega)]
   exact hz j (by omega) hj2)
  have he:i+1+rest.length=i+(rest.length+1):=by omega
  have hes:(es.set i (InstO x)).take (i+1)=es.take i++[InstO x]:=by
   rw [List.take_add_one,List.take_set_of_le (Nat.le_refl _)]
   simp [hi2]
  rw [he,hes,List.append_assoc] at ih
  have g:=o_toInst x (hf x (by rw [← hc]; exact List.getElem_mem _))
  refine evLoop_next ?_ (by simpa only [List.length_cons,List.map_cons,List.singleton_append] using ih)
  simp (maxSteps:=1000000) +contextual -dsimp [Tryz.f112,hlt,hi,hi2,hc,hw,hz1,hl,g,List.set]
theorem o_toInstS (l:List Inst) (hl:l.length≤1048576) (hf:∀ x,x∈l→wInst x≤1048576):fo 112 [A (.sl 229 (l.map xT))]=some ⟨.own 163 (l.map InstO),[],true⟩:=by
 have hm:(l.length:Int)≤(maxElems:Nat):=by unfold maxElems; omega
 have hlp:=oltoInstS l hl hf l 0 (List.replicate l.length [vI 0,vI 0,vI 0,.own 2 [],.own 2 [],.own 2 []]) rfl (by simp) (fun j _ hj=>by simp [hj])
 have hcl:=oclean_Inst l
 refine orc_112 (l.length+1) ?_
 simp -dsimp [Tryz.f112] at hlp
 simp (maxSteps:=1000000) +contextual -dsimp [Tryz.f112,hm,hlp,hcl,finishL,mergeL,List.set]
theorem o_toEngine (x:Engine) (h:wEngine x≤1048576):fo 40 [A (.agg (eTl x))]=some ⟨.agg (EngineO x),[],true⟩:=by
 have g0:=o_toProcS x.procs (by simp only [wEngine,wsProc] at h; omega) (fun y hy=>by have:=sumProc_mem hy; simp only [wEngine,wsProc] at h; omega)
 have s0:=oclean_Proc x.procs
 have g1:=o_toInstS x.insts (by simp only [wEngine,wsInst] at h; omega) (fun y hy=>by have:=sumInst_mem hy; simp only [wEngine,wsInst] at h; omega)
 have s1:=oclean_Inst x.insts
 refine orc_40 1 ?_
 simp (maxSteps:=1000000) +contextual -dsimp [Tryz.f40,g0,s0,g1,s1,List.set]
end Go.TM.Ft
namespace Go.TM.Ft
open Go Go.TM Go.Proofs
set_option maxRecDepth 20000
attribute [local congr] gif_cg
attribute [local simp] footOf noClash clash upsets setsHit setHits layHits layMeets setsMeet evFeet
theorem g_eqEngineResult (x:EngR) (h:wEngineResult x≤2097152):fo 42 [A (.agg (erT x)),A (.agg (erT x))]=some (R (vB true)):=by
 have g2:=g_eqEngine x.eng (by simp only [wEngineResult] at h; omega)
 refine orc_42 1 ?_
 simp (maxSteps:=1000000) +contextual -dsimp [Tryz.f42,eqI_self,eqS_self,g2,List.set]
end Go.TM.Ft
namespace Go.TM.Ft
open Go Go.TM Go.Proofs
theorem cts_Node (l:List Node):ctsNode l=4*l.length:=by
 induction l with
 | nil=>rfl
 | cons x l ih=>rw [ctsNode_cons,ih]; simp only [ctNode,List.length_cons]; omega
theorem ct_Step (x:Step):ctStep x≤4+4*wStep x:=by
 simp only [ctStep,cts_Node,wStep]; omega
theorem cts_Step (l:List Step):ctsStep l≤4*wsStep l:=by
 have:ctsStep l≤4*l.length+4*sumStep l:=by
  induction l with
  | nil=>exact Nat.zero_le _
  | cons x l ih=>rw [ctsStep_cons]; have:=ct_Step x; simp only [sumStep,List.length_cons]; omega
 simp only [wsStep]; omega
theorem cts_Proc (l:List (List Step)):ctsProc l≤4*wsProc l:=by
 have:ctsProc l≤4*sumProc l:=by
  induction l with
  | nil=>exact Nat.zero_le _
  | cons x l ih=>rw [ctsProc_cons]; have:=cts_Step x; simp only [sumProc,ctProc,wProc]; omega
 simp only [wsProc]; omega
theorem cts_Inst (l:List Inst):ctsInst l≤3*wsInst l:=by
 have:ctsInst l≤3*l.length+3*sumInst l:=by
  induction l with
  | nil=>exact Nat.zero_le _
  | cons x l ih=>rw [ctsInst_cons]; simp only [sumInst,ctInst,wInst,wChart,ctsint,List.length_cons]; omega
 simp only [wsInst]; omega
theorem cz_Engine (x:Engine):czEngine x≤4*wEngine x:=by
 have h1:=cts_Proc x.procs
 have h2:=cts_Inst x.insts
 simp only [czEngine,wEngine]; omega
end Go.TM.Ft
namespace Go.TM.Ft
open Go Go.TM Go.Proofs
set_option maxRecDepth 20000
attribute [local congr] gif_cg
attribute [local simp] footOf noClash clash upsets setsHit setHits layHits layMeets setsMeet evFeet
theorem fw_step {s:Step} (h:FitS s):FwStep s:=⟨h.name,h.cond,h.expr⟩
theorem fw_proc {p:List Step} (h:FitP p):FwProc p:=⟨h.len,fun s hs=>fw_step (h.steps s hs)⟩
theorem fw_chart {c:Chart} (h:FitC c):FwChart c:=⟨h.vars,h.acts,h.dues⟩
theorem fw_engine {e:Engine} (h:FitE e):FwEngine e:=⟨⟨h.np,fun p hp=>fw_proc (h.procs p hp)⟩,⟨h.ni,fun x hx=>fw_chart (h.insts x hx)⟩⟩
theorem tree_int {n:Nat} {ts:List T} (h:TreeT Tryz.prog (n+1) 2 ts):∃ x,ts=[vI x]∧-9223372036854775808≤x∧x < 9223372036854775808:=by
 unfold TreeT at h
 rw [Tryz.underlying2] at h
 obtain ⟨x,rfl,hw⟩:=h
 have:=bounds_i64 hw
 exact ⟨x,rfl,by omega,by omega⟩
theorem map_of {α β:Type} {f:α→β} {p:α→Prop}:∀ {l:List β},(∀ c,c∈l→∃ x,c=f x∧p x)→∃ xs:List α,l=xs.map f∧∀ x,x∈xs→p x
 | [],_=>⟨[],rfl,fun x hx=>by simp at hx⟩
 | c::l,h=>by
  obtain ⟨x,rfl,hx⟩:=h c (by simp)
  obtain ⟨xs,rfl,hxs⟩:=map_of (f:=f) (p:=p) (l:=l) fun d hd=>h d (by simp [hd])
  exact ⟨x::xs,rfl,fun y hy=>by
   rcases List.mem_cons.1 hy with rfl | hy
   ·exact hx
   ·exact hxs y hy⟩
theorem tree_slice {α:Type} {P:Program} {n:Nat} {t e:TypeId} {ts:List T} {f:α→List T} {p:α→Prop} (hu:P.underlying t=some (.slice e)) (h:TreeT P (n+1) t ts)
  (hx:∀ c,TreeT P n e c→∃ x,c=f x∧p x):∃ l:List α,ts=[.sl e (l.map f)]∧l.length < 2 ^ 62∧∀ x,x∈l→p x:=by
 unfold TreeT at h
 rw [hu] at h
 obtain ⟨es,rfl,hl,h2⟩:=h
 obtain ⟨xs,rfl,hp⟩:=map_of (f:=f) (p:=p) (l:=es) fun c hc=>hx c (h2 c hc)
 refine ⟨xs,rfl,?_,hp⟩
 simp at hl; unfold reachBytes at hl; omega
theorem tree_node {n:Nat} {ts:List T} (h:TreeT Tryz.prog (n+2) 267 ts):∃ x,ts=nT x∧True:=by
 unfold TreeT at h
 rw [Tryz.underlying267] at h
 obtain ⟨c1,r1,rfl,h1,c2,r2,rfl,h2,c3,r3,rfl,h3,c4,r4,rfl,h4,rfl⟩:=h
 obtain ⟨x1,rfl,_⟩:=tree_int h1
 obtain ⟨x2,rfl,_⟩:=tree_int h2
 obtain ⟨x3,rfl,_⟩:=tree_int h3
 obtain ⟨x4,rfl,_⟩:=tree_int h4
 exact ⟨⟨x1,x2,x3,x4⟩,rfl,trivial⟩
theorem tree_step {n:Nat} {ts:List T} (h:TreeT Tryz.prog (n+4) 111 ts):∃ s:Step,ts=sT 267 s∧FitS s:=by
 unfold TreeT at h
 rw [Tryz.underlying111] at h
 obtain ⟨c1,r1,rfl,h1,c2,r2,rfl,h2,c3,r3,rfl,h3,c4,r4,rfl,h4,c5,r5,rfl,h5,c6,r6,rfl,h6,rfl⟩:=h
 obtain ⟨x1,rfl,_⟩:=tree_int h1
 obtain ⟨x2,rfl,p1,p2⟩:=tree_int h2
 obtain ⟨x4,rfl,_⟩:=tree_int h4
 obtain ⟨x5,rfl,l5,_⟩:=tree_slice (f:=nT) (p:=fun _=>True) Tryz.underlying109 h5 fun c hc=>tree_node hc
 obtain ⟨x6,rfl,l6,_⟩:=tree_slice (f:=nT) (p:=fun _=>True) Tryz.underlying109 h6 fun c hc=>tree_node hc
 simp only at h3
 unfold TreeT at h3
 rw [Tryz.underlying9] at h3
 obtain ⟨x3,rfl,l3⟩:=h3
 exact ⟨⟨x1,x2,x3,x4,x5,x6⟩,rfl,p1,p2,by unfold reachBytes at l3; simp; omega,l5,l6⟩
theorem tree_proc {n:Nat} {ts:List T} (h:TreeT Tryz.prog (n+6) 225 ts):∃ p:List Step,ts=pT 111 267 p∧FitP p:=by
 unfold TreeT at h
 rw [Tryz.underlying225] at h
 obtain ⟨c1,r1,rfl,h1,rfl⟩:=h
 obtain ⟨l,rfl,hl,hf⟩:=tree_slice (f:=sT 267) (p:=FitS) Tryz.underlying22 h1 fun c hc=>tree_step hc
 exact ⟨l,rfl,hl,hf⟩
theorem tree_ints {n:Nat} {ts:List T} (h:TreeT Tryz.prog (n+2) 23 ts):∃ l:List Int,ts=[iS l]∧l.length < 2 ^ 62:=by
 obtain ⟨l,rfl,hl,_⟩:=tree_slice (f:=fun n=>[vI n]) (p:=fun _=>True) Tryz.underlying23 h fun c hc=>by
  obtain ⟨x,rfl,_⟩:=tree_int hc
  exact ⟨x,rfl,trivial⟩
 exact ⟨l,rfl,hl⟩
theorem tree_chart {n:Nat} {ts:List T} (h:TreeT Tryz.prog (n+3) 227 ts):∃ c:Chart,ts=cT c∧FitC c:=by
 unfold TreeT at h
 rw [Tryz.underlying227] at h
 obtain ⟨c1,r1,rfl,h1,c2,r2,rfl,h2,c3,r3,rfl,h3,c4,r4,rfl,h4,c5,r5,rfl,h5,rfl⟩:=h
 obtain ⟨x1,rfl,_⟩:=tree_int h1
 obtain ⟨x2,rfl,_⟩:=tree_int h2
 obtain ⟨x3,rfl,l3⟩:=tree_ints h3
 obtain ⟨x4,rfl,l4⟩:=tree_ints h4
 obtain ⟨x5,rfl,l5⟩:=tree_ints h5
 exact ⟨⟨x1,x2,x3,x4,x5⟩,rfl,l3,l4,l5⟩
theorem tree_inst {n:Nat} {ts:List T} (h:TreeT Tryz.prog (n+4) 229 ts):∃ x:Inst,ts=xT x∧FitC x.chart:=by
 unfold TreeT at h
 rw [Tryz.underlying229] at h
 obtain ⟨c1,r1,rfl,h1,c2,r2,rfl,h2,rfl⟩:=h
 obtain ⟨x1,rfl,_⟩:=tree_int h1
 obtain ⟨x2,rfl,f2⟩:=tree_chart h2
 exact ⟨⟨x1,x2⟩,rfl,f2⟩
theorem tree_engine {n:Nat} {ts:List T} (h:TreeT Tryz.prog (n+8) 51 ts):∃ e:Engine,ts=eTl e∧FitE e:=by
 unfold TreeT at h
 rw [Tryz.underlying51] at h
 obtain ⟨c1,r1,rfl,h1,c2,r2,rfl,h2,c3,r3,rfl,h3,rfl⟩:=h
 obtain ⟨x1,rfl,l1,f1⟩:=tree_slice (f:=pT 111 267) (p:=FitP) Tryz.underlying48 h1 fun c hc=>tree_proc hc
 obtain ⟨x2,rfl,l2,f2⟩:=tree_slice (f:=xT) (p:=fun x=>FitC x.chart) Tryz.underlying49 h2 fun c hc=>tree_inst hc
 obtain ⟨x3,rfl,_⟩:=tree_int h3
 exact ⟨⟨x1,x2,x3⟩,rfl,l1,l2,f1,f2⟩
end Go.TM.Ft
namespace Go.TM.Ft
open Go Go.TM Go.Proofs
set_option maxRecDepth 20000
attribute [local congr] gif_cg
attribute [local simp] footOf noClash clash upsets setsHit setHits layHits layMeets setsMeet evFeet seal4_iE seal4_set clean_iE
theorem startM_zero {l:List Step} {vars:List Int} {now:Int} (h:(startM l vars now).1=0):Wf l∧Inv l (startM l vars now).2:=by
 unfold startM at h ⊢
 split
 ·rename_i q; rw [if_pos q] at h; simp only at h; rw [h] at q; simp [notB,eqI] at q
 ·rename_i q
  have z:startA l vars now=0:=by simpa [notB,eqI] using q
  obtain ⟨hI,w⟩:=startA_zero z
  exact ⟨w,goX_inv w true 0 _ hI w.ok.pos⟩
end Go.TM.Ft
namespace Go.TM.Ft
open Go Go.TM Go.Proofs
theorem sum_mem {α:Type} (w:α→Nat) (s:List α→Nat) (h0:∀ x r,s (x::r)=w x+s r):∀ {l:List α} {x:α},x∈l→w x≤s l
 | [],x,h=>by simp at h
 | y::l,x,h=>by
  rw [h0]
  rcases List.mem_cons.1 h with rfl | h
  ·omega
  ·have:=sum_mem w s h0 h; omega
theorem smE_of {e:Engine} (h:wEngine e≤1048576):SmE e:=by
 have h1:wsProc e.procs≤1048576:=by simp only [wEngine] at h; omega
 have h2:wsInst e.insts≤1048576:=by simp only [wEngine] at h; omega
 refine ⟨by simp only [wsProc] at h1; omega,by simp only [wsInst] at h2; omega,fun p hp=>?_,fun x hx=>?_⟩
 ·have hw:wProc p≤1048576:=by
   have:=sum_mem wProc sumProc (fun _ _=>rfl) hp
   simp only [wsProc] at h1; omega
  simp only [wProc,wsStep] at hw
  refine ⟨by omega,fun s hs=>?_⟩
  have:=sum_mem wStep sumStep (fun _ _=>rfl) hs
  simp only [wStep] at this
  exact ⟨by omega,by omega⟩
 ·have hw:wInst x≤1048576:=by
   have:=sum_mem wInst sumInst (fun _ _=>rfl) hx
   simp only [wsInst] at h2; omega
  simp only [wInst,wChart] at hw
  exact ⟨by omega,by omega,by omega⟩
theorem sumInst_app (l:List Inst) (x:Inst):sumInst (l++[x])=sumInst l+wInst x:=by
 induction l with
 | nil=>simp only [List.nil_append,sumInst]; omega
 | cons y l ih=>simp only [List.cons_append,sumInst,ih]; omega
theorem sumInst_set:∀ (l:List Inst) (n:Nat) (x:Inst),sumInst (l.set n x)≤sumInst l+wInst x
 | [],n,x=>by simp [sumInst]
 | y::l,0,x=>by simp only [List.set_cons_zero,sumInst]; omega
 | y::l,n+1,x=>by have:=sumInst_set l n x; simp only [List.set_cons_succ,sumInst]; omega
theorem putC_w (e:Engine) (n:Nat) (c:Chart):wEngine (putC e n c)≤wEngine e+wChart c:=by
 unfold putC
 split
 ·rename_i x hx
  have:=sumInst_set e.insts n ⟨x.proc,c⟩
  simp only [wEngine,wsInst,List.length_set,wInst] at this ⊢
  omega
 ·omega
theorem few_w {l:List Step} {c:Chart} (h:Inv l c) (w:Wf l):wChart c≤100:=by
 have:=w.ok.le
 have:=h.vars
 have:=h.acts
 have:=h.dues
 simp only [wChart]; omega
theorem noC_w:wChart noC≤100:=by simp [wChart,noC]
theorem badE_w (k:Int):wEngineResult (badE k)≤100:=by simp [wEngineResult,badE,noE,wEngine,wsProc,wsInst,sumProc,sumInst]
theorem putM_w (e:Engine) (n:Nat) (r:Int × Chart) (h:wChart r.2≤100):wEngineResult (putM e n r)≤wEngine e+100:=by
 unfold putM
 split
 ·have:=badE_w r.1; omega
 ·have:=putC_w e n r.2; simp only [wEngineResult]; omega
theorem cz_EngineResult (x:EngR):czEngineResult x≤4*wEngineResult x:=by
 have:=cz_Engine x.eng
 simp only [czEngineResult,wEngineResult]; omega
theorem done_w (l:List Step) (c:Chart) (step:Int) (vars:List Int):wChart (doneM l c step vars).2≤100:=by
 by_cases h:(doneM l c step vars).1=0
 ·have e:actR l c ⟨1,step,vars⟩=doneM l c step vars:=by simp [actR,eqI]
  have hI:=actR_inv (l:=l) (c:=c) (a:=⟨1,step,vars⟩) (by rw [e]; exact h)
  rw [e] at hI
  refine few_w hI ?_
  unfold doneM at h
  split at h
  ·rename_i q; simp only at h; rw [h] at q; simp [notB,eqI] at q
  ·rename_i q
   have z:first2 (chartM l c) (varsM vars)=0:=by simpa [notB,eqI] using q
   exact (inv_of (first2_zero z).1).2.1
 ·unfold doneM at h ⊢
  split
  ·exact noC_w
  ·rename_i q1
   rw [if_neg q1] at h
   split
   ·exact noC_w
   ·rename_i q2
    rw [if_neg q2] at h
    exact absurd rfl h
theorem mail_w (l:List Step) (c:Chart) (msg:Int):wChart (mailM l c msg).2≤100:=by
 by_cases h:(mailM l c msg).1=0
 ·have e:actR l c ⟨2,msg,[]⟩=mailM l c msg:=by simp [actR,eqI]
  have hI:=actR_inv (l:=l) (c:=c) (a:=⟨2,msg,[]⟩) (by rw [e]; exact h)
  rw [e] at hI
  refine few_w hI ?_
  unfold mailM at h
  split at h
  ·rename_i q; simp only at h; rw [h] at q; simp [notB,eqI] at q
  ·rename_i q
   have z:mailA l c msg=0:=by simpa [notB,eqI] using q
   exact (inv_of (first2_zero z).1).2.1
 ·unfold mailM at h ⊢
  split
  ·exact noC_w
  ·rename_i q1
   rw [if_neg q1] at h
   cases q:foldS (mailG c.acts msg) 0 () l with
   | inl k=>rw [q] at h; exact absurd rfl h
   | inr u=>exact noC_w
theorem start_w (l:List Step) (vars:List Int) (now:Int):wChart (startM l vars now).2≤100:=by
 by_cases h:(startM l vars now).1=0
 ·obtain ⟨w,hI⟩:=startM_zero h
  exact few_w hI w
 ·unfold startM at h ⊢
  split
  ·exact noC_w
  ·rename_i q
   rw [if_neg q] at h
   exact absurd rfl h
theorem mailI_w (e:Engine) (inst msg:Int):wEngineResult (mailI e inst msg)≤wEngine e+1000:=by
 unfold mailI
 split
 ·have:=badE_w (askM e inst); omega
 ·have:=putM_w e inst.toNat _ (mail_w (stepsOf e (instAt e inst)) (instAt e inst).chart msg); omega
theorem doneI_w (e:Engine) (inst step:Int) (vars:List Int):wEngineResult (doneI e inst step vars)≤wEngine e+1000:=by
 unfold doneI
 split
 ·have:=badE_w (askM e inst); omega
 ·have:=putM_w e inst.toNat _ (done_w (stepsOf e (instAt e inst)) (instAt e inst).chart step vars); omega
theorem startI_w (e:Engine) (proc:Int) (vars:List Int):wEngineResult (startI e proc vars)≤wEngine e+1000:=by
 unfold startI
 split
 ·have:=badE_w (startK e proc); omega
 ·unfold bornM
  split
  ·have:=badE_w (startM (procAt e proc) vars e.now).1; omega
  ·have h1:=start_w (procAt e proc) vars e.now
   have h2:=sumInst_app e.insts ⟨proc,(startM (procAt e proc) vars e.now).2⟩
   simp only [wEngineResult,wEngine,wsInst,List.length_append,List.length_cons,List.length_nil,wInst] at h2 ⊢
   omega
end Go.TM.Ft
namespace Go.TM.Ft
open Go Go.TM Go.Proofs
set_option maxRecDepth 20000
attribute [local congr] gif_cg
attribute [local simp] footOf noClash clash upsets setsHit setHits layHits layMeets setsMeet evFeet seal4_iE seal4_set clean_iE
set_option maxHeartbeats 16000000 in
theorem f_LawStart (e:Engine) (h_e:FitE e) (proc:Int) (vars:List Int) (h_vars:vars.length < 2 ^ 62):
  fo 5 [A (.agg (eTl e)),A (vI proc),A (iS vars)]=some (R (vB true)):=by
 cases c2:ltI 1048576 vars.length
 rotate_left
 ·refine orc_5 1 ?_
  simp (maxSteps:=1000000) +contextual -dsimp [Tryz.f5,c2,List.set]
 have l2:vars.length≤1048576:=by simp [ltI] at c2; omega
 have s0:=g_szEngine e (1048576) (by omega) (by omega) (fw_engine h_e)
 cases c0:ltI (subM (1048576) (wEngine e)) 0
 rotate_left
 ·refine orc_5 1 ?_
  simp (maxSteps:=1000000) +contextual -dsimp [Tryz.f5,c2,s0,c0,List.set]
 obtain ⟨p0,e0⟩:=sub_f c0
 rw [e0] at s0 c0
 have v0:wEngine e≤1048576:=by omega
 have o0:=o_toEngine e v0
 have q0:=g_eqEngine e (by omega)
 have b0:=cz_Engine e
 have o2:=o_tointS vars l2
 have q2:=g_eqintS vars (by omega)
 have b2:ctsint vars=vars.length:=rfl
 have r1:=f4_StartInst e h_e (smE_of v0) proc vars
 have r2:=f_StartInst e h_e (smE_of v0) proc vars h_vars
 have hw:wEngineResult (startI e proc vars)≤2097152:=(by have:=startI_w e proc vars; omega)
 generalize startI e proc vars=x at *
 have bx:=cz_EngineResult x
 have qx:=g_eqEngineResult x hw
 obtain ⟨d0,m0⟩:=o_markEngine e (1) (by omega) (by omega) (by omega)
 obtain ⟨d2,m2⟩:=o_markInt64S vars (1+(czEngine e:Nat)) (by omega) (by omega) (by omega)
 obtain ⟨dx,mx⟩:=o_markEngineResult x 1 (by omega) (by omega) hw
 have hx:=o_heldEngineResult x 1 (by omega) (by omega) hw
 rw [show (T.agg (erT (mzEngineResult 1 x)):T)=.agg [vI x.code,vI x.value,.sl 160 ((mzEngineResult 1 x).eng.procs.map (pT 124 219)),.sl 163 ((mzEngineResult 1 x).eng.insts.map xT),vI x.eng.now] from rfl] at hx
 have n1:ltI (1+(czEngine e:Nat)+(ctsint vars:Nat)) 0=false:=ltI_f (by omega)
 have n2:ltI (1+(czEngineResult x:Nat)) 0=false:=ltI_f (by omega)
 generalize 1+(czEngine e:Int)=a0 at *
 generalize mzEngine 1 e=y0 at *
 generalize a0+(ctsint vars:Int)=a2 at *
 generalize mksint a0 vars=y2 at *
 generalize 1+(czEngineResult x:Int)=ax at *
 generalize mzEngineResult 1 x=y at *
 have t0:=osealed_Proc e.procs
 have t1:=osealed_Inst e.insts
 have t2:=osealed_int vars
 have t3:=osealed_Proc x.eng.procs
 have t4:=osealed_Inst x.eng.insts
 have t5:=osealed_Proc y.eng.procs
 have t6:=osealed_Inst y.eng.insts
 refine orc_5 1 ?_
 simp (maxSteps:=4000000) +contextual -dsimp [Tryz.f5,c2,s0,c0,o0,q0,o2,q2,m0,m2,r1,r2,qx,mx,hx,n1,n2,t0,t1,t2,t3,t4,t5,t6,eqI_self,lendEff,lendOne,lendMany,firstRef,lendRow,lendCell,putRow,putBack,valArg,List.set]
end Go.TM.Ft
namespace Go.TM.Ft
open Go Go.TM Go.Proofs Go.RowKit Go.ChangeShapes Go.WideShapes
set_option maxRecDepth 20000
def okAll (sz:TypeId→Nat) (h:Array Obj) (I:Nat→Prop):List T→List Value→Prop
 | [],us=>us=[]
 | t::ts,us=>∃ u us',us=u::us'∧okV sz h I t u []∧okAll sz h I ts us'
theorem okArgs_all {sz h I}:∀ {ar:List T} {us:List Value} (i:Nat),okAll sz h I ar us→okArgs sz h I i (ar.map A) us []
 | [],us,i,h=>⟨h,rfl⟩
 | t::ts,us,i,h=>by
  obtain ⟨u,us',rfl,h1,h2⟩:=h
  exact ⟨u,us',[],[],rfl,rfl,⟨h1,rfl⟩,okArgs_all (i+1) h2⟩
theorem law_calls {f:Nat} {ar:List T} {us:List Value} {W:Go.World} (hl:lends (E.mode f)=false) (h:fo f (ar.map A)=some (R (vB true))) (hok:okAll (szOf E) W.heap (fun b=>b < W.heap.size) ar us):
  Calls Tryz.prog f us.toArray W fun e W'=>e=.returned (.bool true)∧Below W.heap.size W W':=by
 have hs:=(orc_sound able h).1.old hl ⟨W,[],fun b=>b < W.heap.size,fun b hb=>⟨hb,by simp⟩⟩ us (by simp [Uniq]) (by simp) (okArgs_all 0 hok)
 refine Calls.mono hs fun e W' h=>?_
 match e,h with
 | .returned u,h=>
  obtain ⟨f,fo,hu,_⟩:=h.ok
  simp only [okV] at hu
  obtain ⟨rfl,_⟩:=hu
  exact ⟨rfl,⟨h.fr.os,h.fr.tape,h.fr.output,h.fr.size,fun k hk=>h.fr.block k hk (by simp)⟩⟩
section
variable {H:Type} {enc:TypeId × Value→H} {W:Go.World} {base:Nat} {n:Nat} {t:TypeId} {v:Value} {d:DataW H} {p:List MemPlace}
theorem read_cell (hp:plainT (szOf E) Tryz.prog n t=true) (h:DataW.Trod enc Tryz.prog W 0 (fun _=>true) true t v d p) (hv:v.cells=#[v]) (hwt:∀ k,k∈d.weights Tryz.prog t→k≤reachBytes):
  ∃ a,TreeT Tryz.prog n t [a]∧okV (szOf E) W.heap (fun b=>b < W.heap.size) a v []:=by
 obtain ⟨ts,ht,hok⟩:=read_arg (sz:=szOf E) (I:=fun b=>b < W.heap.size) (fun b hb=>hb) hp h hv hwt
 match ts,hok with
 | [],hok=>simp [okL] at hok
 | a::ts,hok=>
  simp only [okL] at hok
  obtain ⟨u,us',f1,f2,e1,e2,h1,h2⟩:=hok
  obtain ⟨rfl,rfl⟩:=List.cons.inj e1
  obtain ⟨rfl,rfl⟩:=List.append_eq_nil_iff.1 e2.symm
  cases ts with
  | nil=>exact ⟨a,ht,h1⟩
  | cons b ts=>simp [okL] at h2
theorem read_slice {e:TypeId} (hu:Tryz.prog.underlying t=some (.slice e)) (hp:plainT (szOf E) Tryz.prog n t=true) (h:DataW.Trod enc Tryz.prog W 0 (fun _=>true) true t v d p) (hv:Value.okWide Tryz.prog W .any base t v)
  (hwt:∀ k,k∈d.weights Tryz.prog t→k≤reachBytes):∃ a,TreeT Tryz.prog n t [a]∧okV (szOf E) W.heap (fun b=>b < W.heap.size) a v []:=by
 obtain ⟨a,len,cap,rfl⟩:=okWide_slice hu hv
 exact read_cell hp h rfl hwt
theorem read_int {k:IntKind} (hu:Tryz.prog.underlying t=some (.int k)) (hp:plainT (szOf E) Tryz.prog n t=true) (h:DataW.Trod enc Tryz.prog W 0 (fun _=>true) true t v d p) (hv:Value.okWide Tryz.prog W .any base t v)
  (hwt:∀ k,k∈d.weights Tryz.prog t→k≤reachBytes):∃ a,TreeT Tryz.prog n t [a]∧okV (szOf E) W.heap (fun b=>b < W.heap.size) a v []:=by
 obtain ⟨m,rfl⟩:=okWide_int hu hv
 exact read_cell hp h rfl hwt
theorem read_struct {fs:Array Field} (hu:Tryz.prog.underlying t=some (.struct fs)) (hp:plainT (szOf E) Tryz.prog n t=true) (h:DataW.Trod enc Tryz.prog W 0 (fun _=>true) true t v d p) (hv:Value.okWide Tryz.prog W .any base t v)
  (hwt:∀ k,k∈d.weights Tryz.prog t→k≤reachBytes):∃ cs,TreeT Tryz.prog n t cs∧okV (szOf E) W.heap (fun b=>b < W.heap.size) (.agg cs) v []:=by
 simp only [Value.okWide,hu] at hv
 obtain ⟨cs,rfl,_⟩:=hv
 obtain ⟨fuel,hf0⟩:=h
 obtain ⟨ts,ht,hok⟩:=read_ok (sz:=szOf E) (I:=fun b=>b < W.heap.size) (fun b hb=>hb) n fuel t _ _ hp hf0 hwt
 exact ⟨ts,ht,by simp only [okV]; exact ⟨cs.toList,by simp,hok⟩⟩
end
end Go.TM.Ft
namespace Go.TM.Ft
open Go Go.TM Go.Proofs
set_option maxRecDepth 20000
attribute [local congr] gif_cg
attribute [local simp] footOf noClash clash upsets setsHit setHits layHits layMeets setsMeet evFeet seal4_iE seal4_set clean_iE
set_option maxHeartbeats 16000000 in
theorem f_LawMail (e:Engine) (h_e:FitE e) (inst:Int) (msg:Int):
  fo 6 [A (.agg (eTl e)),A (vI inst),A (vI msg)]=some (R (vB true)):=by
 have s0:=g_szEngine e (1048576) (by omega) (by omega) (fw_engine h_e)
 cases c0:ltI (subM (1048576) (wEngine e)) 0
 rotate_left
 ·refine orc_6 1 ?_
  simp (maxSteps:=1000000) +contextual -dsimp [Tryz.f6,s0,c0,List.set]
 obtain ⟨p0,e0⟩:=sub_f c0
 rw [e0] at s0 c0
 have v0:wEngine e≤1048576:=by omega
 have o0:=o_toEngine e v0
 have q0:=g_eqEngine e (by omega)
 have b0:=cz_Engine e
 have r1:=f4_MailInst e h_e (smE_of v0) inst msg
 have r2:=f_MailInst e h_e (smE_of v0) inst msg
 have hw:wEngineResult (mailI e inst msg)≤2097152:=(by have:=mailI_w e inst msg; omega)
 generalize mailI e inst msg=x at *
 have bx:=cz_EngineResult x
 have qx:=g_eqEngineResult x hw
 obtain ⟨d0,m0⟩:=o_markEngine e (1) (by omega) (by omega) (by omega)
 obtain ⟨dx,mx⟩:=o_markEngineResult x 1 (by omega) (by omega) hw
 have hx:=o_heldEngineResult x 1 (by omega) (by omega) hw
 rw [show (T.agg (erT (mzEngineResult 1 x)):T)=.agg [vI x.code,vI x.value,.sl 160 ((mzEngineResult 1 x).eng.procs.map (pT 124 219)),.sl 163 ((mzEngineResult 1 x).eng.insts.map xT),vI x.eng.now] from rfl] at hx
 have n1:ltI (1+(czEngine e:Nat)) 0=false:=ltI_f (by omega)
 have n2:ltI (1+(czEngineResult x:Nat)) 0=false:=ltI_f (by omega)
 generalize 1+(czEngine e:Int)=a0 at *
 generalize mzEngine 1 e=y0 at *
 generalize 1+(czEngineResult x:Int)=ax at *
 generalize mzEngineResult 1 x=y at *
 have t0:=osealed_Proc e.procs
 have t1:=osealed_Inst e.insts
 have t2:=osealed_Proc x.eng.procs
 have t3:=osealed_Inst x.eng.insts
 have t4:=osealed_Proc y.eng.procs
 have t5:=osealed_Inst y.eng.insts
 refine orc_6 1 ?_
 simp (maxSteps:=4000000) +contextual -dsimp [Tryz.f6,s0,c0,o0,q0,m0,r1,r2,qx,mx,hx,n1,n2,t0,t1,t2,t3,t4,t5,eqI_self,lendEff,lendOne,lendMany,firstRef,lendRow,lendCell,putRow,putBack,valArg,List.set]
end Go.TM.Ft
