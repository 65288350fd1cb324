/- What functions of the program come to, by the machine. -/
import Derived.Test.YtlmiemdojgahaaaGreatCL10
import Derived.Test.YtlmiemdojgahaaaGreatCL11
import Derived.Test.YtlmiemdojgahaaaGreatCL12
import Derived.Test.YtlmiemdojgahaaaGreatTm3
import Derived.Test.YtlmiemdojgahaaaGreatCL9
set_option linter.unusedSimpArgs false
set_option linter.unusedVariables false
namespace Go.TM.Ft
open Go Go.TM Go.Proofs
set_option maxRecDepth 20000
attribute [local congr] gif_cg
attribute [local simp] fresh ownLen footOf noClash clash upsets setsHit setHits layHits layMeets setsMeet evFeet
abbrev zI:List T:=[vI 0]
theorem oltointS (all:List Int) (hall:all.length≤1048576):∀ (rest:List Int) (i:Nat) (es:List (List T)),all.drop i=rest→es.length=all.length→(∀ j,i≤j→j < all.length→es[j]?=some zI)→
  evLoop E (orc E) (17:Nat) (rest.length+1) (loopOf Tryz.f17 0) ⟨22,[(0,.sl 2 (all.map iV)),(3,.ref 3 1 [] 0 all.length),(4,vI i)],[(3,⟨1,1,false,[.own 2 es]⟩)],2⟩=
  some (.exit 0,⟨22,[(0,.sl 2 (all.map iV)),(3,.ref 3 1 [] 0 all.length),(4,vI (i+rest.length:Nat)),(11,vB false)],[(3,⟨1,1,false,[.own 2 (es.take i++rest.map iV)]⟩)],2⟩)
 | [],i,es,h,hl,hz=>by
  have hge:all.length≤i:=by simpa using h
  have hlt:ltI (i:Int) (all.length:Int)=false:=ltI_f (by omega)
  have ht:es.take i=es:=List.take_of_length_le (by omega)
  rw [loop_eq]
  simp +contextual -dsimp [Tryz.f17,hlt,ht]
 | x::rest,i,es,h,hl,hz=>by
  obtain ⟨hi,hc,hr⟩:=drop_cons h
  have hlt:ltI (i:Int) (all.length:Int)=true:=ltI_t (by omega)
  have hw:IntKind.i64.wrap ((i:Int)+1)=((i+1:Nat):Int):=by rw [wrapI] <;> omega
  have hi2:i < es.length:=by omega
  have hz1:es[i]=zI:=by
   have:=hz i (Nat.le_refl _) hi
   rw [List.getElem?_eq_getElem hi2] at this
   simpa using this
  have ih:=oltointS all hall rest (i+1) (es.set i (iV x)) hr (by simpa using hl) (fun j hj hj2=>by
   rw [List.getElem?_set_ne (by omega)]
   exact hz j (by omega) hj2)
  have he:i+1+rest.length=i+(rest.length+1):=by omega
  have hes:(es.set i (iV x)).take (i+1)=es.take i++[iV x]:=by
   rw [List.take_add_one,List.take_set_of_le (Nat.le_refl _)]
   simp [hi2]
  rw [he,hes,List.append_assoc] at ih
  refine evLoop_next ?_ (by simpa only [List.length_cons,List.map_cons,List.singleton_append] using ih)
  simp (maxSteps:=1000000) +contextual -dsimp [Tryz.f17,hlt,hi,hi2,hc,hw,hz1,hl,List.set]
theorem o_tointS (l:List Int) (hl:l.length≤1048576):fo 17 [A (.sl 2 (l.map iV))]=some ⟨.own 2 (l.map iV),[],true⟩:=by
 have hm:(l.length:Int)≤(maxElems:Nat):=by unfold maxElems; omega
 have hlp:=oltointS l hl l 0 (List.replicate l.length zI) rfl (by simp) (fun j _ hj=>by simp [hj])
 have hcl:=oclean_int l
 refine orc_17 (l.length+1) ?_
 simp -dsimp [Tryz.f17] at hlp
 simp (maxSteps:=1000000) +contextual -dsimp [Tryz.f17,hm,hlp,hcl,finishL,mergeL,List.set]
theorem o_toNode (x:Node):fo 231 [A (.agg (nT x))]=some ⟨.agg (nT x),[],true⟩:=by
 refine orc_231 1 ?_
 simp (maxSteps:=1000000) +contextual -dsimp [Tryz.f231,List.set]
theorem oltoNodeS (all:List Node) (hall:all.length≤1048576):∀ (rest:List Node) (i:Nat) (es:List (List T)),all.drop i=rest→es.length=all.length→(∀ j,i≤j→j < all.length→es[j]?=some [vI 0,vI 0,vI 0,vI 0])→
  evLoop E (orc E) (166:Nat) (rest.length+1) (loopOf Tryz.f166 0) ⟨23,[(0,.sl 267 (all.map nT)),(3,.ref 3 1 [] 0 all.length),(4,vI i)],[(3,⟨1,1,false,[.own 219 es]⟩)],2⟩=
  some (.exit 0,⟨23,[(0,.sl 267 (all.map nT)),(3,.ref 3 1 [] 0 all.length),(4,vI (i+rest.length:Nat)),(11,vB false)],[(3,⟨1,1,false,[.own 219 (es.take i++rest.map nT)]⟩)],2⟩)
 | [],i,es,h,hl,hz=>by
  have hge:all.length≤i:=by simpa using h
  have hlt:ltI (i:Int) (all.length:Int)=false:=ltI_f (by omega)
  have ht:es.take i=es:=List.take_of_length_le (by omega)
  rw [loop_eq]
  simp +contextual -dsimp [Tryz.f166,hlt,ht]
 | x::rest,i,es,h,hl,hz=>by
  obtain ⟨hi,hc,hr⟩:=drop_cons h
  have hlt:ltI (i:Int) (all.length:Int)=true:=ltI_t (by omega)
  have hw:IntKind.i64.wrap ((i:Int)+1)=((i+1:Nat):Int):=by rw [wrapI] <;> omega
  have hi2:i < es.length:=by omega
  have hz1:es[i]=[vI 0,vI 0,vI 0,vI 0]:=by
   have:=hz i (Nat.le_refl _) hi
   rw [List.getElem?_eq_getElem hi2] at this
   simpa using this
  have ih:=oltoNodeS all hall rest (i+1) (es.set i (nT x)) hr (by simpa using hl) (fun j hj hj2=>by
   rw [List.getElem?_set_ne (by omega)]
   exact hz j (by omega) hj2)
  have he:i+1+rest.length=i+(rest.length+1):=by omega
  have hes:(es.set i (nT x)).take (i+1)=es.take i++[nT x]:=by
   rw [List.take_add_one,List.take_set_of_le (Nat.le_refl _)]
   simp [hi2]
  rw [he,hes,List.append_assoc] at ih
  have g:=o_toNode x
  refine evLoop_next ?_ (by simpa only [List.length_cons,List.map_cons,List.singleton_append] using ih)
  simp (maxSteps:=1000000) +contextual -dsimp [Tryz.f166,hlt,hi,hi2,hc,hw,hz1,hl,g,List.set]
theorem o_toNodeS (l:List Node) (hl:l.length≤1048576):fo 166 [A (.sl 267 (l.map nT))]=some ⟨.own 219 (l.map nT),[],true⟩:=by
 have hm:(l.length:Int)≤(maxElems:Nat):=by unfold maxElems; omega
 have hlp:=oltoNodeS l hl l 0 (List.replicate l.length [vI 0,vI 0,vI 0,vI 0]) rfl (by simp) (fun j _ hj=>by simp [hj])
 have hcl:=oclean_Node l
 refine orc_166 (l.length+1) ?_
 simp -dsimp [Tryz.f166] at hlp
 simp (maxSteps:=1000000) +contextual -dsimp [Tryz.f166,hm,hlp,hcl,finishL,mergeL,List.set]
theorem o_toStep (x:Step) (h:wStep x≤1048576):fo 75 [A (.agg (sT 267 x))]=some ⟨.agg (StepO x),[],true⟩:=by
 have g4:=o_toNodeS x.cond (by simp only [wStep] at h; omega)
 have s4:=oclean_Node x.cond
 have g5:=o_toNodeS x.expr (by simp only [wStep] at h; omega)
 have s5:=oclean_Node x.expr
 refine orc_75 1 ?_
 simp (maxSteps:=1000000) +contextual -dsimp [Tryz.f75,g4,s4,g5,s5,List.set]
theorem oltoStepS (all:List Step) (hall:all.length≤1048576) (hf:∀ x,x∈all→wStep x≤1048576):∀ (rest:List Step) (i:Nat) (es:List (List T)),all.drop i=rest→es.length=all.length→(∀ j,i≤j→j < all.length→es[j]?=some [vI 0,vI 0,vS emp,vI 0,.own 219 [],.own 219 []])→
  evLoop E (orc E) (16:Nat) (rest.length+1) (loopOf Tryz.f16 0) ⟨23,[(0,.sl 111 (all.map (sT 267))),(3,.ref 3 1 [] 0 all.length),(4,vI i)],[(3,⟨1,1,false,[.own 124 es]⟩)],2⟩=
  some (.exit 0,⟨23,[(0,.sl 111 (all.map (sT 267))),(3,.ref 3 1 [] 0 all.length),(4,vI (i+rest.length:Nat)),(11,vB false)],[(3,⟨1,1,false,[.own 124 (es.take i++rest.map StepO)]⟩)],2⟩)
 | [],i,es,h,hl,hz=>by
  have hge:all.length≤i:=by simpa using h
  have hlt:ltI (i:Int) (all.length:Int)=false:=ltI_f (by omega)
  have ht:es.take i=es:=List.take_of_length_le (by omega)
  rw [loop_eq]
  simp +contextual -dsimp [Tryz.f16,hlt,ht]
 | x::rest,i,es,h,hl,hz=>by
  obtain ⟨hi,hc,hr⟩:=drop_cons h
  have hlt:ltI (i:Int) (all.length:Int)=true:=ltI_t (by omega)
  have hw:IntKind.i64.wrap ((i:Int)+1)=((i+1:Nat):Int):=by rw [wrapI] <;> omega
  have hi2:i < es.length:=by omega
  have hz1:es[i]=[vI 0,vI 0,vS emp,vI 0,.own 219 [],.own 219 []]:=by
   have:=hz i (Nat.le_refl _) hi
   rw [List.getElem?_eq_getElem hi2] at this
   simpa using this
  have ih:=oltoStepS all hall hf rest (i+1) (es.set i (StepO x)) hr (by simpa using hl) (fun j hj hj2=>by
   rw [List.getElem?_set_ne (by omega)]
   exact hz j (by omega) hj2)
  have he:i+1+rest.length=i+(rest.length+1):=by omega
  have hes:(es.set i (StepO x)).take (i+1)=es.take i++[StepO x]:=by
   rw [List.take_add_one,List.take_set_of_le (Nat.le_refl _)]
   simp [hi2]
  rw [he,hes,List.append_assoc] at ih
  have g:=o_toStep x (hf x (by rw [← hc]; exact List.getElem_mem _))
  refine evLoop_next ?_ (by simpa only [List.length_cons,List.map_cons,List.singleton_append] using ih)
  simp (maxSteps:=1000000) +contextual -dsimp [Tryz.f16,hlt,hi,hi2,hc,hw,hz1,hl,g,List.set]
theorem o_toStepS (l:List Step) (hl:l.length≤1048576) (hf:∀ x,x∈l→wStep x≤1048576):fo 16 [A (.sl 111 (l.map (sT 267)))]=some ⟨.own 124 (l.map StepO),[],true⟩:=by
 have hm:(l.length:Int)≤(maxElems:Nat):=by unfold maxElems; omega
 have hlp:=oltoStepS l hl hf l 0 (List.replicate l.length [vI 0,vI 0,vS emp,vI 0,.own 219 [],.own 219 []]) rfl (by simp) (fun j _ hj=>by simp [hj])
 have hcl:=oclean_Step l
 refine orc_16 (l.length+1) ?_
 simp -dsimp [Tryz.f16] at hlp
 simp (maxSteps:=1000000) +contextual -dsimp [Tryz.f16,hm,hlp,hcl,finishL,mergeL,List.set]
theorem o_toProc (x:List Step) (h:wProc x≤1048576):fo 183 [A (.agg (pT 111 267 x))]=some ⟨.agg (ProcO x),[],true⟩:=by
 have g0:=o_toStepS x (by simp only [wProc,wsStep] at h; omega) (fun y hy=>by have:=sumStep_mem hy; simp only [wProc,wsStep] at h; omega)
 have s0:=oclean_Step x
 refine orc_183 1 ?_
 simp (maxSteps:=1000000) +contextual -dsimp [Tryz.f183,g0,s0,List.set]
theorem oltoProcS (all:List (List Step)) (hall:all.length≤1048576) (hf:∀ x,x∈all→wProc x≤1048576):∀ (rest:List (List Step)) (i:Nat) (es:List (List T)),all.drop i=rest→es.length=all.length→(∀ j,i≤j→j < all.length→es[j]?=some [.own 124 []])→
  evLoop E (orc E) (111:Nat) (rest.length+1) (loopOf Tryz.f111 0) ⟨23,[(0,.sl 225 (all.map (pT 111 267))),(3,.ref 3 1 [] 0 all.length),(4,vI i)],[(3,⟨1,1,false,[.own 160 es]⟩)],2⟩=
  some (.exit 0,⟨23,[(0,.sl 225 (all.map (pT 111 267))),(3,.ref 3 1 [] 0 all.length),(4,vI (i+rest.length:Nat)),(11,vB false)],[(3,⟨1,1,false,[.own 160 (es.take i++rest.map ProcO)]⟩)],2⟩)
 | [],i,es,h,hl,hz=>by
  have hge:all.length≤i:=by simpa using h
  have hlt:ltI (i:Int) (all.length:Int)=false:=ltI_f (by omega)
  have ht:es.take i=es:=List.take_of_length_le (by omega)
  rw [loop_eq]
  simp +contextual -dsimp [Tryz.f111,hlt,ht]
 | x::rest,i,es,h,hl,hz=>by
  obtain ⟨hi,hc,hr⟩:=drop_cons h
  have hlt:ltI (i:Int) (all.length:Int)=true:=ltI_t (by omega)
  have hw:IntKind.i64.wrap ((i:Int)+1)=((i+1:Nat):Int):=by rw [wrapI] <;> omega
  have hi2:i < es.length:=by omega
  have hz1:es[i]=[.own 124 []]:=by
   have:=hz i (Nat.le_refl _) hi
   rw [List.getElem?_eq_getElem hi2] at this
   simpa using this
  have ih:=oltoProcS all hall hf rest (i+1) (es.set i (ProcO x)) hr (by simpa using hl) (fun j hj hj2=>by
   rw [List.getElem?_set_ne (by omega)]
   exact hz j (by omega) hj2)
  have he:i+1+rest.length=i+(rest.length+1):=by omega
  have hes:(es.set i (ProcO x)).take (i+1)=es.take i++[ProcO x]:=by
   rw [List.take_add_one,List.take_set_of_le (Nat.le_refl _)]
   simp [hi2]
  rw [he,hes,List.append_assoc] at ih
  have g:=o_toProc x (hf x (by rw [← hc]; exact List.getElem_mem _))
  refine evLoop_next ?_ (by simpa only [List.length_cons,List.map_cons,List.singleton_append] using ih)
  simp (maxSteps:=1000000) +contextual -dsimp [Tryz.f111,hlt,hi,hi2,hc,hw,hz1,hl,g,List.set]
theorem o_toProcS (l:List (List Step)) (hl:l.length≤1048576) (hf:∀ x,x∈l→wProc x≤1048576):fo 111 [A (.sl 225 (l.map (pT 111 267)))]=some ⟨.own 160 (l.map ProcO),[],true⟩:=by
 have hm:(l.length:Int)≤(maxElems:Nat):=by unfold maxElems; omega
 have hlp:=oltoProcS l hl hf l 0 (List.replicate l.length [.own 124 []]) rfl (by simp) (fun j _ hj=>by simp [hj])
 have hcl:=oclean_Proc l
 refine orc_111 (l.length+1) ?_
 simp -dsimp [Tryz.f111] at hlp
 simp (maxSteps:=1000000) +contextual -dsimp [Tryz.f111,hm,hlp,hcl,finishL,mergeL,List.set]
theorem o_toChart (x:Chart) (h:wChart x≤1048576):fo 243 [A (.agg (cT x))]=some ⟨.agg (ChartO x),[],true⟩:=by
 have g2:=o_tointS x.vars (by simp only [wChart] at h; omega)
 have s2:=oclean_int x.vars
 have g3:=o_tointS x.acts (by simp only [wChart] at h; omega)
 have s3:=oclean_int x.acts
 have g4:=o_tointS x.dues (by simp only [wChart] at h; omega)
 have s4:=oclean_int x.dues
 refine orc_243 1 ?_
 simp (maxSteps:=1000000) +contextual -dsimp [Tryz.f243,g2,s2,g3,s3,g4,s4,List.set]
theorem o_toInst (x:Inst) (h:wInst x≤1048576):fo 184 [A (.agg (xT x))]=some ⟨.agg (InstO x),[],true⟩:=by
 have g1:=o_toChart x.chart (by simp only [wInst] at h; omega)
 have s1vars:=oclean_int x.chart.vars
 have s1acts:=oclean_int x.chart.acts
 have s1dues:=oclean_int x.chart.dues
 refine orc_184 1 ?_
 simp (maxSteps:=1000000) +contextual -dsimp [Tryz.f184,g1,s1vars,s1acts,s1dues,List.set]
theorem oltoInstS (all:List Inst) (hall:all.length≤1048576) (hf:∀ x,x∈all→wInst x≤1048576):∀ (rest:List Inst) (i:Nat) (es:List (List T)),all.drop i=rest→es.length=all.length→(∀ j,i≤j→j < all.length→es[j]?=some [vI 0,vI 0,vI 0,.own 2 [],.own 2 [],.own 2 []])→
  evLoop E (orc E) (112:Nat) (rest.length+1) (loopOf Tryz.f112 0) ⟨23,[(0,.sl 229 (all.map xT)),(3,.ref 3 1 [] 0 all.length),(4,vI i)],[(3,⟨1,1,false,[.own 163 es]⟩)],2⟩=
  some (.exit 0,⟨23,[(0,.sl 229 (all.map xT)),(3,.ref 3 1 [] 0 all.length),(4,vI (i+rest.length:Nat)),(11,vB false)],[(3,⟨1,1,false,[.own 163 (es.take i++rest.map InstO)]⟩)],2⟩)
 | [],i,es,h,hl,hz=>by
  have hge:all.length≤i:=by simpa using h
  have hlt:ltI (i:Int) (all.length:Int)=false:=ltI_f (by omega)
  have ht:es.take i=es:=List.take_of_length_le (by omega)
  rw [loop_eq]
  simp +contextual -dsimp [Tryz.f112,hlt,ht]
 | x::rest,i,es,h,hl,hz=>by
  obtain ⟨hi,hc,hr⟩:=drop_cons h
  have hlt:ltI (i:Int) (all.length:Int)=true:=ltI_t (by omega)
  have hw:IntKind.i64.wrap ((i:Int)+1)=((i+1:Nat):Int):=by rw [wrapI] <;> omega
  have hi2:i < es.length:=by omega
  have hz1:es[i]=[vI 0,vI 0,vI 0,.own 2 [],.own 2 [],.own 2 []]:=by
   have:=hz i (Nat.le_refl _) hi
   rw [List.getElem?_eq_getElem hi2] at this
   simpa using this
  have ih:=oltoInstS all hall hf rest (i+1) (es.set i (InstO x)) hr (by simpa using hl) (fun j hj hj2=>by
   rw [List.getElem?_set_ne (by omega)]
   exact hz j (by omega) hj2)
  have he:i+1+rest.length=i+(rest.length+1):=by omega
  have hes:(es.set i (InstO x)).take (i+1)=es.take i++[InstO x]:=by
   rw [List.take_add_one,List.take_set_of_le (Nat.le_refl _)]
   simp [hi2]
  rw [he,hes,List.append_assoc] at ih
  have g:=o_toInst x (hf x (by rw [← hc]; exact List.getElem_mem _))
  refine evLoop_next ?_ (by simpa only [List.length_cons,List.map_cons,List.singleton_append] using ih)
  simp (maxSteps:=1000000) +contextual -dsimp [Tryz.f112,hlt,hi,hi2,hc,hw,hz1,hl,g,List.set]
theorem o_toInstS (l:List Inst) (hl:l.length≤1048576) (hf:∀ x,x∈l→wInst x≤1048576):fo 112 [A (.sl 229 (l.map xT))]=some ⟨.own 163 (l.map InstO),[],true⟩:=by
 have hm:(l.length:Int)≤(maxElems:Nat):=by unfold maxElems; omega
 have hlp:=oltoInstS l hl hf l 0 (List.replicate l.length [vI 0,vI 0,vI 0,.own 2 [],.own 2 [],.own 2 []]) rfl (by simp) (fun j _ hj=>by simp [hj])
 have hcl:=oclean_Inst l
 refine orc_112 (l.length+1) ?_
 simp -dsimp [Tryz.f112] at hlp
 simp (maxSteps:=1000000) +contextual -dsimp [Tryz.f112,hm,hlp,hcl,finishL,mergeL,List.set]
theorem o_toClaim (x:Claim):fo 176 [A (.agg (kT x))]=some ⟨.agg (kT x),[],true⟩:=by
 refine orc_176 1 ?_
 simp (maxSteps:=1000000) +contextual -dsimp [Tryz.f176,List.set]
theorem oltoClaimS (all:List Claim) (hall:all.length≤1048576):∀ (rest:List Claim) (i:Nat) (es:List (List T)),all.drop i=rest→es.length=all.length→(∀ j,i≤j→j < all.length→es[j]?=some [vI 0,vI 0,vI 0])→
  evLoop E (orc E) (98:Nat) (rest.length+1) (loopOf Tryz.f98 0) ⟨23,[(0,.sl 222 (all.map kT)),(3,.ref 3 1 [] 0 all.length),(4,vI i)],[(3,⟨1,1,false,[.own 150 es]⟩)],2⟩=
  some (.exit 0,⟨23,[(0,.sl 222 (all.map kT)),(3,.ref 3 1 [] 0 all.length),(4,vI (i+rest.length:Nat)),(11,vB false)],[(3,⟨1,1,false,[.own 150 (es.take i++rest.map kT)]⟩)],2⟩)
 | [],i,es,h,hl,hz=>by
  have hge:all.length≤i:=by simpa using h
  have hlt:ltI (i:Int) (all.length:Int)=false:=ltI_f (by omega)
  have ht:es.take i=es:=List.take_of_length_le (by omega)
  rw [loop_eq]
  simp +contextual -dsimp [Tryz.f98,hlt,ht]
 | x::rest,i,es,h,hl,hz=>by
  obtain ⟨hi,hc,hr⟩:=drop_cons h
  have hlt:ltI (i:Int) (all.length:Int)=true:=ltI_t (by omega)
  have hw:IntKind.i64.wrap ((i:Int)+1)=((i+1:Nat):Int):=by rw [wrapI] <;> omega
  have hi2:i < es.length:=by omega
  have hz1:es[i]=[vI 0,vI 0,vI 0]:=by
   have:=hz i (Nat.le_refl _) hi
   rw [List.getElem?_eq_getElem hi2] at this
   simpa using this
  have ih:=oltoClaimS all hall rest (i+1) (es.set i (kT x)) hr (by simpa using hl) (fun j hj hj2=>by
   rw [List.getElem?_set_ne (by omega)]
   exact hz j (by omega) hj2)
  have he:i+1+rest.length=i+(rest.length+1):=by omega
  have hes:(es.set i (kT x)).take (i+1)=es.take i++[kT x]:=by
   rw [List.take_add_one,List.take_set_of_le (Nat.le_refl _)]
   simp [hi2]
  rw [he,hes,List.append_assoc] at ih
  have g:=o_toClaim x
  refine evLoop_next ?_ (by simpa only [List.length_cons,List.map_cons,List.singleton_append] using ih)
  simp (maxSteps:=1000000) +contextual -dsimp [Tryz.f98,hlt,hi,hi2,hc,hw,hz1,hl,g,List.set]
theorem o_toClaimS (l:List Claim) (hl:l.length≤1048576):fo 98 [A (.sl 222 (l.map kT))]=some ⟨.own 150 (l.map kT),[],true⟩:=by
 have hm:(l.length:Int)≤(maxElems:Nat):=by unfold maxElems; omega
 have hlp:=oltoClaimS l hl l 0 (List.replicate l.length [vI 0,vI 0,vI 0]) rfl (by simp) (fun j _ hj=>by simp [hj])
 have hcl:=oclean_Claim l
 refine orc_98 (l.length+1) ?_
 simp -dsimp [Tryz.f98] at hlp
 simp (maxSteps:=1000000) +contextual -dsimp [Tryz.f98,hm,hlp,hcl,finishL,mergeL,List.set]
theorem o_toEngine (x:Engine) (h:wEngine x≤1048576):fo 40 [A (.agg (eTl x))]=some ⟨.agg (EngineO x),[],true⟩:=by
 have g0:=o_toProcS x.procs (by simp only [wEngine,wsProc] at h; omega) (fun y hy=>by have:=sumProc_mem hy; simp only [wEngine,wsProc] at h; omega)
 have s0:=oclean_Proc x.procs
 have g1:=o_toInstS x.insts (by simp only [wEngine,wsInst] at h; omega) (fun y hy=>by have:=sumInst_mem hy; simp only [wEngine,wsInst] at h; omega)
 have s1:=oclean_Inst x.insts
 refine orc_40 1 ?_
 simp (maxSteps:=1000000) +contextual -dsimp [Tryz.f40,g0,s0,g1,s1,List.set]
theorem o_toDesk (x:Desk) (h:wDesk x≤1048576):fo 31 [A (.agg (dTl x))]=some ⟨.agg (DeskO x),[],true⟩:=by
 have g0:=o_toEngine x.eng (by simp only [wDesk] at h; omega)
 have s0procs:=oclean_Proc x.eng.procs
 have s0insts:=oclean_Inst x.eng.insts
 have g1:=o_toClaimS x.claims (by simp only [wDesk] at h; omega)
 have s1:=oclean_Claim x.claims
 refine orc_31 1 ?_
 simp (maxSteps:=1000000) +contextual -dsimp [Tryz.f31,g0,s0procs,s0insts,g1,s1,List.set]
end Go.TM.Ft
namespace Go.TM.Ft
open Go Go.TM Go.Proofs
set_option maxRecDepth 20000
attribute [local congr] gif_cg
attribute [local simp] footOf noClash clash upsets setsHit setHits layHits layMeets setsMeet evFeet
theorem g_eqDeskResult (x:DeskR) (h:wDeskResult x≤2097152):fo 33 [A (.agg (drT x)),A (.agg (drT x))]=some (R (vB true)):=by
 have g2:=g_eqDesk x.desk (by simp only [wDeskResult] at h; omega)
 refine orc_33 1 ?_
 simp (maxSteps:=1000000) +contextual -dsimp [Tryz.f33,eqI_self,eqS_self,g2,List.set]
end Go.TM.Ft
namespace Go.TM.Ft
open Go Go.TM Go.Proofs
theorem cts_Node (l:List Node):ctsNode l=4*l.length:=by
 induction l with
 | nil=>rfl
 | cons x l ih=>rw [ctsNode_cons,ih]; simp only [ctNode,List.length_cons]; omega
theorem ct_Step (x:Step):ctStep x≤4+4*wStep x:=by
 simp only [ctStep,cts_Node,wStep]; omega
theorem cts_Step (l:List Step):ctsStep l≤4*wsStep l:=by
 have:ctsStep l≤4*l.length+4*sumStep l:=by
  induction l with
  | nil=>exact Nat.zero_le _
  | cons x l ih=>rw [ctsStep_cons]; have:=ct_Step x; simp only [sumStep,List.length_cons]; omega
 simp only [wsStep]; omega
theorem cts_Proc (l:List (List Step)):ctsProc l≤4*wsProc l:=by
 have:ctsProc l≤4*sumProc l:=by
  induction l with
  | nil=>exact Nat.zero_le _
  | cons x l ih=>rw [ctsProc_cons]; have:=cts_Step x; simp only [sumProc,ctProc,wProc]; omega
 simp only [wsProc]; omega
theorem cts_Inst (l:List Inst):ctsInst l≤3*wsInst l:=by
 have:ctsInst l≤3*l.length+3*sumInst l:=by
  induction l with
  | nil=>exact Nat.zero_le _
  | cons x l ih=>rw [ctsInst_cons]; simp only [sumInst,ctInst,wInst,wChart,ctsint,List.length_cons]; omega
 simp only [wsInst]; omega
theorem cts_Claim (l:List Claim):ctsClaim l=3*l.length:=by
 induction l with
 | nil=>rfl
 | cons x l ih=>rw [ctsClaim_cons,ih]; simp only [ctClaim,List.length_cons]; omega
theorem cz_Engine (x:Engine):czEngine x≤4*wEngine x:=by
 have h1:=cts_Proc x.procs
 have h2:=cts_Inst x.insts
 simp only [czEngine,wEngine]; omega
theorem cz_Desk (x:Desk):czDesk x≤4*wDesk x:=by
 have h1:=cz_Engine x.eng
 have h2:=cts_Claim x.claims
 simp only [czDesk,wDesk]; omega
end Go.TM.Ft
namespace Go.TM.Ft
open Go Go.TM Go.Proofs
set_option maxRecDepth 20000
attribute [local congr] gif_cg
attribute [local simp] footOf noClash clash upsets setsHit setHits layHits layMeets setsMeet evFeet
structure FitD (d:Desk):Prop where
 eng:FitE d.eng
 claims:d.claims.length < 2 ^ 62
theorem fw_step {s:Step} (h:FitS s):FwStep s:=⟨h.name,h.cond,h.expr⟩
theorem fw_proc {p:List Step} (h:FitP p):FwProc p:=⟨h.len,fun s hs=>fw_step (h.steps s hs)⟩
theorem fw_chart {c:Chart} (h:FitC c):FwChart c:=⟨h.vars,h.acts,h.dues⟩
theorem fw_engine {e:Engine} (h:FitE e):FwEngine e:=⟨⟨h.np,fun p hp=>fw_proc (h.procs p hp)⟩,⟨h.ni,fun x hx=>fw_chart (h.insts x hx)⟩⟩
theorem fw_desk {d:Desk} (h:FitD d):FwDesk d:=⟨fw_engine h.eng,h.claims⟩
theorem tree_int {n:Nat} {ts:List T} (h:TreeT Tryz.prog (n+1) 2 ts):∃ x,ts=[vI x]∧-9223372036854775808≤x∧x < 9223372036854775808:=by
 unfold TreeT at h
 rw [Tryz.underlying2] at h
 obtain ⟨x,rfl,hw⟩:=h
 have:=bounds_i64 hw
 exact ⟨x,rfl,by omega,by omega⟩
theorem map_of {α β:Type} {f:α→β} {p:α→Prop}:∀ {l:List β},(∀ c,c∈l→∃ x,c=f x∧p x)→∃ xs:List α,l=xs.map f∧∀ x,x∈xs→p x
 | [],_=>⟨[],rfl,fun x hx=>by simp at hx⟩
 | c::l,h=>by
  obtain ⟨x,rfl,hx⟩:=h c (by simp)
  obtain ⟨xs,rfl,hxs⟩:=map_of (f:=f) (p:=p) (l:=l) fun d hd=>h d (by simp [hd])
  exact ⟨x::xs,rfl,fun y hy=>by
   rcases List.mem_cons.1 hy with rfl | hy
   ·exact hx
   ·exact hxs y hy⟩
theorem tree_slice {α:Type} {P:Program} {n:Nat} {t e:TypeId} {ts:List T} {f:α→List T} {p:α→Prop} (hu:P.underlying t=some (.slice e)) (h:TreeT P (n+1) t ts)
  (hx:∀ c,TreeT P n e c→∃ x,c=f x∧p x):∃ l:List α,ts=[.sl e (l.map f)]∧l.length < 2 ^ 62∧∀ x,x∈l→p x:=by
 unfold TreeT at h
 rw [hu] at h
 obtain ⟨es,rfl,hl,h2⟩:=h
 obtain ⟨xs,rfl,hp⟩:=map_of (f:=f) (p:=p) (l:=es) fun c hc=>hx c (h2 c hc)
 refine ⟨xs,rfl,?_,hp⟩
 simp at hl; unfold reachBytes at hl; omega
theorem tree_node {n:Nat} {ts:List T} (h:TreeT Tryz.prog (n+2) 267 ts):∃ x,ts=nT x∧True:=by
 unfold TreeT at h
 rw [Tryz.underlying267] at h
 obtain ⟨c1,r1,rfl,h1,c2,r2,rfl,h2,c3,r3,rfl,h3,c4,r4,rfl,h4,rfl⟩:=h
 obtain ⟨x1,rfl,_⟩:=tree_int h1
 obtain ⟨x2,rfl,_⟩:=tree_int h2
 obtain ⟨x3,rfl,_⟩:=tree_int h3
 obtain ⟨x4,rfl,_⟩:=tree_int h4
 exact ⟨⟨x1,x2,x3,x4⟩,rfl,trivial⟩
theorem tree_step {n:Nat} {ts:List T} (h:TreeT Tryz.prog (n+4) 111 ts):∃ s:Step,ts=sT 267 s∧FitS s:=by
 unfold TreeT at h
 rw [Tryz.underlying111] at h
 obtain ⟨c1,r1,rfl,h1,c2,r2,rfl,h2,c3,r3,rfl,h3,c4,r4,rfl,h4,c5,r5,rfl,h5,c6,r6,rfl,h6,rfl⟩:=h
 obtain ⟨x1,rfl,_⟩:=tree_int h1
 obtain ⟨x2,rfl,p1,p2⟩:=tree_int h2
 obtain ⟨x4,rfl,_⟩:=tree_int h4
 obtain ⟨x5,rfl,l5,_⟩:=tree_slice (f:=nT) (p:=fun _=>True) Tryz.underlying109 h5 fun c hc=>tree_node hc
 obtain ⟨x6,rfl,l6,_⟩:=tree_slice (f:=nT) (p:=fun _=>True) Tryz.underlying109 h6 fun c hc=>tree_node hc
 simp only at h3
 unfold TreeT at h3
 rw [Tryz.underlying9] at h3
 obtain ⟨x3,rfl,l3⟩:=h3
 exact ⟨⟨x1,x2,x3,x4,x5,x6⟩,rfl,p1,p2,by unfold reachBytes at l3; simp; omega,l5,l6⟩
theorem tree_proc {n:Nat} {ts:List T} (h:TreeT Tryz.prog (n+6) 225 ts):∃ p:List Step,ts=pT 111 267 p∧FitP p:=by
 unfold TreeT at h
 rw [Tryz.underlying225] at h
 obtain ⟨c1,r1,rfl,h1,rfl⟩:=h
 obtain ⟨l,rfl,hl,hf⟩:=tree_slice (f:=sT 267) (p:=FitS) Tryz.underlying22 h1 fun c hc=>tree_step hc
 exact ⟨l,rfl,hl,hf⟩
theorem tree_ints {n:Nat} {ts:List T} (h:TreeT Tryz.prog (n+2) 23 ts):∃ l:List Int,ts=[iS l]∧l.length < 2 ^ 62:=by
 obtain ⟨l,rfl,hl,_⟩:=tree_slice (f:=fun n=>[vI n]) (p:=fun _=>True) Tryz.underlying23 h fun c hc=>by
  obtain ⟨x,rfl,_⟩:=tree_int hc
  exact ⟨x,rfl,trivial⟩
 exact ⟨l,rfl,hl⟩
theorem tree_chart {n:Nat} {ts:List T} (h:TreeT Tryz.prog (n+3) 227 ts):∃ c:Chart,ts=cT c∧FitC c:=by
 unfold TreeT at h
 rw [Tryz.underlying227] at h
 obtain ⟨c1,r1,rfl,h1,c2,r2,rfl,h2,c3,r3,rfl,h3,c4,r4,rfl,h4,c5,r5,rfl,h5,rfl⟩:=h
 obtain ⟨x1,rfl,_⟩:=tree_int h1
 obtain ⟨x2,rfl,_⟩:=tree_int h2
 obtain ⟨x3,rfl,l3⟩:=tree_ints h3
 obtain ⟨x4,rfl,l4⟩:=tree_ints h4
 obtain ⟨x5,rfl,l5⟩:=tree_ints h5
 exact ⟨⟨x1,x2,x3,x4,x5⟩,rfl,l3,l4,l5⟩
theorem tree_inst {n:Nat} {ts:List T} (h:TreeT Tryz.prog (n+4) 229 ts):∃ x:Inst,ts=xT x∧FitC x.chart:=by
 unfold TreeT at h
 rw [Tryz.underlying229] at h
 obtain ⟨c1,r1,rfl,h1,c2,r2,rfl,h2,rfl⟩:=h
 obtain ⟨x1,rfl,_⟩:=tree_int h1
 obtain ⟨x2,rfl,f2⟩:=tree_chart h2
 exact ⟨⟨x1,x2⟩,rfl,f2⟩
theorem tree_claim {n:Nat} {ts:List T} (h:TreeT Tryz.prog (n+2) 222 ts):∃ x:Claim,ts=kT x∧True:=by
 unfold TreeT at h
 rw [Tryz.underlying222] at h
 obtain ⟨c1,r1,rfl,h1,c2,r2,rfl,h2,c3,r3,rfl,h3,rfl⟩:=h
 obtain ⟨x1,rfl,_⟩:=tree_int h1
 obtain ⟨x2,rfl,_⟩:=tree_int h2
 obtain ⟨x3,rfl,_⟩:=tree_int h3
 exact ⟨⟨x1,x2,x3⟩,rfl,trivial⟩
theorem tree_engine {n:Nat} {ts:List T} (h:TreeT Tryz.prog (n+8) 51 ts):∃ e:Engine,ts=eTl e∧FitE e:=by
 unfold TreeT at h
 rw [Tryz.underlying51] at h
 obtain ⟨c1,r1,rfl,h1,c2,r2,rfl,h2,c3,r3,rfl,h3,rfl⟩:=h
 obtain ⟨x1,rfl,l1,f1⟩:=tree_slice (f:=pT 111 267) (p:=FitP) Tryz.underlying48 h1 fun c hc=>tree_proc hc
 obtain ⟨x2,rfl,l2,f2⟩:=tree_slice (f:=xT) (p:=fun x=>FitC x.chart) Tryz.underlying49 h2 fun c hc=>tree_inst hc
 obtain ⟨x3,rfl,_⟩:=tree_int h3
 exact ⟨⟨x1,x2,x3⟩,rfl,l1,l2,f1,f2⟩
theorem tree_desk {ts:List T} (h:TreeT Tryz.prog 9 54 ts):∃ d:Desk,ts=dTl d∧FitD d:=by
 unfold TreeT at h
 rw [Tryz.underlying54] at h
 obtain ⟨c1,r1,rfl,h1,c2,r2,rfl,h2,rfl⟩:=h
 obtain ⟨x1,rfl,f1⟩:=tree_engine h1
 obtain ⟨x2,rfl,l2,_⟩:=tree_slice (f:=kT) (p:=fun _=>True) Tryz.underlying52 h2 fun c hc=>tree_claim hc
 exact ⟨⟨x1,x2⟩,rfl,f1,l2⟩
end Go.TM.Ft
namespace Go.TM.Ft
open Go Go.TM Go.Proofs
set_option maxRecDepth 20000
attribute [local congr] gif_cg
attribute [local simp] footOf noClash clash upsets setsHit setHits layHits layMeets setsMeet evFeet seal4_iE seal4_set clean_iE
end Go.TM.Ft
namespace Go.TM.Ft
open Go Go.TM Go.Proofs
theorem sum_mem {α:Type} (w:α→Nat) (s:List α→Nat) (h0:∀ x r,s (x::r)=w x+s r):∀ {l:List α} {x:α},x∈l→w x≤s l
 | [],x,h=>by simp at h
 | y::l,x,h=>by
  rw [h0]
  rcases List.mem_cons.1 h with rfl | h
  ·omega
  ·have:=sum_mem w s h0 h; omega
theorem smE_of {e:Engine} (h:wEngine e≤1048576):SmE e:=by
 have h1:wsProc e.procs≤1048576:=by simp only [wEngine] at h; omega
 have h2:wsInst e.insts≤1048576:=by simp only [wEngine] at h; omega
 refine ⟨by simp only [wsProc] at h1; omega,by simp only [wsInst] at h2; omega,fun p hp=>?_,fun x hx=>?_⟩
 ·have hw:wProc p≤1048576:=by
   have:=sum_mem wProc sumProc (fun _ _=>rfl) hp
   simp only [wsProc] at h1; omega
  simp only [wProc,wsStep] at hw
  refine ⟨by omega,fun s hs=>?_⟩
  have:=sum_mem wStep sumStep (fun _ _=>rfl) hs
  simp only [wStep] at this
  exact ⟨by omega,by omega⟩
 ·have hw:wInst x≤1048576:=by
   have:=sum_mem wInst sumInst (fun _ _=>rfl) hx
   simp only [wsInst] at h2; omega
  simp only [wInst,wChart] at hw
  exact ⟨by omega,by omega,by omega⟩
end Go.TM.Ft
namespace Go.TM.Ft
open Go Go.TM Go.Proofs
theorem smD_of {d:Desk} (h:wDesk d≤1048576):SmD d:=⟨smE_of (by simp only [wDesk] at h; omega),by simp only [wDesk] at h; omega⟩
theorem cz_DeskResult (x:DeskR):czDeskResult x≤4*wDeskResult x:=by
 have:=cz_Desk x.desk
 simp only [czDeskResult,wDeskResult]; omega
theorem badD_w (k:Int):wDeskResult (badD k)≤100:=by simp [wDeskResult,badD,noD,wDesk,wEngine,wsProc,wsInst,sumProc,sumInst]
end Go.TM.Ft
namespace Go.TM.Ft
open Go Go.TM Go.Proofs
set_option maxRecDepth 20000
attribute [local congr] gif_cg
attribute [local simp] footOf noClash clash upsets setsHit setHits layHits layMeets setsMeet evFeet seal4_iE seal4_set clean_iE osealed_Node oclean_Node oclean_Proc oclean_Inst oclean_int oclean_Claim osealed_Claim
theorem claims_user {d:Desk}:∀ {rest:List Claim} {i:Nat},claimsM d i rest=0→∀ c,c∈rest→inR c.user 1 9=true
 | [],_,_,c,hc=>by simp at hc
 | x::rest,i,hz,c,hc=>by
  simp only [claimsM] at hz
  cases q:eqI (claimM d i x) 0
  ·rw [q] at hz; simp only [Bool.false_eq_true,if_false] at hz
   rw [hz] at q; simp [eqI] at q
  ·rw [q] at hz; simp only [if_true] at hz
   rcases List.mem_cons.1 hc with rfl | hc
   ·have e0:claimM d i c=0:=by simpa [eqI] using q
    unfold claimM at e0
    split at e0
    ·omega
    ·rename_i h
     cases h9:inR c.user 1 9
     ·rw [h9] at h; simp [orB,notB] at h
     ·rfl
   ·exact claims_user hz c hc
def takenM (d:Desk) (i s:Int):Int:=first2 (ci (hasM d.claims ⟨i,s,0⟩) 6) (ci (eqI (d.claims.length:Int) 60) 2)
def insM (l:List Claim) (p:Nat) (x:Claim):List Claim:=l.take p++x::l.drop p
def claimTM (d:Desk) (u i s:Int):DeskR:=
 if notB (eqI (taskM d u i s) 0)=true then badD (taskM d u i s)
 else if notB (eqI (takenM d i s) 0)=true then badD (takenM d i s)
 else ⟨0,0,⟨d.eng,insM d.claims (posM d.claims ⟨i,s,0⟩) ⟨i,s,u⟩⟩⟩
theorem f_InsertK (l:List Claim) (hl:l.length≤60) (p:Nat) (hp:p≤l.length) (x:Claim):
  fo 136 [⟨.ref 0 0 [] 0 l.length,some ⟨0,0,false,[.own 150 (l.map kT)]⟩⟩,A (vI (p:Nat)),A (.sl 150 [kT x])]=some ⟨.own 150 ((insM l p x).map kT),[],true⟩:=by
 refine orc_ext (g:=insT 150) rfl ?_
 have h1:=isV_kT l
 simp only [insT]
 rw [if_pos ⟨trivial,trivial,by simp,by omega,by omega,h1,rfl,by unfold maxElems; omega⟩]
 simp only [Int.toNat_natCast,insM,List.map_append,List.map_cons,List.map_take,List.map_drop]
theorem posM_le (l:List Claim) (x:Claim):posM l x≤l.length:=bsM_le l x _ _ _ (by omega)
set_option maxHeartbeats 4000000 in
theorem f_ClaimTask (d:Desk) (hf:FitE d.eng) (h:SmD d) (u i s:Int):fo 54 [A (.agg (dT d)),A (vI u),A (vI i),A (vI s)]=some (RDk (claimTM d u i s)):=by
 have hc:=h.claims
 have g1:=f_taskCode d hf (by omega) u i s
 have g2:=f_cloneD d h
 have hp:=posM_le d.claims ⟨i,s,0⟩
 unfold claimTM
 cases q:eqI (taskM d u i s) 0
 ·refine orc_54 1 ?_
  simp (maxSteps:=1000000) +contextual -dsimp [Tryz.f54,g1,q,badD,noD,List.set]
 ·have e0:taskM d u i s=0:=by simpa [eqI] using q
  rw [e0] at g1
  have h60:=(deskM_all (taskM_zero e0).1).2.1
  have h00:eqI 0 0=true:=rfl
  have g3:=f_claim d h60 i s
  have g4:=f_first2 (ci (hasM d.claims ⟨i,s,0⟩) 6) (ci (eqI (d.claims.length:Int) 60) 2)
  unfold takenM
  cases q2:eqI (first2 (ci (hasM d.claims ⟨i,s,0⟩) 6) (ci (eqI (d.claims.length:Int) 60) 2)) 0
  ·refine orc_54 1 ?_
   simp (maxSteps:=1000000) +contextual -dsimp [Tryz.f54,g1,h00,g3,f_ci,g4,q2,badD,noD,List.set]
  ·have g5:=f_InsertK d.claims h60 (posM d.claims ⟨i,s,0⟩) hp ⟨i,s,u⟩
   generalize posM d.claims ⟨i,s,0⟩=p at *
   generalize insM d.claims p ⟨i,s,u⟩=r at *
   have hcl:=oclean_Claim r
   refine orc_54 1 ?_
   simp (maxSteps:=1000000) +contextual -dsimp [Tryz.f54,g1,h00,g3,f_ci,g4,q2,g2,g5,hcl,List.set]
abbrev rt53 (d:Desk) (x:Claim):List (Nat × Root):=
 [(4,⟨1,1,true,dT d⟩),(8,⟨1,1,true,[vI 0,vI 0,.own 160 [],.own 163 [],vI 0,.own 150 []]⟩),(10,⟨1,1,true,DeskO d⟩),(11,⟨1,1,true,kT x⟩)]
set_option maxHeartbeats 4000000 in
theorem lp53 (d:Desk) (hl:d.claims.length≤60) (x:Claim) (p:Nat) (hp:p≤d.claims.length) (ha:∀ k (h:k < d.claims.length),k < p→aheadM d.claims[k] x=true) (hb:∀ h:p < d.claims.length,aheadM d.claims[p] x=false):∀ n k,k+n=p→
  evLoop E (orc E) (53:Nat) (n+1) (loopOf Tryz.f53 0) ⟨70,[(4,.ptr 4 1 [] 0),(8,.ptr 8 1 [] 0),(10,.ptr 10 1 [] 0),(11,.ptr 11 1 [] 0),(12,vI k)],rt53 d x,2⟩=
  some (.exit 0,⟨70,[(4,.ptr 4 1 [] 0),(8,.ptr 8 1 [] 0),(10,.ptr 10 1 [] 0),(11,.ptr 11 1 [] 0),(12,vI p),(50,vB false)],rt53 d x,2⟩)
 | 0,k,hk=>by
  obtain rfl:k=p:=by omega
  rw [loop_eq]
  by_cases hlt0:k < d.claims.length
  ·have hlt:ltI (k:Int) (d.claims.length:Int)=true:=ltI_t (by omega)
   have g:=f_l12Ahead d.claims[k] x
   rw [hb hlt0] at g
   simp (maxSteps:=1000000) +contextual -dsimp [Tryz.f53,hlt,hlt0,g,List.set]
  ·have hlt:ltI (k:Int) (d.claims.length:Int)=false:=ltI_f (by omega)
   simp (maxSteps:=1000000) +contextual -dsimp [Tryz.f53,hlt,List.set]
 | n+1,k,hk=>by
  have hlt0:k < d.claims.length:=by omega
  have hlt:ltI (k:Int) (d.claims.length:Int)=true:=ltI_t (by omega)
  have hw:IntKind.i64.wrap ((k:Int)+1)=((k+1:Nat):Int):=by rw [wrapI] <;> omega
  have g:=f_l12Ahead d.claims[k] x
  rw [ha k hlt0 (by omega)] at g
  have ih:=lp53 d hl x p hp ha hb n (k+1) (by omega)
  refine evLoop_next ?_ ih
  simp (maxSteps:=1000000) +contextual -dsimp [Tryz.f53,hlt,hlt0,g,hw,List.set]
theorem who_has {d:Desk} (h0:claimsM d 0 d.claims=0) (i s:Int):notB (eqI (whoM d.claims i s) 0)=hasM d.claims ⟨i,s,0⟩:=by
 obtain ⟨p1,p2⟩:=pos_who (sorted_of h0) i s
 cases q:hasM d.claims ⟨i,s,0⟩
 ·rw [p2 q]; rfl
 ·obtain ⟨w1,w2,_⟩:=p1 q
  rw [w2]
  have hu:=claims_user h0 (d.claims[posM d.claims ⟨i,s,0⟩]) (List.getElem_mem w1)
  have hcl:clAt d.claims (posM d.claims ⟨i,s,0⟩)=d.claims[posM d.claims ⟨i,s,0⟩]:=by simp [clAt,w1]
  rw [hcl]
  generalize (d.claims[posM d.claims ⟨i,s,0⟩]).user=v at *
  simp [inR,andB,leI] at hu
  simp [notB,eqI]; omega
theorem pos_ahead {l:List Claim} (hs:Sorted l) (i s u:Int):
  (∀ k (h:k < l.length),k < posM l ⟨i,s,0⟩→aheadM l[k] ⟨i,s,u⟩=true)∧(∀ h:posM l ⟨i,s,0⟩ < l.length,aheadM (l[posM l ⟨i,s,0⟩]) ⟨i,s,u⟩=false):=by
 obtain ⟨h1,h2⟩:=bsM_at (x:=⟨i,s,0⟩) hs l.length 0 l.length (by omega) (by omega) (by omega) (fun k _ h=>by omega) (fun k h h9=>by omega)
 refine ⟨fun k h hk=>(ahead_iff _ _).2 (h1 k h hk),fun h=>?_⟩
 have:=h2 _ h (Nat.le_refl _)
 cases q:aheadM (l[posM l ⟨i,s,0⟩]) ⟨i,s,u⟩
 ·rfl
 ·exact absurd ((ahead_iff _ _).1 q) this
set_option maxHeartbeats 4000000 in
theorem f4_ClaimTask (d:Desk) (hf:FitE d.eng) (h:SmD d) (u i s:Int):fo 53 [A (.agg (dT d)),A (vI u),A (vI i),A (vI s)]=some (RDk (claimTM d u i s)):=by
 have hc:=h.claims
 have g1:=f_l12Asked d hf (by omega) u i s
 have g2:=f_l12Bad (taskM d u i s)
 have g3:=f_l12Who d hc i s
 have g5:=f_l12Copy d h
 have b6:=f_l12Bad 6
 have b2:=f_l12Bad 2
 unfold claimTM
 cases q:eqI (taskM d u i s) 0
 ·refine orc_53 1 ?_
  simp (maxSteps:=1000000) +contextual -dsimp [Tryz.f53,g1,g2,q,badD,noD,List.set]
 ·have e0:taskM d u i s=0:=by simpa [eqI] using q
  rw [e0] at g1
  have hz:=deskM_all (taskM_zero e0).1
  have h60:=hz.2.1
  have h00:eqI 0 0=true:=rfl
  have hw:=who_has hz.2.2 i s
  cases q2:hasM d.claims ⟨i,s,0⟩
  ·rw [q2] at hw
   have hw0:eqI (whoM d.claims i s) 0=true:=by cases h9:eqI (whoM d.claims i s) 0 <;> simp_all [notB]
   cases q3:leI 60 (d.claims.length:Int)
   ·have e60:eqI (d.claims.length:Int) 60=false:=by simp [leI] at q3; simp [eqI]; omega
    have et:takenM d i s=0:=by simp [takenM,q2,e60,ci,first2,h00]
    rw [et]
    have hp:=posM_le d.claims ⟨i,s,0⟩
    obtain ⟨a1,a2⟩:=pos_ahead (sorted_of hz.2.2) i s u
    have hlp:=lp53 d h60 ⟨i,s,u⟩ (posM d.claims ⟨i,s,0⟩) hp a1 a2 (posM d.claims ⟨i,s,0⟩) 0 (by omega)
    simp only [h00,notB,Bool.not_true,Bool.false_eq_true,if_false]
    unfold insM
    generalize posM d.claims ⟨i,s,0⟩=p at *
    have hp2:(p:Int)≤(d.claims.length:Int):=by omega
    have o1:=one_kT d.claims
    have o2:(((d.claims.map kT).take p).all fun c=>c.all one1)=true:=by rw [← List.map_take]; exact one_kT _
    have o3:(((d.claims.map kT).drop p).all fun c=>c.all one1)=true:=by rw [← List.map_drop]; exact one_kT _
    have m1:min p d.claims.length=p:=by omega
    have m2:p≤maxElems:=by unfold maxElems; omega
    have m3:p+1≤maxElems:=by unfold maxElems; omega
    have m4:p+1+(d.claims.length - p)≤maxElems:=by unfold maxElems; omega
    have m5:((d.claims.map kT).drop p).take (d.claims.length - p)=(d.claims.map kT).drop p:=List.take_of_length_le (by simp)
    have hcl:=oclean_Claim (d.claims.take p++⟨i,s,u⟩::d.claims.drop p)
    simp only [List.map_append,List.map_cons,List.map_take,List.map_drop] at hcl
    refine orc_53 (p+1) ?_
    simp -dsimp [Tryz.f53] at hlp
    simp (maxSteps:=1000000) +contextual -dsimp [Tryz.f53,g1,h00,g3,hw0,q3,g5,hlp,hp,hp2,o2,o3,m1,m2,m3,m4,m5,hcl,List.map_append,List.map_cons,List.map_take,List.map_drop,List.set]
   ·have e60:eqI (d.claims.length:Int) 60=true:=by simp [leI] at q3; simp [eqI]; omega
    have et:takenM d i s=2:=by simp [takenM,q2,e60,ci,first2,h00]
    rw [et]
    have h20:eqI 2 0=false:=rfl
    refine orc_53 1 ?_
    simp (maxSteps:=1000000) +contextual -dsimp [Tryz.f53,g1,h00,g3,hw0,q3,b2,h20,badD,noD,List.set]
  ·rw [q2] at hw
   have hw0:eqI (whoM d.claims i s) 0=false:=by cases h9:eqI (whoM d.claims i s) 0 <;> simp_all [notB]
   have h60':eqI 6 0=false:=rfl
   have et:takenM d i s=6:=by simp [takenM,q2,ci,first2,h60']
   rw [et]
   refine orc_53 1 ?_
   simp (maxSteps:=1000000) +contextual -dsimp [Tryz.f53,g1,h00,g3,hw0,b6,h60',badD,noD,List.set]
end Go.TM.Ft
namespace Go.TM.Ft
open Go Go.TM Go.Proofs
theorem claimTM_w (d:Desk) (u i s:Int):wDeskResult (claimTM d u i s)≤wDesk d+100:=by
 unfold claimTM
 split
 ·have:=badD_w (taskM d u i s); omega
 ·split
  ·have:=badD_w (takenM d i s); omega
  ·simp only [wDeskResult,wDesk,insM,List.length_append,List.length_take,List.length_cons,List.length_drop]; omega
end Go.TM.Ft
namespace Go.TM.Ft
open Go Go.TM Go.Proofs
set_option maxRecDepth 20000
attribute [local congr] gif_cg
attribute [local simp] footOf noClash clash upsets setsHit setHits layHits layMeets setsMeet evFeet seal4_iE seal4_set clean_iE
set_option maxHeartbeats 16000000 in
theorem f_LawClaim (d:Desk) (h_d:FitD d) (user:Int) (inst:Int) (step:Int):
  fo 9 [A (.agg (dTl d)),A (vI user),A (vI inst),A (vI step)]=some (R (vB true)):=by
 have s0:=g_szDesk d (1048576) (by omega) (by omega) (fw_desk h_d)
 cases c0:ltI (subM (1048576) (wDesk d)) 0
 rotate_left
 ·refine orc_9 1 ?_
  simp (maxSteps:=1000000) +contextual -dsimp [Tryz.f9,s0,c0,List.set]
 obtain ⟨p0,e0⟩:=sub_f c0
 rw [e0] at s0 c0
 have v0:wDesk d≤1048576:=by omega
 have o0:=o_toDesk d v0
 have q0:=g_eqDesk d (by omega)
 have b0:=cz_Desk d
 have r1:=f4_ClaimTask d h_d.eng (smD_of v0) user inst step
 have r2:=f_ClaimTask d h_d.eng (smD_of v0) user inst step
 have hw:wDeskResult (claimTM d user inst step)≤2097152:=(by have:=claimTM_w d user inst step; omega)
 generalize claimTM d user inst step=x at *
 have bx:=cz_DeskResult x
 have qx:=g_eqDeskResult x hw
 obtain ⟨d0,m0⟩:=o_markDesk d (1) (by omega) (by omega) (by omega)
 obtain ⟨dx,mx⟩:=o_markDeskResult x 1 (by omega) (by omega) hw
 have hx:=o_heldDeskResult x 1 (by omega) (by omega) hw
 rw [show (T.agg (drT (mzDeskResult 1 x)):T)=.agg [vI x.code,vI x.value,.sl 160 ((mzDeskResult 1 x).desk.eng.procs.map (pT 124 219)),.sl 163 ((mzDeskResult 1 x).desk.eng.insts.map xT),vI x.desk.eng.now,.sl 150 ((mzDeskResult 1 x).desk.claims.map kT)] from rfl] at hx
 have n1:ltI (1+(czDesk d:Nat)) 0=false:=ltI_f (by omega)
 have n2:ltI (1+(czDeskResult x:Nat)) 0=false:=ltI_f (by omega)
 generalize 1+(czDesk d:Int)=a0 at *
 generalize mzDesk 1 d=y0 at *
 generalize 1+(czDeskResult x:Int)=ax at *
 generalize mzDeskResult 1 x=y at *
 have t0:=osealed_Proc d.eng.procs
 have t1:=osealed_Inst d.eng.insts
 have t2:=osealed_Claim d.claims
 have t3:=osealed_Proc x.desk.eng.procs
 have t4:=osealed_Inst x.desk.eng.insts
 have t5:=osealed_Claim x.desk.claims
 have t6:=osealed_Proc y.desk.eng.procs
 have t7:=osealed_Inst y.desk.eng.insts
 have t8:=osealed_Claim y.desk.claims
 refine orc_9 1 ?_
 simp (maxSteps:=4000000) +contextual -dsimp [Tryz.f9,s0,c0,o0,q0,m0,r1,r2,qx,mx,hx,n1,n2,t0,t1,t2,t3,t4,t5,t6,t7,t8,eqI_self,lendEff,lendOne,lendMany,firstRef,lendRow,lendCell,putRow,putBack,valArg,List.set]
end Go.TM.Ft
