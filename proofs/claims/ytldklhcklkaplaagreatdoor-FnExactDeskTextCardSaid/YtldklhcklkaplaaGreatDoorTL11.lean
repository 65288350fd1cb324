/- What functions of the program come to, by the machine. -/
import Derived.Test.YtldklhcklkaplaaGreatDoorTL8
import Derived.Test.YtldklhcklkaplaaGreatDoorTL10
set_option linter.unusedSimpArgs false
set_option linter.unusedVariables false
set_option maxHeartbeats 8000000
namespace Go.TM.It
open Go Go.TM Go.Proofs
set_option maxRecDepth 20000
attribute [local congr] gif_cg
attribute [local simp] footOf noClash clash upsets setsHit setHits layHits layMeets setsMeet evFeet
abbrev zI:List T:=[vI 0]
theorem gseal_int (l:List Int):sealEs (l.map iV)=l.map iV:=sealEs_map (f:=iV) (g:=iV) (fun a=>by simp[sealL,seal_]) l
theorem ltointS (all:List Int) (hall:all.length≤1048576):∀ (rest:List Int) (i:Nat) (es:List (List T)),all.drop i=rest→es.length=all.length→(∀ j,i≤j→j<all.length→es[j]?=some zI)→
  evLoop E (orc E) (100:Nat) (rest.length+1) (loopOf Tryz.f100 0) ⟨22,[(0,.sl 2 (all.map iV)),(3,.ref 3 1 [] 0 all.length),(4,vI i)],[(3,⟨1,1,false,[.own 2 es]⟩)],2⟩=
  some (.exit 0,⟨22,[(0,.sl 2 (all.map iV)),(3,.ref 3 1 [] 0 all.length),(4,vI (i+rest.length:Nat)),(11,vB false)],[(3,⟨1,1,false,[.own 2 (es.take i++rest.map iV)]⟩)],2⟩)
 | [],i,es,h,hl,hz=>by
  have hge:all.length≤i:=by simpa using h
  have hlt:ltI (i:Int) (all.length:Int)=false:=ltI_f (by omega)
  have ht:es.take i=es:=List.take_of_length_le (by omega)
  rw[loop_eq]
  simp +contextual -dsimp [Tryz.f100,hlt,ht]
 | x::rest,i,es,h,hl,hz=>by
  obtain⟨hi,hc,hr⟩:=drop_cons h
  have hlt:ltI (i:Int) (all.length:Int)=true:=ltI_t (by omega)
  have hw:IntKind.i64.wrap ((i:Int)+1)=((i+1:Nat):Int):=by rw[wrapI]<;>omega
  have hi2:i<es.length:=by omega
  have hz1:es[i]=zI:=by
   have:=hz i (Nat.le_refl _) hi
   rw[List.getElem?_eq_getElem hi2] at this
   simpa using this
  have ih:=ltointS all hall rest (i+1) (es.set i (iV x)) hr (by simpa using hl) (fun j hj hj2=>by
   rw[List.getElem?_set_ne (by omega)]
   exact hz j (by omega) hj2)
  have he:i+1+rest.length=i+(rest.length+1):=by omega
  have hes:(es.set i (iV x)).take (i+1)=es.take i++[iV x]:=by
   rw[List.take_add_one,List.take_set_of_le (Nat.le_refl _)]
   simp[hi2]
  rw[he,hes,List.append_assoc] at ih
  refine evLoop_next ?_ (by simpa only[List.length_cons,List.map_cons,List.singleton_append] using ih)
  simp (maxSteps:=1000000) +contextual -dsimp [Tryz.f100,hlt,hi,hc,hw,hz1,hl,List.set]
theorem g_tointS (l:List Int) (hl:l.length≤1048576):∃ b,fo 100 [A (.sl 2 (l.map iV))]=some ⟨.own 2 (l.map iV),[],b⟩:=by
 have hm:(l.length:Int)≤(maxElems:Nat):=by unfold maxElems;omega
 have hlp:=ltointS l hl l 0 (List.replicate l.length zI) rfl (by simp) (fun j _ hj=>by simp[hj])
 refine⟨cleanEs (l.map iV),orc_100 (l.length+1) ?_⟩
 simp -dsimp [Tryz.f100] at hlp
 simp (maxSteps:=1000000) +contextual -dsimp [Tryz.f100,hm,hlp,List.set]
theorem g_toNode (x:Node):fo 147 [A (.agg (nT x))]=some ⟨.agg (nT x),[],true⟩:=by
 refine orc_147 1 ?_
 simp (maxSteps:=1000000) +contextual -dsimp [Tryz.f147,List.set]
theorem gseal_Node (l:List Node):sealEs (l.map nT)=l.map nT:=sealEs_map (f:=nT) (g:=nT) (fun a=>by simp[sealL,seal_]) l
theorem ltoNodeS (all:List Node) (hall:all.length≤1048576):∀ (rest:List Node) (i:Nat) (es:List (List T)),all.drop i=rest→es.length=all.length→(∀ j,i≤j→j<all.length→es[j]?=some [vI 0,vI 0,vI 0,vI 0])→
  evLoop E (orc E) (126:Nat) (rest.length+1) (loopOf Tryz.f126 0) ⟨23,[(0,.sl 211 (all.map nT)),(3,.ref 3 1 [] 0 all.length),(4,vI i)],[(3,⟨1,1,false,[.own 206 es]⟩)],2⟩=
  some (.exit 0,⟨23,[(0,.sl 211 (all.map nT)),(3,.ref 3 1 [] 0 all.length),(4,vI (i+rest.length:Nat)),(11,vB false)],[(3,⟨1,1,false,[.own 206 (es.take i++rest.map nT)]⟩)],2⟩)
 | [],i,es,h,hl,hz=>by
  have hge:all.length≤i:=by simpa using h
  have hlt:ltI (i:Int) (all.length:Int)=false:=ltI_f (by omega)
  have ht:es.take i=es:=List.take_of_length_le (by omega)
  rw[loop_eq]
  simp +contextual -dsimp [Tryz.f126,hlt,ht]
 | x::rest,i,es,h,hl,hz=>by
  obtain⟨hi,hc,hr⟩:=drop_cons h
  have hlt:ltI (i:Int) (all.length:Int)=true:=ltI_t (by omega)
  have hw:IntKind.i64.wrap ((i:Int)+1)=((i+1:Nat):Int):=by rw[wrapI]<;>omega
  have hi2:i<es.length:=by omega
  have hz1:es[i]=[vI 0,vI 0,vI 0,vI 0]:=by
   have:=hz i (Nat.le_refl _) hi
   rw[List.getElem?_eq_getElem hi2] at this
   simpa using this
  have ih:=ltoNodeS all hall rest (i+1) (es.set i (nT x)) hr (by simpa using hl) (fun j hj hj2=>by
   rw[List.getElem?_set_ne (by omega)]
   exact hz j (by omega) hj2)
  have he:i+1+rest.length=i+(rest.length+1):=by omega
  have hes:(es.set i (nT x)).take (i+1)=es.take i++[nT x]:=by
   rw[List.take_add_one,List.take_set_of_le (Nat.le_refl _)]
   simp[hi2]
  rw[he,hes,List.append_assoc] at ih
  have g:=g_toNode x
  refine evLoop_next ?_ (by simpa only[List.length_cons,List.map_cons,List.singleton_append] using ih)
  simp (maxSteps:=1000000) +contextual -dsimp [Tryz.f126,hlt,hi,hc,hw,hz1,hl,g,List.set]
theorem g_toNodeS (l:List Node) (hl:l.length≤1048576):∃ b,fo 126 [A (.sl 211 (l.map nT))]=some ⟨.own 206 (l.map nT),[],b⟩:=by
 have hm:(l.length:Int)≤(maxElems:Nat):=by unfold maxElems;omega
 have hlp:=ltoNodeS l hl l 0 (List.replicate l.length [vI 0,vI 0,vI 0,vI 0]) rfl (by simp) (fun j _ hj=>by simp[hj])
 refine⟨cleanEs (l.map nT),orc_126 (l.length+1) ?_⟩
 simp -dsimp [Tryz.f126] at hlp
 simp (maxSteps:=1000000) +contextual -dsimp [Tryz.f126,hm,hlp,List.set]
theorem g_toStep (x:Step) (h:wStep x≤1048576):fo 99 [A (.agg (sT 211 x))]=some ⟨.agg (sT 206 x),[],false⟩:=by
 obtain⟨b4,g4⟩:=g_toNodeS x.cond (by simp only[wStep] at h;omega)
 have s4:=gseal_Node x.cond
 obtain⟨b5,g5⟩:=g_toNodeS x.expr (by simp only[wStep] at h;omega)
 have s5:=gseal_Node x.expr
 refine orc_99 1 ?_
 simp (maxSteps:=1000000) +contextual -dsimp [Tryz.f99,g4,s4,g5,s5,List.set]
theorem gseal_Step (l:List Step):sealEs (l.map (sT 206))=l.map (sT 206):=sealEs_map (f:=(sT 206)) (g:=(sT 206)) (fun a=>by simp[sealL,seal_]) l
theorem ltoStepS (all:List Step) (hall:all.length≤1048576) (hf:∀ x,x∈all→wStep x≤1048576):∀ (rest:List Step) (i:Nat) (es:List (List T)),all.drop i=rest→es.length=all.length→(∀ j,i≤j→j<all.length→es[j]?=some [vI 0,vI 0,vS emp,vI 0,.own 206 [],.own 206 []])→
  evLoop E (orc E) (81:Nat) (rest.length+1) (loopOf Tryz.f81 0) ⟨23,[(0,.sl 152 (all.map (sT 211))),(3,.ref 3 1 [] 0 all.length),(4,vI i)],[(3,⟨1,1,false,[.own 112 es]⟩)],2⟩=
  some (.exit 0,⟨23,[(0,.sl 152 (all.map (sT 211))),(3,.ref 3 1 [] 0 all.length),(4,vI (i+rest.length:Nat)),(11,vB false)],[(3,⟨1,1,false,[.own 112 (es.take i++rest.map (sT 206))]⟩)],2⟩)
 | [],i,es,h,hl,hz=>by
  have hge:all.length≤i:=by simpa using h
  have hlt:ltI (i:Int) (all.length:Int)=false:=ltI_f (by omega)
  have ht:es.take i=es:=List.take_of_length_le (by omega)
  rw[loop_eq]
  simp +contextual -dsimp [Tryz.f81,hlt,ht]
 | x::rest,i,es,h,hl,hz=>by
  obtain⟨hi,hc,hr⟩:=drop_cons h
  have hlt:ltI (i:Int) (all.length:Int)=true:=ltI_t (by omega)
  have hw:IntKind.i64.wrap ((i:Int)+1)=((i+1:Nat):Int):=by rw[wrapI]<;>omega
  have hi2:i<es.length:=by omega
  have hz1:es[i]=[vI 0,vI 0,vS emp,vI 0,.own 206 [],.own 206 []]:=by
   have:=hz i (Nat.le_refl _) hi
   rw[List.getElem?_eq_getElem hi2] at this
   simpa using this
  have ih:=ltoStepS all hall hf rest (i+1) (es.set i (sT 206 x)) hr (by simpa using hl) (fun j hj hj2=>by
   rw[List.getElem?_set_ne (by omega)]
   exact hz j (by omega) hj2)
  have he:i+1+rest.length=i+(rest.length+1):=by omega
  have hes:(es.set i (sT 206 x)).take (i+1)=es.take i++[sT 206 x]:=by
   rw[List.take_add_one,List.take_set_of_le (Nat.le_refl _)]
   simp[hi2]
  rw[he,hes,List.append_assoc] at ih
  have g:=g_toStep x (hf x (by rw[←hc];exact List.getElem_mem _))
  refine evLoop_next ?_ (by simpa only[List.length_cons,List.map_cons,List.singleton_append] using ih)
  simp (maxSteps:=1000000) +contextual -dsimp [Tryz.f81,hlt,hi,hc,hw,hz1,hl,g,List.set]
theorem g_toStepS (l:List Step) (hl:l.length≤1048576) (hf:∀ x,x∈l→wStep x≤1048576):∃ b,fo 81 [A (.sl 152 (l.map (sT 211)))]=some ⟨.own 112 (l.map (sT 206)),[],b⟩:=by
 have hm:(l.length:Int)≤(maxElems:Nat):=by unfold maxElems;omega
 have hlp:=ltoStepS l hl hf l 0 (List.replicate l.length [vI 0,vI 0,vS emp,vI 0,.own 206 [],.own 206 []]) rfl (by simp) (fun j _ hj=>by simp[hj])
 refine⟨cleanEs (l.map (sT 206)),orc_81 (l.length+1) ?_⟩
 simp -dsimp [Tryz.f81] at hlp
 simp (maxSteps:=1000000) +contextual -dsimp [Tryz.f81,hm,hlp,List.set]
theorem g_toProc (x:List Step) (h:wProc x≤1048576):fo 60 [A (.agg (pT 152 211 x))]=some ⟨.agg (pT 112 206 x),[],false⟩:=by
 obtain⟨b0,g0⟩:=g_toStepS x (by simp only[wProc,wsStep] at h;omega) (fun y hy=>by have:=sumStep_mem hy;simp only[wProc,wsStep] at h;omega)
 have s0:=gseal_Step x
 refine orc_60 1 ?_
 simp (maxSteps:=1000000) +contextual -dsimp [Tryz.f60,g0,s0,List.set]
theorem gseal_Proc (l:List (List Step)):sealEs (l.map (pT 112 206))=l.map (pT 112 206):=sealEs_map (f:=(pT 112 206)) (g:=(pT 112 206)) (fun a=>by simp[sealL,seal_]) l
theorem ltoProcS (all:List (List Step)) (hall:all.length≤1048576) (hf:∀ x,x∈all→wProc x≤1048576):∀ (rest:List (List Step)) (i:Nat) (es:List (List T)),all.drop i=rest→es.length=all.length→(∀ j,i≤j→j<all.length→es[j]?=some [.own 112 []])→
  evLoop E (orc E) (38:Nat) (rest.length+1) (loopOf Tryz.f38 0) ⟨23,[(0,.sl 103 (all.map (pT 152 211))),(3,.ref 3 1 [] 0 all.length),(4,vI i)],[(3,⟨1,1,false,[.own 82 es]⟩)],2⟩=
  some (.exit 0,⟨23,[(0,.sl 103 (all.map (pT 152 211))),(3,.ref 3 1 [] 0 all.length),(4,vI (i+rest.length:Nat)),(11,vB false)],[(3,⟨1,1,false,[.own 82 (es.take i++rest.map (pT 112 206))]⟩)],2⟩)
 | [],i,es,h,hl,hz=>by
  have hge:all.length≤i:=by simpa using h
  have hlt:ltI (i:Int) (all.length:Int)=false:=ltI_f (by omega)
  have ht:es.take i=es:=List.take_of_length_le (by omega)
  rw[loop_eq]
  simp +contextual -dsimp [Tryz.f38,hlt,ht]
 | x::rest,i,es,h,hl,hz=>by
  obtain⟨hi,hc,hr⟩:=drop_cons h
  have hlt:ltI (i:Int) (all.length:Int)=true:=ltI_t (by omega)
  have hw:IntKind.i64.wrap ((i:Int)+1)=((i+1:Nat):Int):=by rw[wrapI]<;>omega
  have hi2:i<es.length:=by omega
  have hz1:es[i]=[.own 112 []]:=by
   have:=hz i (Nat.le_refl _) hi
   rw[List.getElem?_eq_getElem hi2] at this
   simpa using this
  have ih:=ltoProcS all hall hf rest (i+1) (es.set i (pT 112 206 x)) hr (by simpa using hl) (fun j hj hj2=>by
   rw[List.getElem?_set_ne (by omega)]
   exact hz j (by omega) hj2)
  have he:i+1+rest.length=i+(rest.length+1):=by omega
  have hes:(es.set i (pT 112 206 x)).take (i+1)=es.take i++[pT 112 206 x]:=by
   rw[List.take_add_one,List.take_set_of_le (Nat.le_refl _)]
   simp[hi2]
  rw[he,hes,List.append_assoc] at ih
  have g:=g_toProc x (hf x (by rw[←hc];exact List.getElem_mem _))
  refine evLoop_next ?_ (by simpa only[List.length_cons,List.map_cons,List.singleton_append] using ih)
  simp (maxSteps:=1000000) +contextual -dsimp [Tryz.f38,hlt,hi,hc,hw,hz1,hl,g,List.set]
theorem g_toProcS (l:List (List Step)) (hl:l.length≤1048576) (hf:∀ x,x∈l→wProc x≤1048576):∃ b,fo 38 [A (.sl 103 (l.map (pT 152 211)))]=some ⟨.own 82 (l.map (pT 112 206)),[],b⟩:=by
 have hm:(l.length:Int)≤(maxElems:Nat):=by unfold maxElems;omega
 have hlp:=ltoProcS l hl hf l 0 (List.replicate l.length [.own 112 []]) rfl (by simp) (fun j _ hj=>by simp[hj])
 refine⟨cleanEs (l.map (pT 112 206)),orc_38 (l.length+1) ?_⟩
 simp -dsimp [Tryz.f38] at hlp
 simp (maxSteps:=1000000) +contextual -dsimp [Tryz.f38,hm,hlp,List.set]
theorem g_toChart (x:Chart) (h:wChart x≤1048576):fo 82 [A (.agg (cT x))]=some ⟨.agg (cT x),[],false⟩:=by
 obtain⟨b2,g2⟩:=g_tointS x.vars (by simp only[wChart] at h;omega)
 have s2:=gseal_int x.vars
 obtain⟨b3,g3⟩:=g_tointS x.acts (by simp only[wChart] at h;omega)
 have s3:=gseal_int x.acts
 obtain⟨b4,g4⟩:=g_tointS x.dues (by simp only[wChart] at h;omega)
 have s4:=gseal_int x.dues
 refine orc_82 1 ?_
 simp (maxSteps:=1000000) +contextual -dsimp [Tryz.f82,g2,s2,g3,s3,g4,s4,List.set]
theorem g_toInst (x:Inst) (h:wInst x≤1048576):fo 61 [A (.agg (xT x))]=some ⟨.agg (xT x),[],false⟩:=by
 have g1:=g_toChart x.chart (by simp only[wInst] at h;omega)
 refine orc_61 1 ?_
 simp (maxSteps:=1000000) +contextual -dsimp [Tryz.f61,g1,List.set]
theorem gseal_Inst (l:List Inst):sealEs (l.map xT)=l.map xT:=sealEs_map (f:=xT) (g:=xT) (fun a=>by simp[sealL,seal_]) l
theorem ltoInstS (all:List Inst) (hall:all.length≤1048576) (hf:∀ x,x∈all→wInst x≤1048576):∀ (rest:List Inst) (i:Nat) (es:List (List T)),all.drop i=rest→es.length=all.length→(∀ j,i≤j→j<all.length→es[j]?=some [vI 0,vI 0,vI 0,.own 2 [],.own 2 [],.own 2 []])→
  evLoop E (orc E) (39:Nat) (rest.length+1) (loopOf Tryz.f39 0) ⟨23,[(0,.sl 107 (all.map xT)),(3,.ref 3 1 [] 0 all.length),(4,vI i)],[(3,⟨1,1,false,[.own 77 es]⟩)],2⟩=
  some (.exit 0,⟨23,[(0,.sl 107 (all.map xT)),(3,.ref 3 1 [] 0 all.length),(4,vI (i+rest.length:Nat)),(11,vB false)],[(3,⟨1,1,false,[.own 77 (es.take i++rest.map xT)]⟩)],2⟩)
 | [],i,es,h,hl,hz=>by
  have hge:all.length≤i:=by simpa using h
  have hlt:ltI (i:Int) (all.length:Int)=false:=ltI_f (by omega)
  have ht:es.take i=es:=List.take_of_length_le (by omega)
  rw[loop_eq]
  simp +contextual -dsimp [Tryz.f39,hlt,ht]
 | x::rest,i,es,h,hl,hz=>by
  obtain⟨hi,hc,hr⟩:=drop_cons h
  have hlt:ltI (i:Int) (all.length:Int)=true:=ltI_t (by omega)
  have hw:IntKind.i64.wrap ((i:Int)+1)=((i+1:Nat):Int):=by rw[wrapI]<;>omega
  have hi2:i<es.length:=by omega
  have hz1:es[i]=[vI 0,vI 0,vI 0,.own 2 [],.own 2 [],.own 2 []]:=by
   have:=hz i (Nat.le_refl _) hi
   rw[List.getElem?_eq_getElem hi2] at this
   simpa using this
  have ih:=ltoInstS all hall hf rest (i+1) (es.set i (xT x)) hr (by simpa using hl) (fun j hj hj2=>by
   rw[List.getElem?_set_ne (by omega)]
   exact hz j (by omega) hj2)
  have he:i+1+rest.length=i+(rest.length+1):=by omega
  have hes:(es.set i (xT x)).take (i+1)=es.take i++[xT x]:=by
   rw[List.take_add_one,List.take_set_of_le (Nat.le_refl _)]
   simp[hi2]
  rw[he,hes,List.append_assoc] at ih
  have g:=g_toInst x (hf x (by rw[←hc];exact List.getElem_mem _))
  refine evLoop_next ?_ (by simpa only[List.length_cons,List.map_cons,List.singleton_append] using ih)
  simp (maxSteps:=1000000) +contextual -dsimp [Tryz.f39,hlt,hi,hc,hw,hz1,hl,g,List.set]
theorem g_toInstS (l:List Inst) (hl:l.length≤1048576) (hf:∀ x,x∈l→wInst x≤1048576):∃ b,fo 39 [A (.sl 107 (l.map xT))]=some ⟨.own 77 (l.map xT),[],b⟩:=by
 have hm:(l.length:Int)≤(maxElems:Nat):=by unfold maxElems;omega
 have hlp:=ltoInstS l hl hf l 0 (List.replicate l.length [vI 0,vI 0,vI 0,.own 2 [],.own 2 [],.own 2 []]) rfl (by simp) (fun j _ hj=>by simp[hj])
 refine⟨cleanEs (l.map xT),orc_39 (l.length+1) ?_⟩
 simp -dsimp [Tryz.f39] at hlp
 simp (maxSteps:=1000000) +contextual -dsimp [Tryz.f39,hm,hlp,List.set]
theorem g_toClaim (x:Claim):fo 40 [A (.agg (kT x))]=some ⟨.agg (kT x),[],true⟩:=by
 refine orc_40 1 ?_
 simp (maxSteps:=1000000) +contextual -dsimp [Tryz.f40,List.set]
theorem gseal_Claim (l:List Claim):sealEs (l.map kT)=l.map kT:=sealEs_map (f:=kT) (g:=kT) (fun a=>by simp[sealL,seal_]) l
theorem ltoClaimS (all:List Claim) (hall:all.length≤1048576):∀ (rest:List Claim) (i:Nat) (es:List (List T)),all.drop i=rest→es.length=all.length→(∀ j,i≤j→j<all.length→es[j]?=some [vI 0,vI 0,vI 0])→
  evLoop E (orc E) (19:Nat) (rest.length+1) (loopOf Tryz.f19 0) ⟨23,[(0,.sl 88 (all.map kT)),(3,.ref 3 1 [] 0 all.length),(4,vI i)],[(3,⟨1,1,false,[.own 68 es]⟩)],2⟩=
  some (.exit 0,⟨23,[(0,.sl 88 (all.map kT)),(3,.ref 3 1 [] 0 all.length),(4,vI (i+rest.length:Nat)),(11,vB false)],[(3,⟨1,1,false,[.own 68 (es.take i++rest.map kT)]⟩)],2⟩)
 | [],i,es,h,hl,hz=>by
  have hge:all.length≤i:=by simpa using h
  have hlt:ltI (i:Int) (all.length:Int)=false:=ltI_f (by omega)
  have ht:es.take i=es:=List.take_of_length_le (by omega)
  rw[loop_eq]
  simp +contextual -dsimp [Tryz.f19,hlt,ht]
 | x::rest,i,es,h,hl,hz=>by
  obtain⟨hi,hc,hr⟩:=drop_cons h
  have hlt:ltI (i:Int) (all.length:Int)=true:=ltI_t (by omega)
  have hw:IntKind.i64.wrap ((i:Int)+1)=((i+1:Nat):Int):=by rw[wrapI]<;>omega
  have hi2:i<es.length:=by omega
  have hz1:es[i]=[vI 0,vI 0,vI 0]:=by
   have:=hz i (Nat.le_refl _) hi
   rw[List.getElem?_eq_getElem hi2] at this
   simpa using this
  have ih:=ltoClaimS all hall rest (i+1) (es.set i (kT x)) hr (by simpa using hl) (fun j hj hj2=>by
   rw[List.getElem?_set_ne (by omega)]
   exact hz j (by omega) hj2)
  have he:i+1+rest.length=i+(rest.length+1):=by omega
  have hes:(es.set i (kT x)).take (i+1)=es.take i++[kT x]:=by
   rw[List.take_add_one,List.take_set_of_le (Nat.le_refl _)]
   simp[hi2]
  rw[he,hes,List.append_assoc] at ih
  have g:=g_toClaim x
  refine evLoop_next ?_ (by simpa only[List.length_cons,List.map_cons,List.singleton_append] using ih)
  simp (maxSteps:=1000000) +contextual -dsimp [Tryz.f19,hlt,hi,hc,hw,hz1,hl,g,List.set]
theorem g_toClaimS (l:List Claim) (hl:l.length≤1048576):∃ b,fo 19 [A (.sl 88 (l.map kT))]=some ⟨.own 68 (l.map kT),[],b⟩:=by
 have hm:(l.length:Int)≤(maxElems:Nat):=by unfold maxElems;omega
 have hlp:=ltoClaimS l hl l 0 (List.replicate l.length [vI 0,vI 0,vI 0]) rfl (by simp) (fun j _ hj=>by simp[hj])
 refine⟨cleanEs (l.map kT),orc_19 (l.length+1) ?_⟩
 simp -dsimp [Tryz.f19] at hlp
 simp (maxSteps:=1000000) +contextual -dsimp [Tryz.f19,hm,hlp,List.set]
theorem g_toEngine (x:Engine) (h:wEngine x≤1048576):fo 18 [A (.agg (eTl x))]=some ⟨.agg (eT x),[],false⟩:=by
 obtain⟨b0,g0⟩:=g_toProcS x.procs (by simp only[wEngine,wsProc] at h;omega) (fun y hy=>by have:=sumProc_mem hy;simp only[wEngine,wsProc] at h;omega)
 have s0:=gseal_Proc x.procs
 obtain⟨b1,g1⟩:=g_toInstS x.insts (by simp only[wEngine,wsInst] at h;omega) (fun y hy=>by have:=sumInst_mem hy;simp only[wEngine,wsInst] at h;omega)
 have s1:=gseal_Inst x.insts
 refine orc_18 1 ?_
 simp (maxSteps:=1000000) +contextual -dsimp [Tryz.f18,g0,s0,g1,s1,List.set]
theorem g_toDesk (x:Desk) (h:wDesk x≤1048576):fo 7 [A (.agg (dTl x))]=some ⟨.agg (dT x),[],false⟩:=by
 have g0:=g_toEngine x.eng (by simp only[wDesk] at h;omega)
 obtain⟨b1,g1⟩:=g_toClaimS x.claims (by simp only[wDesk] at h;omega)
 have s1:=gseal_Claim x.claims
 refine orc_7 1 ?_
 simp (maxSteps:=1000000) +contextual -dsimp [Tryz.f7,g0,g1,s1,List.set]
theorem f_lineI (d:Desk) (hf:DeskF d) (hu:∀ c,c∈d.claims→1≤c.user∧c.user≤9) (k:Nat) (hk:k<d.eng.insts.length):fo 24 [A (.agg (dT d)),A (vI k)]=some (R (vS (lineOf d k))):=by
 have hx:d.eng.insts[k]∈d.eng.insts:=List.getElem_mem hk
 obtain⟨⟨a,ha,h1,h2,h3,h4⟩,h5,h6,h7⟩:=hf.insts _ hx
 have hn:=hf.ni
 have g:=f_i24 d hf hu k hk (by omega) _ rfl a h1 ha h3 h4 h5 h6 h7
 unfold lineOf
 rw[List.getElem?_eq_getElem hk]
 simp only[h2]
 exact g
theorem lp28 (d:Desk) (hf:DeskF d) (hu:∀ c,c∈d.claims→1≤c.user∧c.user≤9):∀ (n i:Nat) (acc:ByteArray),i+n=d.eng.insts.length→acc.size+1000000*n≤100000000→
  evLoop E (orc E) (28:Nat) (n+1) (loopOf Tryz.f28 0) ⟨25,[(1,.ptr 1 1 [] 0),(3,vS acc),(14,vI d.eng.insts.length),(15,vI i)],[(1,⟨1,1,true,dT d⟩)],2⟩=
  some (.exit 0,⟨25,[(1,.ptr 1 1 [] 0),(3,vS (catL d acc i n)),(14,vI d.eng.insts.length),(15,vI d.eng.insts.length),(16,vB false)],[(1,⟨1,1,true,dT d⟩)],2⟩)
 | 0,i,acc,h,hs=>by
  simp only[Nat.add_zero] at h
  subst h
  have hlt:ltI (d.eng.insts.length:Int) (d.eng.insts.length:Int)=false:=ltI_f (by omega)
  rw[loop_eq]
  simp +contextual -dsimp [Tryz.f28,hlt,catL]
 | n+1,i,acc,h,hs=>by
  have hi:i<d.eng.insts.length:=by omega
  have hn:=hf.ni
  obtain⟨j,ej⟩:∃ j,j=i+1:=⟨_,rfl⟩
  have hlt:ltI (i:Int) (d.eng.insts.length:Int)=true:=ltI_t (by omega)
  have hw:IntKind.i64.wrap ((i:Int)+1)=(j:Int):=by rw[wrapI]<;>omega
  have hz:=line_size d hf i
  have g:=f_lineI d hf hu i hi
  have p1:=fun o1 o2=>pr_addS Tryz.prog 9 o1 o2 acc (lineOf d i) (by omega)
  have ih:=lp28 d hf hu n j (acc++lineOf d i) (by omega) (by rw[ByteArray.size_append];omega)
  have e:catL d acc i (n+1)=catL d (acc++lineOf d i) j n:=by rw[ej];rfl
  rw[e]
  refine evLoop_next ?_ ih
  simp (maxSteps:=1000000) +contextual -dsimp [Tryz.f28,hlt,hw,g,p1,List.set]
theorem f_text (d:Desk) (hf:DeskF d) (hu:∀ c,c∈d.claims→1≤c.user∧c.user≤9):fo 28 [A (.agg (dT d))]=some (R (vS (textM d))):=by
 have hn:=hf.ni
 have hnow:=hf.now
 have g:=ext_46 d.eng.now (by omega) (by omega)
 have z:=decB_size d.eng.now (by omega) (by omega)
 have e1:(⟨#[110,111,119,32]⟩:ByteArray).size=4:=rfl
 have e2:(⟨#[10]⟩:ByteArray).size=1:=rfl
 have p1:=fun o1 o2=>pr_addS Tryz.prog 9 o1 o2 ⟨#[110,111,119,32]⟩ (decB d.eng.now) (by rw[e1];omega)
 have p2:=fun o1 o2=>pr_addS Tryz.prog 9 o1 o2 (⟨#[110,111,119,32]⟩++decB d.eng.now) ⟨#[10]⟩ (by rw[ByteArray.size_append,e1,e2];omega)
 have lp:=lp28 d hf hu d.eng.insts.length 0 (⟨#[110,111,119,32]⟩++decB d.eng.now++⟨#[10]⟩) (by omega) (by simp only[ByteArray.size_append,e1,e2];omega)
 simp -dsimp [Tryz.f28] at lp
 have e3:textM d=catL d (⟨#[110,111,119,32]⟩++decB d.eng.now++⟨#[10]⟩) 0 d.eng.insts.length:=rfl
 rw[e3]
 refine orc_28 (d.eng.insts.length+1) ?_
 simp (maxSteps:=1000000) +contextual -dsimp [Tryz.f28,g,p1,p2,lp,List.set]
theorem usersF {d:Desk} (h:deskM d=0):∀ c,c∈d.claims→1≤c.user∧c.user≤9:=users_of (deskM_all h).2.2
theorem f_InstText (d:Desk) (hf:FitE d.eng) (hc:d.claims.length<2 ^ 62) (i:Int):fo 8 [A (.agg (dT d)),A (vI i)]=some (RT (instTM d i)):=by
 have g0:=f_DeskFault d hf hc
 have g1:=f_isPlace i d.eng.insts.length hf.ni
 have g3:=f_first2 (deskM d) (ci (notB (inR i 0 ((d.eng.insts.length:Int) - 1))) 3)
 unfold instTM
 cases q0:eqI (deskM d) 0
 ·have e:first2 (deskM d) (ci (notB (inR i 0 ((d.eng.insts.length:Int) - 1))) 3)=deskM d:=by unfold first2;rw[q0];rfl
  rw[e] at g3
  refine orc_8 1 ?_
  simp (maxSteps:=1000000) +contextual -dsimp [Tryz.f8,g0,g1,f_ci,g3,q0,List.set]
 ·have h0:deskM d=0:=by simpa[eqI] using q0
  cases q1:inR i 0 ((d.eng.insts.length:Int) - 1)
  ·have e1:ci true 3=3:=rfl
   have e2:eqI 3 0=false:=rfl
   have g4:fo 20 [A (.sl 2 [[vI (deskM d)],[vI 3]])]=some (R (vI 3)):=(f_first2 (deskM d) 3).trans (by unfold first2;rw[q0];rfl)
   rw[q1] at g1
   clear g3
   refine orc_8 1 ?_
   simp (maxSteps:=1000000) +contextual -dsimp [Tryz.f8,g0,g1,f_ci,g4,e1,e2,List.set]
  ·have q1':=q1
   obtain⟨k,rfl,hk⟩:=inR_nat1 q1'
   have g2:=f_lineI d (deskF h0) (usersF h0) k hk
   have e1:ci false 3=0:=rfl
   have e2:eqI 0 0=true:=rfl
   have g4:fo 20 [A (.sl 2 [[vI (deskM d)],[vI 0]])]=some (R (vI 0)):=(f_first2 (deskM d) 0).trans (by unfold first2;rw[q0];rfl)
   rw[q1] at g1
   clear g3
   refine orc_8 1 ?_
   simp (maxSteps:=1000000) +contextual -dsimp [Tryz.f8,g0,g1,f_ci,g2,g4,e1,e2,List.set]
theorem f_DeskText (d:Desk) (hf:FitE d.eng) (hc:d.claims.length<2 ^ 62):fo 12 [A (.agg (dT d))]=some (RT (deskTM d)):=by
 have g0:=f_DeskFault d hf hc
 unfold deskTM
 cases q0:eqI (deskM d) 0
 ·refine orc_12 1 ?_
  simp (maxSteps:=1000000) +contextual -dsimp [Tryz.f12,g0,q0,List.set]
 ·have h0:deskM d=0:=by simpa[eqI] using q0
  rw[h0] at g0
  have e0:eqI 0 0=true:=rfl
  have g2:=f_text d (deskF h0) (usersF h0)
  refine orc_12 1 ?_
  simp (maxSteps:=1000000) +contextual -dsimp [Tryz.f12,g0,g2,e0,List.set]
theorem f_eqText (a:Int) (s:ByteArray):fo 9 [A (.agg [vI a,vS s]),A (.agg [vI a,vS s])]=some (R (vB true)):=by
 refine orc_9 1 ?_
 simp (maxSteps:=1000000) +contextual -dsimp [Tryz.f9,eqI_self,eqS_self,List.set]
theorem f_LawInstText (d:Desk) (hf:FitD d) (i:Int):fo 3 [A (.agg (dTl d)),A (vI i)]=some (R (vB true)):=by
 have g6:=g_szDesk d 1048576 (by omega) (by omega) (fw_desk hf)
 refine orc_3 1 ?_
 cases c1:ltI (subM 1048576 (wDesk d)) 0
 ·obtain⟨p,e⟩:=sub_f c1
  rw[e] at g6 c1
  have hw:wDesk d≤1048576:=by omega
  have g8:=g_toDesk d hw
  have g7:=f4_InstText d hf.eng hf.claims i
  have g9:=f_InstText d hf.eng hf.claims i
  have g10:=g_eqDesk d (by omega)
  have g13:=f_eqText (instTM d i).1 (instTM d i).2
  generalize instTM d i=q at *
  simp (maxSteps:=1000000) +contextual -dsimp [Tryz.f3,g6,g7,g8,g9,g10,g13,c1,List.set]
 ·simp (maxSteps:=1000000) +contextual -dsimp [Tryz.f3,g6,c1]
theorem f_LawDeskText (d:Desk) (hf:FitD d):fo 4 [A (.agg (dTl d))]=some (R (vB true)):=by
 have g6:=g_szDesk d 1048576 (by omega) (by omega) (fw_desk hf)
 refine orc_4 1 ?_
 cases c1:ltI (subM 1048576 (wDesk d)) 0
 ·obtain⟨p,e⟩:=sub_f c1
  rw[e] at g6 c1
  have hw:wDesk d≤1048576:=by omega
  have g8:=g_toDesk d hw
  have g7:=f4_DeskText d hf.eng hf.claims
  have g9:=f_DeskText d hf.eng hf.claims
  have g10:=g_eqDesk d (by omega)
  have g13:=f_eqText (deskTM d).1 (deskTM d).2
  generalize deskTM d=q at *
  simp (maxSteps:=1000000) +contextual -dsimp [Tryz.f4,g6,g7,g8,g9,g10,g13,c1,List.set]
 ·simp (maxSteps:=1000000) +contextual -dsimp [Tryz.f4,g6,c1]
end Go.TM.It
