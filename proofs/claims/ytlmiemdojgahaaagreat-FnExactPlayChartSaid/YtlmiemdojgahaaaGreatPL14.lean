/- What functions of the program come to, by the machine. -/
import Derived.Test.YtlmiemdojgahaaaGreatPL13
import Derived.Test.YtlmiemdojgahaaaGreatTm3
import Derived.Test.YtlmiemdojgahaaaGreatPL12
import Derived.ProofKit
import Derived.SizedLaws
set_option linter.unusedSimpArgs false
set_option linter.unusedVariables false
namespace Go.TM.Ft
open Go Go.TM Go.Proofs
set_option maxRecDepth 20000
attribute [local congr] gif_cg
attribute [local simp] footOf noClash clash upsets setsHit setHits layHits layMeets setsMeet evFeet
set_option maxHeartbeats 4000000 in
theorem lhdintS (all:List Int) (hall:all.length≤2097152):∀ (rest:List Int) (i:Nat) (k:Int),all.drop i=mksint k rest→0≤k→k+(ctsint rest:Nat) < 2 ^ 60→
  evLoop E (orc E) (89:Nat) (rest.length+1) (loopOf Tryz.f89 0) ⟨21,[(0,.sl 2 (all.map iV)),(1,vI k),(5,vI i)],[],2⟩=
  some (.exit 0,⟨21,[(0,.sl 2 (all.map iV)),(1,vI (k+(ctsint rest:Nat))),(5,vI (i+rest.length:Nat)),(9,vB false)],[],2⟩)
 | [],i,k,h,h0,h1=>by
  have hge:all.length≤i:=by simpa [mksint] using h
  have hlt:ltI (i:Int) (all.length:Int)=false:=ltI_f (by omega)
  rw [loop_eq]
  simp +contextual -dsimp [Tryz.f89,hlt,ctsint_nil]
 | x::rest,i,k,h,h0,h1=>by
  rw [ctsint_cons] at h1
  have he:i+1+rest.length=i+(rest.length+1):=by omega
  obtain ⟨k1,e1⟩:∃ z,z=k+1:=⟨_,rfl⟩
  have w0:IntKind.i64.wrap (k+1)=k1:=by rw [e1,wrapI] <;> omega
  have hk:k1+(ctsint rest:Nat)=k+(ctsint (x::rest):Nat):=by rw [ctsint_cons]; omega
  have hm:mksint k (x::rest)=k::mksint k1 rest:=by rw [e1]; rfl
  rw [hm] at h
  obtain ⟨hi,hc,hr⟩:=drop_cons h
  have hlt:ltI (i:Int) (all.length:Int)=true:=ltI_t (by omega)
  have hw:IntKind.i64.wrap ((i:Int)+1)=((i+1:Nat):Int):=by rw [wrapI] <;> omega
  have ih:=lhdintS all hall rest (i+1) k1 hr (by omega) (by omega)
  rw [hk,he] at ih
  refine evLoop_next ?_ (by simpa only [List.length_cons] using ih)
  simp (maxSteps:=1000000) +contextual -dsimp [Tryz.f89,hlt,hi,hc,hw,eqI_self,eqS_self,w0,List.set]
theorem mksint_len:∀ (l:List Int) (k:Int),(mksint k l).length=l.length
 | [],_=>rfl
 | x::l,k=>by simp only [mksint,List.length_cons,mksint_len l]
theorem o_heldInt64S (l:List Int) (k:Int) (h0:0≤k) (h1:k+(ctsint l:Nat) < 2 ^ 60) (hn:l.length≤2097152):fo 89 [A (.sl 2 ((mksint k l).map iV)),A (vI k)]=some (R (vI (k+(ctsint l:Nat)))):=by
 have hlp:=lhdintS (mksint k l) (by rw [mksint_len]; exact hn) l 0 k rfl h0 h1
 refine orc_89 (l.length+1) ?_
 generalize k+(ctsint l:Nat)=k' at *
 generalize mksint k l=l' at *
 simp -dsimp [Tryz.f89] at hlp
 simp (maxSteps:=1000000) +contextual -dsimp [Tryz.f89,hlp,List.set]
end Go.TM.Ft
namespace Go.TM.Ft
open Go Go.TM Go.Proofs
set_option maxRecDepth 20000
attribute [local congr] gif_cg
attribute [local simp] footOf noClash clash upsets setsHit setHits layHits layMeets setsMeet evFeet
set_option maxHeartbeats 4000000 in
theorem o_heldChart (x:Chart) (k:Int) (h0:0≤k) (h1:k+(czChart x:Nat) < 2 ^ 59) (hx:wChart x≤2097152):fo 91 [A (.agg (cT (mzChart k x))),A (vI k)]=some (R (vI (k+(czChart x:Nat)))):=by
 simp only [czChart] at h1
 obtain ⟨k1,e1⟩:∃ z,z=k+(ctsint x.vars:Nat):=⟨_,rfl⟩
 have g0:=o_heldInt64S x.vars k (by omega) (by omega) (by simp only [wChart] at hx; omega)
 rw [← e1] at g0
 have n0:ltI k1 0=false:=ltI_f (by omega)
 obtain ⟨k2,e2⟩:∃ z,z=k1+(ctsint x.acts:Nat):=⟨_,rfl⟩
 have g1:=o_heldInt64S x.acts k1 (by omega) (by omega) (by simp only [wChart] at hx; omega)
 rw [← e2] at g1
 have n1:ltI k2 0=false:=ltI_f (by omega)
 obtain ⟨k3,e3⟩:∃ z,z=k2+(ctsint x.dues:Nat):=⟨_,rfl⟩
 have g2:=o_heldInt64S x.dues k2 (by omega) (by omega) (by simp only [wChart] at hx; omega)
 rw [← e3] at g2
 have n2:ltI k3 0=false:=ltI_f (by omega)
 have hk:k+(czChart x:Nat)=k3:=by simp only [czChart]; omega
 have hm:mzChart k x={ x with vars:=mksint k x.vars,acts:=mksint k1 x.acts,dues:=mksint k2 x.dues }:=by subst_vars; rfl
 rw [hk,hm]
 refine orc_91 1 ?_
 simp (maxSteps:=1000000) +contextual -dsimp [Tryz.f91,g0,n0,g1,n1,g2,n2,List.set]
set_option maxHeartbeats 4000000 in
theorem o_heldRun (x:RunV) (k:Int) (h0:0≤k) (h1:k+(czRun x:Nat) < 2 ^ 59) (hx:wRun x≤2097152):fo 90 [A (.agg (rnT (mzRun k x))),A (vI k)]=some (R (vI (k+(czRun x:Nat)))):=by
 simp only [czRun] at h1
 obtain ⟨k1,e1⟩:∃ z,z=k+(ctsint x.vars:Nat):=⟨_,rfl⟩
 have g0:=o_heldInt64S x.vars k (by omega) (by omega) (by simp only [wRun] at hx; omega)
 rw [← e1] at g0
 have n0:ltI k1 0=false:=ltI_f (by omega)
 obtain ⟨k2,e2⟩:∃ z,z=k1+(ctsint x.marks:Nat):=⟨_,rfl⟩
 have g1:=o_heldInt64S x.marks k1 (by omega) (by omega) (by simp only [wRun] at hx; omega)
 rw [← e2] at g1
 have n1:ltI k2 0=false:=ltI_f (by omega)
 obtain ⟨k3,e3⟩:∃ z,z=k2+(ctsint x.dues:Nat):=⟨_,rfl⟩
 have g2:=o_heldInt64S x.dues k2 (by omega) (by omega) (by simp only [wRun] at hx; omega)
 rw [← e3] at g2
 have n2:ltI k3 0=false:=ltI_f (by omega)
 have hk:k+(czRun x:Nat)=k3:=by simp only [czRun]; omega
 have hm:mzRun k x={ x with vars:=mksint k x.vars,marks:=mksint k1 x.marks,dues:=mksint k2 x.dues }:=by subst_vars; rfl
 rw [hk,hm]
 refine orc_90 1 ?_
 simp (maxSteps:=1000000) +contextual -dsimp [Tryz.f90,g0,n0,g1,n1,g2,n2,List.set]
set_option maxHeartbeats 4000000 in
theorem o_heldPlayResult (x:PlayR) (k:Int) (h0:0≤k) (h1:k+(czPlayResult x:Nat) < 2 ^ 59) (hx:wPlayResult x≤2097152):fo 28 [A (.agg (plT (mzPlayResult k x))),A (vI k)]=some (R (vI (k+(czPlayResult x:Nat)))):=by
 simp only [czPlayResult] at h1
 obtain ⟨k1,e1⟩:∃ z,z=k+(ctsint x.codes:Nat):=⟨_,rfl⟩
 have g0:=o_heldInt64S x.codes k (by omega) (by omega) (by simp only [wPlayResult,wRun,wChart] at hx; omega)
 rw [← e1] at g0
 have n0:ltI k1 0=false:=ltI_f (by omega)
 obtain ⟨k2,e2⟩:∃ z,z=k1+(czRun x.run:Nat):=⟨_,rfl⟩
 have g1:=o_heldRun x.run k1 (by omega) (by omega) (by simp only [wPlayResult] at hx; omega)
 rw [← e2] at g1
 have n1:ltI k2 0=false:=ltI_f (by omega)
 obtain ⟨k3,e3⟩:∃ z,z=k2+(czChart x.chart:Nat):=⟨_,rfl⟩
 have g2:=o_heldChart x.chart k2 (by omega) (by omega) (by simp only [wPlayResult] at hx; omega)
 rw [← e3] at g2
 have n2:ltI k3 0=false:=ltI_f (by omega)
 have hk:k+(czPlayResult x:Nat)=k3:=by simp only [czPlayResult]; omega
 have hm:mzPlayResult k x={ x with codes:=mksint k x.codes,run:=mzRun k1 x.run,chart:=mzChart k2 x.chart }:=by subst_vars; rfl
 rw [hk,hm]
 refine orc_28 1 ?_
 simp (maxSteps:=1000000) +contextual -dsimp [Tryz.f28,g0,n0,g1,n1,g2,n2,List.set]
end Go.TM.Ft
namespace Go.TM.Ft
open Go Go.TM Go.Proofs
set_option maxRecDepth 20000
attribute [local congr] gif_cg
attribute [local simp] footOf noClash clash upsets setsHit setHits layHits layMeets setsMeet evFeet
abbrev zI:List T:=[vI 0]
theorem oltointS (all:List Int) (hall:all.length≤1048576):∀ (rest:List Int) (i:Nat) (es:List (List T)),all.drop i=rest→es.length=all.length→(∀ j,i≤j→j < all.length→es[j]?=some zI)→
  evLoop E (orc E) (17:Nat) (rest.length+1) (loopOf Tryz.f17 0) ⟨22,[(0,.sl 2 (all.map iV)),(3,.ref 3 1 [] 0 all.length),(4,vI i)],[(3,⟨1,1,false,[.own 2 es]⟩)],2⟩=
  some (.exit 0,⟨22,[(0,.sl 2 (all.map iV)),(3,.ref 3 1 [] 0 all.length),(4,vI (i+rest.length:Nat)),(11,vB false)],[(3,⟨1,1,false,[.own 2 (es.take i++rest.map iV)]⟩)],2⟩)
 | [],i,es,h,hl,hz=>by
  have hge:all.length≤i:=by simpa using h
  have hlt:ltI (i:Int) (all.length:Int)=false:=ltI_f (by omega)
  have ht:es.take i=es:=List.take_of_length_le (by omega)
  rw [loop_eq]
  simp +contextual -dsimp [Tryz.f17,hlt,ht]
 | x::rest,i,es,h,hl,hz=>by
  obtain ⟨hi,hc,hr⟩:=drop_cons h
  have hlt:ltI (i:Int) (all.length:Int)=true:=ltI_t (by omega)
  have hw:IntKind.i64.wrap ((i:Int)+1)=((i+1:Nat):Int):=by rw [wrapI] <;> omega
  have hi2:i < es.length:=by omega
  have hz1:es[i]=zI:=by
   have:=hz i (Nat.le_refl _) hi
   rw [List.getElem?_eq_getElem hi2] at this
   simpa using this
  have ih:=oltointS all hall rest (i+1) (es.set i (iV x)) hr (by simpa using hl) (fun j hj hj2=>by
   rw [List.getElem?_set_ne (by omega)]
   exact hz j (by omega) hj2)
  have he:i+1+rest.length=i+(rest.length+1):=by omega
  have hes:(es.set i (iV x)).take (i+1)=es.take i++[iV x]:=by
   rw [List.take_add_one,List.take_set_of_le (Nat.le_refl _)]
   simp [hi2]
  rw [he,hes,List.append_assoc] at ih
  refine evLoop_next ?_ (by simpa only [List.length_cons,List.map_cons,List.singleton_append] using ih)
  simp (maxSteps:=1000000) +contextual -dsimp [Tryz.f17,hlt,hi,hi2,hc,hw,hz1,hl,List.set]
theorem o_tointS (l:List Int) (hl:l.length≤1048576):fo 17 [A (.sl 2 (l.map iV))]=some ⟨.own 2 (l.map iV),[],true⟩:=by
 have hm:(l.length:Int)≤(maxElems:Nat):=by unfold maxElems; omega
 have hlp:=oltointS l hl l 0 (List.replicate l.length zI) rfl (by simp) (fun j _ hj=>by simp [hj])
 have hcl:=oclean_int l
 refine orc_17 (l.length+1) ?_
 simp -dsimp [Tryz.f17] at hlp
 simp (maxSteps:=1000000) +contextual -dsimp [Tryz.f17,hm,hlp,hcl,finishL,mergeL,List.set]
theorem o_toNode (x:Node):fo 231 [A (.agg (nT x))]=some ⟨.agg (nT x),[],true⟩:=by
 refine orc_231 1 ?_
 simp (maxSteps:=1000000) +contextual -dsimp [Tryz.f231,List.set]
theorem oltoNodeS (all:List Node) (hall:all.length≤1048576):∀ (rest:List Node) (i:Nat) (es:List (List T)),all.drop i=rest→es.length=all.length→(∀ j,i≤j→j < all.length→es[j]?=some [vI 0,vI 0,vI 0,vI 0])→
  evLoop E (orc E) (166:Nat) (rest.length+1) (loopOf Tryz.f166 0) ⟨23,[(0,.sl 267 (all.map nT)),(3,.ref 3 1 [] 0 all.length),(4,vI i)],[(3,⟨1,1,false,[.own 219 es]⟩)],2⟩=
  some (.exit 0,⟨23,[(0,.sl 267 (all.map nT)),(3,.ref 3 1 [] 0 all.length),(4,vI (i+rest.length:Nat)),(11,vB false)],[(3,⟨1,1,false,[.own 219 (es.take i++rest.map nT)]⟩)],2⟩)
 | [],i,es,h,hl,hz=>by
  have hge:all.length≤i:=by simpa using h
  have hlt:ltI (i:Int) (all.length:Int)=false:=ltI_f (by omega)
  have ht:es.take i=es:=List.take_of_length_le (by omega)
  rw [loop_eq]
  simp +contextual -dsimp [Tryz.f166,hlt,ht]
 | x::rest,i,es,h,hl,hz=>by
  obtain ⟨hi,hc,hr⟩:=drop_cons h
  have hlt:ltI (i:Int) (all.length:Int)=true:=ltI_t (by omega)
  have hw:IntKind.i64.wrap ((i:Int)+1)=((i+1:Nat):Int):=by rw [wrapI] <;> omega
  have hi2:i < es.length:=by omega
  have hz1:es[i]=[vI 0,vI 0,vI 0,vI 0]:=by
   have:=hz i (Nat.le_refl _) hi
   rw [List.getElem?_eq_getElem hi2] at this
   simpa using this
  have ih:=oltoNodeS all hall rest (i+1) (es.set i (nT x)) hr (by simpa using hl) (fun j hj hj2=>by
   rw [List.getElem?_set_ne (by omega)]
   exact hz j (by omega) hj2)
  have he:i+1+rest.length=i+(rest.length+1):=by omega
  have hes:(es.set i (nT x)).take (i+1)=es.take i++[nT x]:=by
   rw [List.take_add_one,List.take_set_of_le (Nat.le_refl _)]
   simp [hi2]
  rw [he,hes,List.append_assoc] at ih
  have g:=o_toNode x
  refine evLoop_next ?_ (by simpa only [List.length_cons,List.map_cons,List.singleton_append] using ih)
  simp (maxSteps:=1000000) +contextual -dsimp [Tryz.f166,hlt,hi,hi2,hc,hw,hz1,hl,g,List.set]
theorem o_toNodeS (l:List Node) (hl:l.length≤1048576):fo 166 [A (.sl 267 (l.map nT))]=some ⟨.own 219 (l.map nT),[],true⟩:=by
 have hm:(l.length:Int)≤(maxElems:Nat):=by unfold maxElems; omega
 have hlp:=oltoNodeS l hl l 0 (List.replicate l.length [vI 0,vI 0,vI 0,vI 0]) rfl (by simp) (fun j _ hj=>by simp [hj])
 have hcl:=oclean_Node l
 refine orc_166 (l.length+1) ?_
 simp -dsimp [Tryz.f166] at hlp
 simp (maxSteps:=1000000) +contextual -dsimp [Tryz.f166,hm,hlp,hcl,finishL,mergeL,List.set]
theorem o_toStep (x:Step) (h:wStep x≤1048576):fo 75 [A (.agg (sT 267 x))]=some ⟨.agg (StepO x),[],true⟩:=by
 have g4:=o_toNodeS x.cond (by simp only [wStep] at h; omega)
 have s4:=oclean_Node x.cond
 have g5:=o_toNodeS x.expr (by simp only [wStep] at h; omega)
 have s5:=oclean_Node x.expr
 refine orc_75 1 ?_
 simp (maxSteps:=1000000) +contextual -dsimp [Tryz.f75,g4,s4,g5,s5,List.set]
theorem oltoStepS (all:List Step) (hall:all.length≤1048576) (hf:∀ x,x∈all→wStep x≤1048576):∀ (rest:List Step) (i:Nat) (es:List (List T)),all.drop i=rest→es.length=all.length→(∀ j,i≤j→j < all.length→es[j]?=some [vI 0,vI 0,vS emp,vI 0,.own 219 [],.own 219 []])→
  evLoop E (orc E) (16:Nat) (rest.length+1) (loopOf Tryz.f16 0) ⟨23,[(0,.sl 111 (all.map (sT 267))),(3,.ref 3 1 [] 0 all.length),(4,vI i)],[(3,⟨1,1,false,[.own 124 es]⟩)],2⟩=
  some (.exit 0,⟨23,[(0,.sl 111 (all.map (sT 267))),(3,.ref 3 1 [] 0 all.length),(4,vI (i+rest.length:Nat)),(11,vB false)],[(3,⟨1,1,false,[.own 124 (es.take i++rest.map StepO)]⟩)],2⟩)
 | [],i,es,h,hl,hz=>by
  have hge:all.length≤i:=by simpa using h
  have hlt:ltI (i:Int) (all.length:Int)=false:=ltI_f (by omega)
  have ht:es.take i=es:=List.take_of_length_le (by omega)
  rw [loop_eq]
  simp +contextual -dsimp [Tryz.f16,hlt,ht]
 | x::rest,i,es,h,hl,hz=>by
  obtain ⟨hi,hc,hr⟩:=drop_cons h
  have hlt:ltI (i:Int) (all.length:Int)=true:=ltI_t (by omega)
  have hw:IntKind.i64.wrap ((i:Int)+1)=((i+1:Nat):Int):=by rw [wrapI] <;> omega
  have hi2:i < es.length:=by omega
  have hz1:es[i]=[vI 0,vI 0,vS emp,vI 0,.own 219 [],.own 219 []]:=by
   have:=hz i (Nat.le_refl _) hi
   rw [List.getElem?_eq_getElem hi2] at this
   simpa using this
  have ih:=oltoStepS all hall hf rest (i+1) (es.set i (StepO x)) hr (by simpa using hl) (fun j hj hj2=>by
   rw [List.getElem?_set_ne (by omega)]
   exact hz j (by omega) hj2)
  have he:i+1+rest.length=i+(rest.length+1):=by omega
  have hes:(es.set i (StepO x)).take (i+1)=es.take i++[StepO x]:=by
   rw [List.take_add_one,List.take_set_of_le (Nat.le_refl _)]
   simp [hi2]
  rw [he,hes,List.append_assoc] at ih
  have g:=o_toStep x (hf x (by rw [← hc]; exact List.getElem_mem _))
  refine evLoop_next ?_ (by simpa only [List.length_cons,List.map_cons,List.singleton_append] using ih)
  simp (maxSteps:=1000000) +contextual -dsimp [Tryz.f16,hlt,hi,hi2,hc,hw,hz1,hl,g,List.set]
theorem o_toStepS (l:List Step) (hl:l.length≤1048576) (hf:∀ x,x∈l→wStep x≤1048576):fo 16 [A (.sl 111 (l.map (sT 267)))]=some ⟨.own 124 (l.map StepO),[],true⟩:=by
 have hm:(l.length:Int)≤(maxElems:Nat):=by unfold maxElems; omega
 have hlp:=oltoStepS l hl hf l 0 (List.replicate l.length [vI 0,vI 0,vS emp,vI 0,.own 219 [],.own 219 []]) rfl (by simp) (fun j _ hj=>by simp [hj])
 have hcl:=oclean_Step l
 refine orc_16 (l.length+1) ?_
 simp -dsimp [Tryz.f16] at hlp
 simp (maxSteps:=1000000) +contextual -dsimp [Tryz.f16,hm,hlp,hcl,finishL,mergeL,List.set]
theorem o_toAct (x:Act) (h:wAct x≤1048576):fo 76 [A (.agg (aT x))]=some ⟨.agg (ActO x),[],true⟩:=by
 have g2:=o_tointS x.vars (by simp only [wAct] at h; omega)
 have s2:=oclean_int x.vars
 refine orc_76 1 ?_
 simp (maxSteps:=1000000) +contextual -dsimp [Tryz.f76,g2,s2,List.set]
theorem oltoActS (all:List Act) (hall:all.length≤1048576) (hf:∀ x,x∈all→wAct x≤1048576):∀ (rest:List Act) (i:Nat) (es:List (List T)),all.drop i=rest→es.length=all.length→(∀ j,i≤j→j < all.length→es[j]?=some [vI 0,vI 0,.own 2 []])→
  evLoop E (orc E) (18:Nat) (rest.length+1) (loopOf Tryz.f18 0) ⟨23,[(0,.sl 114 (all.map aT)),(3,.ref 3 1 [] 0 all.length),(4,vI i)],[(3,⟨1,1,false,[.own 119 es]⟩)],2⟩=
  some (.exit 0,⟨23,[(0,.sl 114 (all.map aT)),(3,.ref 3 1 [] 0 all.length),(4,vI (i+rest.length:Nat)),(11,vB false)],[(3,⟨1,1,false,[.own 119 (es.take i++rest.map ActO)]⟩)],2⟩)
 | [],i,es,h,hl,hz=>by
  have hge:all.length≤i:=by simpa using h
  have hlt:ltI (i:Int) (all.length:Int)=false:=ltI_f (by omega)
  have ht:es.take i=es:=List.take_of_length_le (by omega)
  rw [loop_eq]
  simp +contextual -dsimp [Tryz.f18,hlt,ht]
 | x::rest,i,es,h,hl,hz=>by
  obtain ⟨hi,hc,hr⟩:=drop_cons h
  have hlt:ltI (i:Int) (all.length:Int)=true:=ltI_t (by omega)
  have hw:IntKind.i64.wrap ((i:Int)+1)=((i+1:Nat):Int):=by rw [wrapI] <;> omega
  have hi2:i < es.length:=by omega
  have hz1:es[i]=[vI 0,vI 0,.own 2 []]:=by
   have:=hz i (Nat.le_refl _) hi
   rw [List.getElem?_eq_getElem hi2] at this
   simpa using this
  have ih:=oltoActS all hall hf rest (i+1) (es.set i (ActO x)) hr (by simpa using hl) (fun j hj hj2=>by
   rw [List.getElem?_set_ne (by omega)]
   exact hz j (by omega) hj2)
  have he:i+1+rest.length=i+(rest.length+1):=by omega
  have hes:(es.set i (ActO x)).take (i+1)=es.take i++[ActO x]:=by
   rw [List.take_add_one,List.take_set_of_le (Nat.le_refl _)]
   simp [hi2]
  rw [he,hes,List.append_assoc] at ih
  have g:=o_toAct x (hf x (by rw [← hc]; exact List.getElem_mem _))
  refine evLoop_next ?_ (by simpa only [List.length_cons,List.map_cons,List.singleton_append] using ih)
  simp (maxSteps:=1000000) +contextual -dsimp [Tryz.f18,hlt,hi,hi2,hc,hw,hz1,hl,g,List.set]
theorem o_toActS (l:List Act) (hl:l.length≤1048576) (hf:∀ x,x∈l→wAct x≤1048576):fo 18 [A (.sl 114 (l.map aT))]=some ⟨.own 119 (l.map ActO),[],true⟩:=by
 have hm:(l.length:Int)≤(maxElems:Nat):=by unfold maxElems; omega
 have hlp:=oltoActS l hl hf l 0 (List.replicate l.length [vI 0,vI 0,.own 2 []]) rfl (by simp) (fun j _ hj=>by simp [hj])
 have hcl:=oclean_Act l
 refine orc_18 (l.length+1) ?_
 simp -dsimp [Tryz.f18] at hlp
 simp (maxSteps:=1000000) +contextual -dsimp [Tryz.f18,hm,hlp,hcl,finishL,mergeL,List.set]
end Go.TM.Ft
namespace Go.TM.Ft
open Go Go.TM Go.Proofs
set_option maxRecDepth 20000
attribute [local congr] gif_cg
attribute [local simp] footOf noClash clash upsets setsHit setHits layHits layMeets setsMeet evFeet
theorem g_eqAct (x:Act) (h:wAct x≤2097152):fo 84 [A (.agg (aT x)),A (.agg (aT x))]=some (R (vB true)):=by
 have g2:=g_eqintS x.vars (by simp only [wAct] at h; omega)
 refine orc_84 1 ?_
 simp (maxSteps:=1000000) +contextual -dsimp [Tryz.f84,eqI_self,eqS_self,g2,List.set]
theorem leqActS (all:List Act) (hall:all.length≤2097152) (hf:∀ x,x∈all→wAct x≤2097152):∀ (rest:List Act) (i:Nat),all.drop i=rest→
  evLoop E (orc E) (23:Nat) (rest.length+1) (loopOf Tryz.f23 0) ⟨27,[(0,.sl 119 (all.map aT)),(1,.sl 119 (all.map aT)),(5,vI i)],[],2⟩=
  some (.exit 0,⟨27,[(0,.sl 119 (all.map aT)),(1,.sl 119 (all.map aT)),(5,vI (i+rest.length:Nat)),(14,vB false)],[],2⟩)
 | [],i,h=>by
  have hge:all.length≤i:=by simpa using h
  have hlt:ltI (i:Int) (all.length:Int)=false:=ltI_f (by omega)
  rw [loop_eq]
  simp +contextual -dsimp [Tryz.f23,hlt]
 | x::rest,i,h=>by
  obtain ⟨hi,hc,hr⟩:=drop_cons h
  have hlt:ltI (i:Int) (all.length:Int)=true:=ltI_t (by omega)
  have hw:IntKind.i64.wrap ((i:Int)+1)=((i+1:Nat):Int):=by rw [wrapI] <;> omega
  have ih:=leqActS all hall hf rest (i+1) hr
  have he:i+1+rest.length=i+(rest.length+1):=by omega
  rw [he] at ih
  have g:=g_eqAct x (hf x (by rw [← hc]; exact List.getElem_mem _))
  refine evLoop_next ?_ (by simpa only [List.length_cons] using ih)
  simp (maxSteps:=1000000) +contextual -dsimp [Tryz.f23,hlt,hi,hc,hw,eqI_self,g]
theorem g_eqActS (l:List Act) (hl:l.length≤2097152) (hf:∀ x,x∈l→wAct x≤2097152):fo 23 [A (.sl 119 (l.map aT)),A (.sl 119 (l.map aT))]=some (R (vB true)):=by
 have hlp:=leqActS l hl hf l 0 rfl
 refine orc_23 (l.length+1) ?_
 simp -dsimp [Tryz.f23] at hlp
 simp (maxSteps:=1000000) +contextual -dsimp [Tryz.f23,hlp,eqI_self]
theorem g_eqRun (x:RunV) (h:wRun x≤2097152):fo 81 [A (.agg (rnT x)),A (.agg (rnT x))]=some (R (vB true)):=by
 have g2:=g_eqintS x.vars (by simp only [wRun] at h; omega)
 have g3:=g_eqintS x.marks (by simp only [wRun] at h; omega)
 have g4:=g_eqintS x.dues (by simp only [wRun] at h; omega)
 refine orc_81 1 ?_
 simp (maxSteps:=1000000) +contextual -dsimp [Tryz.f81,eqI_self,eqS_self,g2,g3,g4,List.set]
theorem g_eqPlayResult (x:PlayR) (h:wPlayResult x≤2097152):fo 20 [A (.agg (plT x)),A (.agg (plT x))]=some (R (vB true)):=by
 have g1:=g_eqintS x.codes (by simp only [wPlayResult] at h; omega)
 have g2:=g_eqRun x.run (by simp only [wPlayResult] at h; omega)
 have g3:=g_eqChart x.chart (by simp only [wPlayResult] at h; omega)
 refine orc_20 1 ?_
 simp (maxSteps:=1000000) +contextual -dsimp [Tryz.f20,eqI_self,eqS_self,g1,g2,g3,List.set]
end Go.TM.Ft
namespace Go.TM.Ft
open Go Go.TM Go.Proofs
theorem cts_Node (l:List Node):ctsNode l=4*l.length:=by
 induction l with
 | nil=>rfl
 | cons x l ih=>rw [ctsNode_cons,ih]; simp only [ctNode,List.length_cons]; omega
theorem ct_Step (x:Step):ctStep x≤4+4*wStep x:=by
 simp only [ctStep,cts_Node,wStep]; omega
theorem cts_Step (l:List Step):ctsStep l≤4*wsStep l:=by
 have:ctsStep l≤4*l.length+4*sumStep l:=by
  induction l with
  | nil=>exact Nat.zero_le _
  | cons x l ih=>rw [ctsStep_cons]; have:=ct_Step x; simp only [sumStep,List.length_cons]; omega
 simp only [wsStep]; omega
theorem cts_Act (l:List Act):ctsAct l≤2*wsAct l:=by
 have:ctsAct l≤2*l.length+sumAct l:=by
  induction l with
  | nil=>exact Nat.zero_le _
  | cons x l ih=>rw [ctsAct_cons]; simp only [sumAct,ctAct,wAct,ctsint,List.length_cons]; omega
 simp only [wsAct]; omega
theorem cz_Play (x:PlayR):czPlayResult x=wPlayResult x:=by
 simp only [czPlayResult,czRun,czChart,ctsint,wPlayResult,wRun,wChart]
end Go.TM.Ft
namespace Go.TM.Ft
open Go Go.TM Go.Proofs
set_option maxRecDepth 20000
attribute [local congr] gif_cg
attribute [local simp] footOf noClash clash upsets setsHit setHits layHits layMeets setsMeet evFeet
theorem fw_step {s:Step} (h:FitS s):FwStep s:=⟨h.name,h.cond,h.expr⟩
theorem tree_int {n:Nat} {ts:List T} (h:TreeT Tryz.prog (n+1) 2 ts):∃ x,ts=[vI x]∧-9223372036854775808≤x∧x < 9223372036854775808:=by
 unfold TreeT at h
 rw [Tryz.underlying2] at h
 obtain ⟨x,rfl,hw⟩:=h
 have:=bounds_i64 hw
 exact ⟨x,rfl,by omega,by omega⟩
theorem map_of {α β:Type} {f:α→β} {p:α→Prop}:∀ {l:List β},(∀ c,c∈l→∃ x,c=f x∧p x)→∃ xs:List α,l=xs.map f∧∀ x,x∈xs→p x
 | [],_=>⟨[],rfl,fun x hx=>by simp at hx⟩
 | c::l,h=>by
  obtain ⟨x,rfl,hx⟩:=h c (by simp)
  obtain ⟨xs,rfl,hxs⟩:=map_of (f:=f) (p:=p) (l:=l) fun d hd=>h d (by simp [hd])
  exact ⟨x::xs,rfl,fun y hy=>by
   rcases List.mem_cons.1 hy with rfl | hy
   ·exact hx
   ·exact hxs y hy⟩
theorem tree_slice {α:Type} {P:Program} {n:Nat} {t e:TypeId} {ts:List T} {f:α→List T} {p:α→Prop} (hu:P.underlying t=some (.slice e)) (h:TreeT P (n+1) t ts)
  (hx:∀ c,TreeT P n e c→∃ x,c=f x∧p x):∃ l:List α,ts=[.sl e (l.map f)]∧l.length < 2 ^ 62∧∀ x,x∈l→p x:=by
 unfold TreeT at h
 rw [hu] at h
 obtain ⟨es,rfl,hl,h2⟩:=h
 obtain ⟨xs,rfl,hp⟩:=map_of (f:=f) (p:=p) (l:=es) fun c hc=>hx c (h2 c hc)
 refine ⟨xs,rfl,?_,hp⟩
 simp at hl; unfold reachBytes at hl; omega
theorem tree_node {n:Nat} {ts:List T} (h:TreeT Tryz.prog (n+2) 267 ts):∃ x,ts=nT x∧True:=by
 unfold TreeT at h
 rw [Tryz.underlying267] at h
 obtain ⟨c1,r1,rfl,h1,c2,r2,rfl,h2,c3,r3,rfl,h3,c4,r4,rfl,h4,rfl⟩:=h
 obtain ⟨x1,rfl,_⟩:=tree_int h1
 obtain ⟨x2,rfl,_⟩:=tree_int h2
 obtain ⟨x3,rfl,_⟩:=tree_int h3
 obtain ⟨x4,rfl,_⟩:=tree_int h4
 exact ⟨⟨x1,x2,x3,x4⟩,rfl,trivial⟩
theorem tree_step {n:Nat} {ts:List T} (h:TreeT Tryz.prog (n+4) 111 ts):∃ s:Step,ts=sT 267 s∧FitS s:=by
 unfold TreeT at h
 rw [Tryz.underlying111] at h
 obtain ⟨c1,r1,rfl,h1,c2,r2,rfl,h2,c3,r3,rfl,h3,c4,r4,rfl,h4,c5,r5,rfl,h5,c6,r6,rfl,h6,rfl⟩:=h
 obtain ⟨x1,rfl,_⟩:=tree_int h1
 obtain ⟨x2,rfl,p1,p2⟩:=tree_int h2
 obtain ⟨x4,rfl,_⟩:=tree_int h4
 obtain ⟨x5,rfl,l5,_⟩:=tree_slice (f:=nT) (p:=fun _=>True) Tryz.underlying109 h5 fun c hc=>tree_node hc
 obtain ⟨x6,rfl,l6,_⟩:=tree_slice (f:=nT) (p:=fun _=>True) Tryz.underlying109 h6 fun c hc=>tree_node hc
 simp only at h3
 unfold TreeT at h3
 rw [Tryz.underlying9] at h3
 obtain ⟨x3,rfl,l3⟩:=h3
 exact ⟨⟨x1,x2,x3,x4,x5,x6⟩,rfl,p1,p2,by unfold reachBytes at l3; simp; omega,l5,l6⟩
theorem tree_ints {n:Nat} {ts:List T} (h:TreeT Tryz.prog (n+2) 23 ts):∃ l:List Int,ts=[iS l]∧l.length < 2 ^ 62:=by
 obtain ⟨l,rfl,hl,_⟩:=tree_slice (f:=fun n=>[vI n]) (p:=fun _=>True) Tryz.underlying23 h fun c hc=>by
  obtain ⟨x,rfl,_⟩:=tree_int hc
  exact ⟨x,rfl,trivial⟩
 exact ⟨l,rfl,hl⟩
end Go.TM.Ft
namespace Go.TM.Ft
set_option pp.deepTerms true
set_option pp.maxSteps 200000
open Go Go.TM Go.Proofs
set_option maxRecDepth 20000
attribute [local congr] gif_cg
attribute [local simp] footOf noClash clash upsets setsHit setHits layHits layMeets setsMeet evFeet seal4_iE seal4_set clean_iE
theorem playI {l:List Step}:∀ (rest:List Act) (i:Nat) (p:List Int × Chart),p.1.length=i→Inv l p.2→(foldI (playG l) i p rest).1.length=i+rest.length∧Inv l (foldI (playG l) i p rest).2
 | [],i,p,h1,h2=>⟨by simpa [foldI] using h1,by simpa [foldI] using h2⟩
 | a::rest,i,p,h1,h2=>by
  have hinv:(actR l p.2 a).1=0→Inv l (actR l p.2 a).2:=actR_inv
  have:=playI rest (i+1) (playG l i p a) (by simp [playG,h1]) (by
   unfold playG
   simp only
   split
   ·rename_i q; exact hinv (by simpa [eqI] using q)
   ·exact h2)
  simp only [foldI,List.length_cons]
  refine ⟨?_,this.2⟩
  rw [this.1]; omega
theorem playM_few (l:List Step) (vars:List Int) (now:Int) (acts:List Act):(playM l vars now acts).2.1.length≤30∧(playM l vars now acts).2.2.vars.length≤30∧(playM l vars now acts).2.2.acts.length≤30∧(playM l vars now acts).2.2.dues.length≤30:=by
 unfold playM
 split
 ·simp [noC]
 ·rename_i q
  have q0:playA l vars now acts=0:=by simpa [notB,eqI] using q
  unfold playA at q0
  obtain ⟨z1,z2⟩:=first2_zero q0
  obtain ⟨w,hI⟩:=startM_zero z1
  obtain ⟨hn,_⟩:=actsM_zero z2
  obtain ⟨h1,h2⟩:=playI acts 0 ([],(startM l vars now).2) rfl hI
  have:=w.ok.le
  have:=h2.vars
  have:=h2.acts
  have:=h2.dues
  simp only
  omega
set_option maxHeartbeats 16000000 in
theorem f_LawPlay (l:List Step) (hp:FitP l) (vars:List Int) (hv:vars.length < 2 ^ 62) (now:Int) (acts:List Act) (hal:acts.length < 2 ^ 62) (ha:∀ a,a∈acts→FitA a):
  fo 3 [A (.sl 111 (l.map (sT 267))),A (iS vars),A (vI now),A (.sl 114 (acts.map aT))]=some (R (vB true)):=by
 cases c0:ltI 1048576 vars.length
 rotate_left
 ·refine orc_3 1 ?_
  simp (maxSteps:=1000000) +contextual -dsimp [Tryz.f3,c0,List.set]
 have hv2:vars.length≤1048576:=by simp [ltI] at c0; omega
 have s1:=g_szStepS l 1048576 (by omega) (by omega) ⟨hp.len,fun s hs=>fw_step (hp.steps s hs)⟩
 cases c1:ltI (subM 1048576 (wsStep l)) 0
 rotate_left
 ·refine orc_3 1 ?_
  simp (maxSteps:=1000000) +contextual -dsimp [Tryz.f3,c0,s1,c1,List.set]
 obtain ⟨p1,e1⟩:=sub_f c1
 rw [e1] at s1 c1
 have s2:=g_szActS acts (1048576 - wsStep l) (by omega) (by omega) ⟨hal,ha⟩
 cases c2:ltI (subM (1048576 - wsStep l) (wsAct acts)) 0
 rotate_left
 ·refine orc_3 1 ?_
  simp (maxSteps:=1000000) +contextual -dsimp [Tryz.f3,c0,s1,c1,s2,c2,List.set]
 obtain ⟨p2,e2⟩:=sub_f c2
 rw [e2] at s2 c2
 have hl:l.length≤1048576:=by simp only [wsStep] at p1; omega
 have hlS:∀ x,x∈l→wStep x≤1048576:=fun x hx=>by have:=sumStep_mem hx; simp only [wsStep] at p1; omega
 have hA:acts.length≤1048576:=by simp only [wsAct] at p2; omega
 have hAS:∀ x,x∈acts→wAct x≤1048576:=fun x hx=>by have:=sumAct_mem hx; simp only [wsAct] at p2; omega
 have o1:=o_toStepS l hl hlS
 have o2:=o_tointS vars hv2
 have o3:=o_toActS acts hA hAS
 have r1:=f4_PlayChart l hp.len (fun s hs=>⟨(hp.steps s hs).name,(hp.steps s hs).cond,(hp.steps s hs).expr⟩) vars now acts
 have r2:=f_PlayChart l hp.len hp.steps vars hv now acts ha
 obtain ⟨k1,k2,k3,k4⟩:=playM_few l vars now acts
 generalize playM l vars now acts=r at *
 obtain ⟨code,codes,c⟩:=r
 simp only at k1 k2 k3 k4
 obtain ⟨x,hx⟩:∃ x:PlayR,x=⟨code,codes,⟨0,0,[],[],[]⟩,c⟩:=⟨_,rfl⟩
 have hw:wPlayResult x≤2097152:=by subst hx; simp [wPlayResult,wRun,wChart]; omega
 have b1:=cts_Step l
 have b2:=cts_Act acts
 have b3:ctsint vars=vars.length:=rfl
 have b4:=cz_Play x
 have q1:=g_eqPlayResult x hw
 have q2:=g_eqStepS l (by omega) (fun x hx=>by have:=hlS x hx; omega)
 have q3:=g_eqintS vars (by omega)
 have q4:=g_eqActS acts (by omega) (fun x hx=>by have:=hAS x hx; omega)
 obtain ⟨d1,m1⟩:=o_markStepS l 1 (by omega) (by omega) (by omega) (fun x hx=>by have:=hlS x hx; omega)
 obtain ⟨d2,m2⟩:=o_markInt64S vars (1+(ctsStep l:Nat)) (by omega) (by omega) (by omega)
 obtain ⟨d3,m3⟩:=o_markActS acts (1+(ctsStep l:Nat)+(ctsint vars:Nat)) (by omega) (by omega) (by omega) (fun x hx=>by have:=hAS x hx; omega)
 obtain ⟨d4,m4⟩:=o_markPlayResult x 1 (by omega) (by omega) hw
 have h1:=o_heldPlayResult x 1 (by omega) (by omega) hw
 rw [show (T.agg (plT (mzPlayResult 1 x)):T)=.agg [vI x.code,iS (mzPlayResult 1 x).codes,vI x.run.status,vI x.run.now,iS (mzPlayResult 1 x).run.vars,iS (mzPlayResult 1 x).run.marks,iS (mzPlayResult 1 x).run.dues,vI x.chart.status,vI x.chart.now,iS (mzPlayResult 1 x).chart.vars,iS (mzPlayResult 1 x).chart.acts,iS (mzPlayResult 1 x).chart.dues] from rfl] at h1
 have n1:ltI (1+(ctsStep l:Nat)+(ctsint vars:Nat)+(ctsAct acts:Nat)) 0=false:=ltI_f (by omega)
 have n2:ltI (1+(czPlayResult x:Nat)) 0=false:=ltI_f (by omega)
 have t1:=osealed_Step l
 have t2:=osealed_int vars
 have t3:=osealed_Act acts
 generalize 1+(ctsStep l:Int)=a1 at *
 generalize a1+(ctsint vars:Int)=a2 at *
 generalize a2+(ctsAct acts:Int)=a3 at *
 generalize 1+(czPlayResult x:Int)=a4 at *
 generalize mksStep 1 l=l' at *
 generalize mksint a1 vars=vars' at *
 generalize mksAct a2 acts=acts' at *
 generalize mzPlayResult 1 x=y at *
 have t4:=osealed_int codes
 have t5:=osealed_int c.vars
 have t6:=osealed_int c.acts
 have t7:=osealed_int c.dues
 have u1:=osealed_int y.codes
 have u2:=osealed_int y.run.vars
 have u3:=osealed_int y.run.marks
 have u4:=osealed_int y.run.dues
 have u5:=osealed_int y.chart.vars
 have u6:=osealed_int y.chart.acts
 have u7:=osealed_int y.chart.dues
 subst hx
 simp only [plT,iS,iE,List.map_nil,List.length_nil] at h1 m4 q1
 refine orc_3 1 ?_
 simp (maxSteps:=4000000) +contextual -dsimp [Tryz.f3,c0,s1,c1,s2,c2,o1,o2,o3,r1,r2,q1,q2,q3,q4,m1,m2,m3,m4,h1,n1,n2,t1,t2,t3,t4,t5,t6,t7,u1,u2,u3,u4,u5,u6,u7,eqI_self,lendEff,lendOne,lendMany,firstRef,lendRow,lendCell,putRow,putBack,valArg,List.set]
end Go.TM.Ft
namespace Go.TM.Ft
open Go Go.TM Go.Proofs Go.RowKit Go.ChangeShapes Go.WideShapes
set_option maxRecDepth 20000
def okAll (sz:TypeId→Nat) (h:Array Obj) (I:Nat→Prop):List T→List Value→Prop
 | [],us=>us=[]
 | t::ts,us=>∃ u us',us=u::us'∧okV sz h I t u []∧okAll sz h I ts us'
theorem okArgs_all {sz h I}:∀ {ar:List T} {us:List Value} (i:Nat),okAll sz h I ar us→okArgs sz h I i (ar.map A) us []
 | [],us,i,h=>⟨h,rfl⟩
 | t::ts,us,i,h=>by
  obtain ⟨u,us',rfl,h1,h2⟩:=h
  exact ⟨u,us',[],[],rfl,rfl,⟨h1,rfl⟩,okArgs_all (i+1) h2⟩
theorem law_calls {f:Nat} {ar:List T} {us:List Value} {W:Go.World} (hl:lends (E.mode f)=false) (h:fo f (ar.map A)=some (R (vB true))) (hok:okAll (szOf E) W.heap (fun b=>b < W.heap.size) ar us):
  Calls Tryz.prog f us.toArray W fun e W'=>e=.returned (.bool true)∧Below W.heap.size W W':=by
 have hs:=(orc_sound able h).1.old hl ⟨W,[],fun b=>b < W.heap.size,fun b hb=>⟨hb,by simp⟩⟩ us (by simp [Uniq]) (by simp) (okArgs_all 0 hok)
 refine Calls.mono hs fun e W' h=>?_
 match e,h with
 | .returned u,h=>
  obtain ⟨f,fo,hu,_⟩:=h.ok
  simp only [okV] at hu
  obtain ⟨rfl,_⟩:=hu
  exact ⟨rfl,⟨h.fr.os,h.fr.tape,h.fr.output,h.fr.size,fun k hk=>h.fr.block k hk (by simp)⟩⟩
section
variable {H:Type} {enc:TypeId × Value→H} {W:Go.World} {base:Nat} {n:Nat} {t:TypeId} {v:Value} {d:DataW H} {p:List MemPlace}
theorem read_cell (hp:plainT (szOf E) Tryz.prog n t=true) (h:DataW.Trod enc Tryz.prog W 0 (fun _=>true) true t v d p) (hv:v.cells=#[v]) (hwt:∀ k,k∈d.weights Tryz.prog t→k≤reachBytes):
  ∃ a,TreeT Tryz.prog n t [a]∧okV (szOf E) W.heap (fun b=>b < W.heap.size) a v []:=by
 obtain ⟨ts,ht,hok⟩:=read_arg (sz:=szOf E) (I:=fun b=>b < W.heap.size) (fun b hb=>hb) hp h hv hwt
 match ts,hok with
 | [],hok=>simp [okL] at hok
 | a::ts,hok=>
  simp only [okL] at hok
  obtain ⟨u,us',f1,f2,e1,e2,h1,h2⟩:=hok
  obtain ⟨rfl,rfl⟩:=List.cons.inj e1
  obtain ⟨rfl,rfl⟩:=List.append_eq_nil_iff.1 e2.symm
  cases ts with
  | nil=>exact ⟨a,ht,h1⟩
  | cons b ts=>simp [okL] at h2
theorem read_slice {e:TypeId} (hu:Tryz.prog.underlying t=some (.slice e)) (hp:plainT (szOf E) Tryz.prog n t=true) (h:DataW.Trod enc Tryz.prog W 0 (fun _=>true) true t v d p) (hv:Value.okWide Tryz.prog W .any base t v)
  (hwt:∀ k,k∈d.weights Tryz.prog t→k≤reachBytes):∃ a,TreeT Tryz.prog n t [a]∧okV (szOf E) W.heap (fun b=>b < W.heap.size) a v []:=by
 obtain ⟨a,len,cap,rfl⟩:=okWide_slice hu hv
 exact read_cell hp h rfl hwt
theorem read_int {k:IntKind} (hu:Tryz.prog.underlying t=some (.int k)) (hp:plainT (szOf E) Tryz.prog n t=true) (h:DataW.Trod enc Tryz.prog W 0 (fun _=>true) true t v d p) (hv:Value.okWide Tryz.prog W .any base t v)
  (hwt:∀ k,k∈d.weights Tryz.prog t→k≤reachBytes):∃ a,TreeT Tryz.prog n t [a]∧okV (szOf E) W.heap (fun b=>b < W.heap.size) a v []:=by
 obtain ⟨m,rfl⟩:=okWide_int hu hv
 exact read_cell hp h rfl hwt
end
theorem tree_act {n:Nat} {ts:List T} (h:TreeT Tryz.prog (n+3) 114 ts):∃ a:Act,ts=aT a∧FitA a:=by
 unfold TreeT at h
 rw [Tryz.underlying114] at h
 obtain ⟨c1,r1,rfl,h1,c2,r2,rfl,h2,c3,r3,rfl,h3,rfl⟩:=h
 obtain ⟨x1,rfl,_⟩:=tree_int h1
 obtain ⟨x2,rfl,_⟩:=tree_int h2
 obtain ⟨x3,rfl,l3⟩:=tree_ints h3
 exact ⟨⟨x1,x2,x3⟩,rfl,l3⟩
end Go.TM.Ft
