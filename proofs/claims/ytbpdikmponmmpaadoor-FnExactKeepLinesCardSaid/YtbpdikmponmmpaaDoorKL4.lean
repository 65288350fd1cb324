/- What functions of the program come to, by the machine. -/
import Derived.Test.YtbpdikmponmmpaaDoorKL3
set_option linter.unusedSimpArgs false
set_option linter.unusedVariables false
set_option maxHeartbeats 16000000
namespace Go.TM.Dw
open Go Go.TM Go.Proofs
set_option maxRecDepth 20000
attribute [local congr] gif_cg
attribute [local simp] footOf noClash clash upsets setsHit setHits layHits layMeets setsMeet evFeet
theorem lsz14 (all:List ByteArray) (hall:all.length<2 ^ 62) (hsz:∀ s,s∈all→s.size<2 ^ 62):∀ (rest:List ByteArray) (i:Nat) (left:Int),all.drop i=rest→i+rest.length=all.length→0≤left→left≤1048576→
  ((∀ s,s∈rest→(s.size:Int)≤1048576)∧∃ x:Int,0≤x∧evLoop E (orc E) (14:Nat) (rest.length+1) (loopOf Tryd.f14 0) ⟨28,[(0,.sl 9 (all.map wT)),(1,vI left),(5,vI i)],[],2⟩=
   some (.exit 0,⟨28,[(0,.sl 9 (all.map wT)),(1,vI x),(5,vI all.length),(15,vB false)],[],2⟩))∨
  evLoop E (orc E) (14:Nat) (rest.length+1) (loopOf Tryd.f14 0) ⟨28,[(0,.sl 9 (all.map wT)),(1,vI left),(5,vI i)],[],2⟩=some (.ret,⟨28,[(4,vI (-1))],[],2⟩)
 | [],i,left,h,hl,h0,h1=>by
  simp only[List.length_nil,Nat.add_zero] at hl
  subst hl
  have hlt:ltI (all.length:Int) (all.length:Int)=false:=ltI_f (by omega)
  refine .inl ⟨fun s hs=>by simp at hs,left,h0,?_⟩
  rw[loop_eq]
  simp +contextual -dsimp [Tryd.f14,hlt]
 | c::rest,i,left,h,hl,h0,h1=>by
  obtain⟨hi,hc,hr⟩:=drop_cons h
  simp only[List.length_cons] at hl
  obtain⟨j,ej⟩:∃ j,j=i+1:=⟨_,rfl⟩
  rw[←ej] at hr
  have hlt:ltI (i:Int) (all.length:Int)=true:=ltI_t (by omega)
  have hw:IntKind.i64.wrap ((i:Int)+1)=(j:Int):=by rw[wrapI]<;>omega
  have hcs:=hsz c (by rw[←hc];exact List.getElem_mem hi)
  have hw2:IntKind.i64.wrap (left - (c.size:Int))=left - (c.size:Int):=by rw[wrapI]<;>omega
  by_cases q:left<(c.size:Int)
  ·have q1:ltI (left - (c.size:Int)) 0=true:=ltI_t (by omega)
   refine .inr (evLoop_out ?_ (by simp))
   simp (maxSteps:=1000000) +contextual -dsimp [Tryd.f14,hlt,hi,hc,hw,hw2,q1,List.set]
  ·have q1:ltI (left - (c.size:Int)) 0=false:=ltI_f (by omega)
   have step:∀ {r},evLoop E (orc E) (14:Nat) (rest.length+1) (loopOf Tryd.f14 0) ⟨28,[(0,.sl 9 (all.map wT)),(1,vI (left - (c.size:Int))),(5,vI j)],[],2⟩=r→
     evLoop E (orc E) (14:Nat) (rest.length+1+1) (loopOf Tryd.f14 0) ⟨28,[(0,.sl 9 (all.map wT)),(1,vI left),(5,vI i)],[],2⟩=r:=fun ih=>by
    refine evLoop_next ?_ ih
    simp (maxSteps:=1000000) +contextual -dsimp [Tryd.f14,hlt,hi,hc,hw,hw2,q1,List.set]
   rcases lsz14 all hall hsz rest j (left - (c.size:Int)) hr (by omega) (by omega) (by omega) with⟨k,x,hx,ih⟩ | ih
   ·refine .inl ⟨fun s hs=>?_,x,hx,step ih⟩
    rcases List.mem_cons.1 hs with rfl | hs
    ·omega
    ·exact k s hs
   ·exact .inr (step ih)
theorem g_sz (l:List ByteArray) (hl:l.length<2 ^ 62) (hsz:∀ s,s∈l→s.size<2 ^ 62):∃ x:Int,fo 14 [A (.sl 9 (l.map wT)),A (vI 1048576)]=some (R (vI x))∧(ltI x 0=false→l.length≤1048576∧∀ s,s∈l→s.size≤1048576):=by
 have hw:IntKind.i64.wrap (1048576 - (l.length:Int))=1048576 - (l.length:Int):=by rw[wrapI]<;>omega
 by_cases q:1048576<l.length
 ·have q1:ltI (1048576 - (l.length:Int)) 0=true:=ltI_t (by omega)
  refine⟨-1,orc_14 1 ?_,fun h=>by simp[ltI] at h⟩
  simp (maxSteps:=1000000) +contextual -dsimp [Tryd.f14,q1,hw,List.set]
 ·have q1:ltI (1048576 - (l.length:Int)) 0=false:=ltI_f (by omega)
  rcases lsz14 l hl hsz l 0 (1048576 - (l.length:Int)) rfl (by omega) (by omega) (by omega) with⟨k,x,hx,lp⟩ | lp
  ·simp -dsimp [Tryd.f14] at lp
   refine⟨x,orc_14 (l.length+1) ?_,fun _=>⟨by omega,fun s hs=>by have:=k s hs;omega⟩⟩
   simp (maxSteps:=1000000) +contextual -dsimp [Tryd.f14,q1,hw,lp,List.set]
  ·simp -dsimp [Tryd.f14] at lp
   refine⟨-1,orc_14 (l.length+1) ?_,fun h=>by simp[ltI] at h⟩
   simp (maxSteps:=1000000) +contextual -dsimp [Tryd.f14,q1,hw,lp,List.set]
theorem lto16 (all:List ByteArray) (n:Nat) (en:n=all.length) (hall:n≤2097152):∀ (rest:List ByteArray) (i:Nat) (es:List (List T)),es.length=n→all.drop i=rest→i+rest.length=n→(∀ (j:Nat) (hj:j<es.length),i≤j→es[j]=[vS ⟨#[]⟩])→
  evLoop E (orc E) (16:Nat) (rest.length+1) (loopOf Tryd.f16 0) ⟨22,[(0,.sl 9 (all.map wT)),(3,.ref 3 1 [] 0 n),(4,vI i)],[(3,⟨1,1,false,[.own 9 es]⟩)],2⟩=
  some (.exit 0,⟨22,[(0,.sl 9 (all.map wT)),(3,.ref 3 1 [] 0 n),(4,vI n),(11,vB false)],[(3,⟨1,1,false,[.own 9 (es.take i++rest.map wT)]⟩)],2⟩)
 | [],i,es,hl,h,hi,hz=>by
  have e:i=n:=by simpa using hi
  subst e
  have hlt:ltI (i:Int) (i:Int)=false:=ltI_f (by omega)
  have ht:es.take i=es:=List.take_of_length_le (by omega)
  rw[loop_eq]
  simp +contextual -dsimp [Tryd.f16,hlt,ht,←en]
 | x::rest,i,es,hl,h,hi,hz=>by
  simp only[List.length_cons] at hi
  obtain⟨hi1,hc,hr⟩:=drop_cons h
  have hin:i<n:=by omega
  have hi2:i<es.length:=by omega
  have hlt:ltI (i:Int) (n:Int)=true:=ltI_t (by omega)
  have hw:IntKind.i64.wrap ((i:Int)+1)=((i+1:Nat):Int):=by rw[wrapI]<;>omega
  have ih:=lto16 all n en hall rest (i+1) (es.set i (wT x)) (by simpa using hl) hr (by omega) (fun j hj h1=>by rw[List.getElem_set_ne (by omega)];exact hz j (by simpa using hj) (by omega))
  have hes:(es.set i (wT x)).take (i+1)=es.take i++[wT x]:=by
   rw[List.take_add_one,List.take_set_of_le (Nat.le_refl _)]
   simp[hi2]
  rw[hes,List.append_assoc] at ih
  refine evLoop_next ?_ (by simpa only[List.length_cons,List.map_cons,List.singleton_append] using ih)
  have he0:=hz i hi2 (Nat.le_refl _)
  simp (maxSteps:=1000000) +contextual -dsimp [Tryd.f16,←en,hlt,hi1,hi2,hin,hc,hw,hl,he0,List.set]
theorem g_toW (l:List ByteArray) (hl:l.length≤2097152):fo 16 [A (.sl 9 (l.map wT))]=some (R (.own 9 (l.map wT))):=by
 have lp:=lto16 l l.length rfl hl l 0 (List.replicate l.length [vS ⟨#[]⟩]) (by simp) rfl (by omega) (fun j hj _=>by simp)
 have hm:l.length≤maxElems:=by unfold maxElems;omega
 have hc:=oclean_W l
 simp -dsimp [Tryd.f16] at lp
 refine orc_16 (l.length+1) ?_
 simp (maxSteps:=1000000) +contextual -dsimp [Tryd.f16,lp,hm,hc,List.set]
def keepP (inst:Int) (s:ByteArray):Bool:=orB (notB (eqI (instM (wds s)).2 0)) (eqI (instM (wds s)).1 inst)
def keepL (inst:Int) (l:List ByteArray):List ByteArray:=l.filter (keepP inst)
theorem lp15 (inst:Int) (all:List ByteArray) (hall:all.length≤60) (hsz:∀ s,s∈all→s.size≤1048576):∀ (rest:List ByteArray) (i:Nat) (out:List ByteArray),all.drop i=rest→out.length≤i→i+rest.length=all.length→
  evLoop E (orc E) (15:Nat) (rest.length+1) (loopOf Tryd.f15 0) ⟨45,[(0,.sl 9 (all.map wT)),(1,vI inst),(4,.ptr 4 1 [] 0),(5,.ptr 5 1 [] 0),(6,vI i)],[(4,⟨1,1,true,[vI 0,.own 9 []]⟩),(5,⟨1,1,true,[vI 0,.own 9 (out.map wT)]⟩)],2⟩=
  some (.exit 0,⟨45,[(0,.sl 9 (all.map wT)),(1,vI inst),(4,.ptr 4 1 [] 0),(5,.ptr 5 1 [] 0),(6,vI all.length),(17,vB false)],[(4,⟨1,1,true,[vI 0,.own 9 []]⟩),(5,⟨1,1,true,[vI 0,.own 9 ((out++keepL inst rest).map wT)]⟩)],2⟩)
 | [],i,out,h,ho,hl=>by
  simp only[List.length_nil,Nat.add_zero] at hl
  subst hl
  have hlt:ltI (all.length:Int) (all.length:Int)=false:=ltI_f (by omega)
  have e:out++keepL inst []=out:=by simp[keepL]
  rw[loop_eq,e]
  simp +contextual -dsimp [Tryd.f15,hlt]
 | c::rest,i,out,h,ho,hl=>by
  obtain⟨hi,hc,hr⟩:=drop_cons h
  simp only[List.length_cons] at hl
  obtain⟨j,ej⟩:∃ j,j=i+1:=⟨_,rfl⟩
  rw[←ej] at hr
  have hlt:ltI (i:Int) (all.length:Int)=true:=ltI_t (by omega)
  have hw:IntKind.i64.wrap ((i:Int)+1)=(j:Int):=by rw[wrapI]<;>omega
  have g:=f_l15I c (hsz c (by rw[←hc];exact List.getElem_mem hi))
  have hm:out.length+1≤maxElems:=by unfold maxElems;omega
  cases q:keepP inst c with
  | true=>
   have e:out++keepL inst (c::rest)=(out++[c])++keepL inst rest:=by simp[keepL,q]
   have ih:=lp15 inst all hall hsz rest j (out++[c]) hr (by simp;omega) (by omega)
   rw[e]
   unfold keepP at q
   generalize (instM (wds c)).1=n at *
   generalize (instM (wds c)).2=k at *
   refine evLoop_next ?_ (by simpa only[List.length_cons] using ih)
   simp (maxSteps:=1000000) +contextual -dsimp [Tryd.f15,hlt,hi,hc,hw,g,q,hm,List.set]
  | false=>
   have e:out++keepL inst (c::rest)=out++keepL inst rest:=by simp[keepL,q]
   have ih:=lp15 inst all hall hsz rest j out hr (by omega) (by omega)
   rw[e]
   unfold keepP at q
   generalize (instM (wds c)).1=n at *
   generalize (instM (wds c)).2=k at *
   refine evLoop_next ?_ (by simpa only[List.length_cons] using ih)
   simp (maxSteps:=1000000) +contextual -dsimp [Tryd.f15,hlt,hi,hc,hw,g,q,List.set]
def keepM (inst:Int) (l:List ByteArray):Int×List ByteArray:=if 60<l.length then (2,[]) else (0,keepL inst l)
theorem f4_Keep (l:List ByteArray) (inst:Int) (hsz:∀ s,s∈l→s.size≤1048576):fo 15 [A (.sl 9 (l.map wT)),A (vI inst)]=some (R (.agg [vI (keepM inst l).1,.own 9 ((keepM inst l).2.map wT)])):=by
 unfold keepM
 by_cases h:60<l.length
 ·have q:ltI 60 (l.length:Int)=true:=ltI_t (by omega)
  rw[if_pos h]
  refine orc_15 1 ?_
  simp (maxSteps:=1000000) +contextual -dsimp [Tryd.f15,q,List.set]
 ·have q:ltI 60 (l.length:Int)=false:=ltI_f (by omega)
  rw[if_neg h]
  have lp:=lp15 inst l (by omega) hsz l 0 [] rfl (by simp) (by omega)
  rw[List.nil_append] at lp
  have hc:=oclean_W (keepL inst l)
  simp -dsimp [Tryd.f15] at lp
  refine orc_15 (l.length+1) ?_
  simp (maxSteps:=1000000) +contextual -dsimp [Tryd.f15,q,lp,hc,List.set]
theorem lp17 (inst:Int) (all:List ByteArray) (hall:all.length≤60) (hsz:∀ s,s∈all→s.size≤1048576):∀ (rest:List ByteArray) (i:Nat) (out:List ByteArray),all.drop i=rest→out.length≤i→i+rest.length=all.length→
  evLoop E (orc E) (17:Nat) (rest.length+1) (loopOf Tryd.f17 0) ⟨39,[(1,vI inst),(4,.ptr 4 1 [] 0),(5,.ptr 5 1 [] 0),(14,.sl 9 (all.map wT)),(15,vI all.length),(16,vI i)],[(4,⟨1,1,true,[vI 0,.own 9 []]⟩),(5,⟨1,1,true,[vI 0,.own 9 (out.map wT)]⟩)],2⟩=
  some (.exit 0,⟨39,[(1,vI inst),(4,.ptr 4 1 [] 0),(5,.ptr 5 1 [] 0),(14,.sl 9 (all.map wT)),(15,vI all.length),(16,vI all.length),(17,vB false)],[(4,⟨1,1,true,[vI 0,.own 9 []]⟩),(5,⟨1,1,true,[vI 0,.own 9 ((out++keepL inst rest).map wT)]⟩)],2⟩)
 | [],i,out,h,ho,hl=>by
  simp only[List.length_nil,Nat.add_zero] at hl
  subst hl
  have hlt:ltI (all.length:Int) (all.length:Int)=false:=ltI_f (by omega)
  have e:out++keepL inst []=out:=by simp[keepL]
  rw[loop_eq,e]
  simp +contextual -dsimp [Tryd.f17,hlt]
 | c::rest,i,out,h,ho,hl=>by
  obtain⟨hi,hc,hr⟩:=drop_cons h
  simp only[List.length_cons] at hl
  obtain⟨j,ej⟩:∃ j,j=i+1:=⟨_,rfl⟩
  rw[←ej] at hr
  have hlt:ltI (i:Int) (all.length:Int)=true:=ltI_t (by omega)
  have hw:IntKind.i64.wrap ((i:Int)+1)=(j:Int):=by rw[wrapI]<;>omega
  have g:=f_InstOf c (hsz c (by rw[←hc];exact List.getElem_mem hi))
  have hm:out.length+1≤maxElems:=by unfold maxElems;omega
  cases q:keepP inst c with
  | true=>
   have e:out++keepL inst (c::rest)=(out++[c])++keepL inst rest:=by simp[keepL,q]
   have ih:=lp17 inst all hall hsz rest j (out++[c]) hr (by simp;omega) (by omega)
   rw[e]
   unfold keepP at q
   generalize (instM (wds c)).1=n at *
   generalize (instM (wds c)).2=k at *
   refine evLoop_next ?_ (by simpa only[List.length_cons] using ih)
   simp (maxSteps:=1000000) +contextual -dsimp [Tryd.f17,hlt,hi,hc,hw,g,q,hm,List.set]
  | false=>
   have e:out++keepL inst (c::rest)=out++keepL inst rest:=by simp[keepL,q]
   have ih:=lp17 inst all hall hsz rest j out hr (by omega) (by omega)
   rw[e]
   unfold keepP at q
   generalize (instM (wds c)).1=n at *
   generalize (instM (wds c)).2=k at *
   refine evLoop_next ?_ (by simpa only[List.length_cons] using ih)
   simp (maxSteps:=1000000) +contextual -dsimp [Tryd.f17,hlt,hi,hc,hw,g,q,List.set]
theorem f_Keep (l:List ByteArray) (inst:Int) (hsz:∀ s,s∈l→s.size≤1048576):fo 17 [A (.sl 9 (l.map wT)),A (vI inst)]=some (R (.agg [vI (keepM inst l).1,.own 9 ((keepM inst l).2.map wT)])):=by
 unfold keepM
 by_cases h:60<l.length
 ·have q:ltI 60 (l.length:Int)=true:=ltI_t (by omega)
  rw[if_pos h]
  refine orc_17 1 ?_
  simp (maxSteps:=1000000) +contextual -dsimp [Tryd.f17,q,List.set]
 ·have q:ltI 60 (l.length:Int)=false:=ltI_f (by omega)
  rw[if_neg h]
  have lp:=lp17 inst l (by omega) hsz l 0 [] rfl (by simp) (by omega)
  rw[List.nil_append] at lp
  have hc:=oclean_W (keepL inst l)
  simp -dsimp [Tryd.f17] at lp
  refine orc_17 (l.length+1) ?_
  simp (maxSteps:=1000000) +contextual -dsimp [Tryd.f17,q,lp,hc,List.set]
theorem g_eqTRc (k:Int) (l:List ByteArray) (hl:l.length≤2097152):fo 8 [A (.agg [vI k,.sl 9 (l.map wT)]),A (.agg [vI k,.sl 9 (l.map wT)])]=some (R (vB true)):=by
 have g:=g_eqW l hl
 refine orc_8 1 ?_
 simp (maxSteps:=1000000) +contextual -dsimp [Tryd.f8,g,eqI_self,List.set]
theorem o_markTRc (c:Int) (l:List ByteArray) (k:Int) (h0:0≤k) (h1:k+(l.length:Nat)<2 ^ 59) (hl:l.length≤2097152):∃ b,fo 9 [⟨.agg [vI c,.ref 0 0 [] 1 l.length],some ⟨0,0,false,[.dead,.own 9 (l.map wT)]⟩⟩,A (vI k)]=some ⟨vI (k+(l.length:Nat)),[(0,[vI c,.own 9 ((mksW k l).map wT)])],b⟩:=by
 obtain⟨b0,g0⟩:=o_markW l k h0 (by omega) hl
 have hc:=oclean_W (mksW k l)
 generalize k+(l.length:Int)=k1 at *
 generalize mksW k l=y at *
 refine⟨true,orc_9 1 ?_⟩
 simp (maxSteps:=1000000) +contextual -dsimp [Tryd.f9,g0,hc,evBodyB,boxed,finishB,finishL,mergeL,lendEff,lendOne,lendMany,firstRef,lendRow,lendCell,putRow,putBack,valArg,List.set]
 all_goals (repeat' (first | rfl | constructor))
theorem o_heldTRc (c:Int) (l:List ByteArray) (k:Int) (h0:0≤k) (h1:k+(l.length:Nat)<2 ^ 59) (hl:l.length≤2097152):fo 10 [A (.agg [vI c,.sl 9 ((mksW k l).map wT)]),A (vI k)]=some (R (vI (k+(l.length:Nat)))):=by
 have g:=o_heldW l k h0 (by omega) hl
 have n1:ltI (k+(l.length:Int)) 0=false:=ltI_f (by omega)
 generalize k+(l.length:Int)=k1 at *
 generalize mksW k l=y at *
 refine orc_10 1 ?_
 simp (maxSteps:=1000000) +contextual -dsimp [Tryd.f10,g,n1,List.set]
theorem keepM_len (inst:Int) (l:List ByteArray):(keepM inst l).2.length≤60:=by
 unfold keepM
 split
 ·simp
 ·have:=List.length_filter_le (keepP inst) l
  show (keepL inst l).length≤60
  unfold keepL
  omega
theorem f_LawK (l:List ByteArray) (inst:Int) (hl:l.length<2 ^ 62) (hz:∀ s,s∈l→s.size<2 ^ 62):fo 5 [A (.sl 9 (l.map wT)),A (vI inst)]=some (R (vB true)):=by
 obtain⟨x0,s0,s1⟩:=g_sz l hl hz
 cases c0:ltI x0 0
 rotate_left
 ·refine orc_5 1 ?_
  simp (maxSteps:=1000000) +contextual -dsimp [Tryd.f5,s0,c0,List.set]
 obtain⟨hl1,hsz⟩:=s1 c0
 have t0:=g_toW l (by omega)
 have r1:=f4_Keep l inst hsz
 have r2:=f_Keep l inst hsz
 have hk:=keepM_len inst l
 generalize (keepM inst l).1=c at *
 generalize (keepM inst l).2=k at *
 have qx:=g_eqTRc c k (by omega)
 have q0:=g_eqW l (by omega)
 obtain⟨d0,m0⟩:=o_markW l 1 (by omega) (by omega) (by omega)
 obtain⟨dx,mx⟩:=o_markTRc c k 1 (by omega) (by omega) (by omega)
 have hx:=o_heldTRc c k 1 (by omega) (by omega) (by omega)
 have n1:ltI (1+(l.length:Int)) 0=false:=ltI_f (by omega)
 have n2:ltI (1+(k.length:Int)) 0=false:=ltI_f (by omega)
 have hly:(mksW 1 k).length=k.length:=mksW_len 1 k
 have hlz:(mksW 1 l).length=l.length:=mksW_len 1 l
 generalize 1+(k.length:Int)=ax at *
 generalize mksW 1 k=y at *
 generalize 1+(l.length:Int)=az at *
 generalize mksW 1 l=z at *
 have t1:=osealed_W l
 have t2:=osealed_W k
 have t3:=osealed_W y
 have t4:=osealed_W z
 have t5:=oclean_W k
 have t6:=oclean_W y
 have t7:=oclean_W l
 have t8:=oclean_W z
 refine orc_5 1 ?_
 simp (maxSteps:=4000000) +contextual -dsimp [Tryd.f5,s0,c0,t0,r1,r2,qx,q0,m0,mx,hx,hly,hlz,n1,n2,t1,t2,t3,t4,t5,t6,t7,t8,eqI_self,lendEff,lendOne,lendMany,firstRef,lendRow,lendCell,putRow,putBack,valArg,List.set]
end Go.TM.Dw
