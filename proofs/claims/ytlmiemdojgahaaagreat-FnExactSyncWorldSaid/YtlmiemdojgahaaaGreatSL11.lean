/- What functions of the program come to, by the machine. -/
import Derived.Test.YtlmiemdojgahaaaGreatSL10
import Derived.Test.YtlmiemdojgahaaaGreatSL8
import Derived.Test.YtlmiemdojgahaaaGreatSL5
import Derived.Test.YtlmiemdojgahaaaGreatSL9
import Derived.Test.YtlmiemdojgahaaaGreatSL7
set_option linter.unusedSimpArgs false
set_option linter.unusedVariables false
namespace Go.TM.Ft
open Go Go.TM Go.Proofs
set_option maxRecDepth 20000
attribute [local congr] gif_cg
attribute [local simp] footOf noClash clash upsets setsHit setHits layHits layMeets setsMeet evFeet
theorem osealed_byte (l:List UInt8):sealEs (l.map yV)=l.map yV:=sealEs_map (f:=yV) (g:=yV) (fun a=>by simp [sealL,seal_]) l
theorem oclean_byte (l:List UInt8):cleanEs (l.map yV)=true:=by
 induction l with
 | nil=>rfl
 | cons x l ih=>simp only [List.map_cons,cleanEs,ih,Bool.and_true]; simp [cleanL,clean]
abbrev zY:List T:=[vU 0]
theorem oltobyteS (all:List UInt8) (hall:all.length≤1048576):∀ (rest:List UInt8) (i:Nat) (es:List (List T)),all.drop i=rest→es.length=all.length→(∀ j,i≤j→j < all.length→es[j]?=some zY)→
  evLoop E (orc E) (210:Nat) (rest.length+1) (loopOf Tryz.f210 0) ⟨22,[(0,.sl 5 (all.map yV)),(3,.ref 3 1 [] 0 all.length),(4,vI i)],[(3,⟨1,1,false,[.own 5 es]⟩)],2⟩=
  some (.exit 0,⟨22,[(0,.sl 5 (all.map yV)),(3,.ref 3 1 [] 0 all.length),(4,vI (i+rest.length:Nat)),(11,vB false)],[(3,⟨1,1,false,[.own 5 (es.take i++rest.map yV)]⟩)],2⟩)
 | [],i,es,h,hl,hz=>by
  have hge:all.length≤i:=by simpa using h
  have hlt:ltI (i:Int) (all.length:Int)=false:=ltI_f (by omega)
  have ht:es.take i=es:=List.take_of_length_le (by omega)
  rw [loop_eq]
  simp +contextual -dsimp [Tryz.f210,hlt,ht]
 | x::rest,i,es,h,hl,hz=>by
  obtain ⟨hi,hc,hr⟩:=drop_cons h
  have hlt:ltI (i:Int) (all.length:Int)=true:=ltI_t (by omega)
  have hw:IntKind.i64.wrap ((i:Int)+1)=((i+1:Nat):Int):=by rw [wrapI] <;> omega
  have hi2:i < es.length:=by omega
  have hz1:es[i]=zY:=by
   have:=hz i (Nat.le_refl _) hi
   rw [List.getElem?_eq_getElem hi2] at this
   simpa using this
  have ih:=oltobyteS all hall rest (i+1) (es.set i (yV x)) hr (by simpa using hl) (fun j hj hj2=>by
   rw [List.getElem?_set_ne (by omega)]
   exact hz j (by omega) hj2)
  have he:i+1+rest.length=i+(rest.length+1):=by omega
  have hes:(es.set i (yV x)).take (i+1)=es.take i++[yV x]:=by
   rw [List.take_add_one,List.take_set_of_le (Nat.le_refl _)]
   simp [hi2]
  rw [he,hes,List.append_assoc] at ih
  refine evLoop_next ?_ (by simpa only [List.length_cons,List.map_cons,List.singleton_append] using ih)
  simp (maxSteps:=1000000) +contextual -dsimp [Tryz.f210,hlt,hi,hi2,hc,hw,hz1,hl,List.set]
theorem o_tobyteS (l:List UInt8) (hl:l.length≤1048576):fo 210 [A (.sl 5 (l.map yV))]=some ⟨.own 5 (l.map yV),[],true⟩:=by
 have hm:(l.length:Int)≤(maxElems:Nat):=by unfold maxElems; omega
 have hlp:=oltobyteS l hl l 0 (List.replicate l.length zY) rfl (by simp) (fun j _ hj=>by simp [hj])
 have hcl:=oclean_byte l
 refine orc_210 (l.length+1) ?_
 simp -dsimp [Tryz.f210] at hlp
 simp (maxSteps:=1000000) +contextual -dsimp [Tryz.f210,hm,hlp,hcl,finishL,mergeL,List.set]
def u8 (k:Int):UInt8:=UInt8.ofNat (k.toNat % 256)
theorem u8_mark {k:Int} (h:0≤k):IntKind.u8.wrap k=((u8 k).toNat:Int):=by
 have e:(u8 k).toNat=k.toNat % 256:=by simp [u8]
 rw [e]
 show k % 256=_
 omega
def mksbyte:Int→List UInt8→List UInt8
 | _,[]=>[]
 | k,_::r=>u8 k::mksbyte (k+1) r
def ctsbyte (l:List UInt8):Nat:=l.length
theorem ctsbyte_nil:ctsbyte []=0:=rfl
theorem ctsbyte_cons (x:UInt8) (r:List UInt8):ctsbyte (x::r)=1+ctsbyte r:=by simp only [ctsbyte,List.length_cons]; omega
set_option maxHeartbeats 4000000 in
theorem lmkbyteS (n:Nat) (hn:n≤2097152):∀ (rest:List UInt8) (i:Nat) (es:List (List T)) (k:Int),es.length=n→i+rest.length=n→es.drop i=rest.map yV→0≤k→k+(ctsbyte rest:Nat) < 2 ^ 60→
  evLoop E (orc E) (215:Nat) (rest.length+1) (loopOf Tryz.f215 0) ⟨20,[(0,.ref 0 0 [] 0 n),(1,vI k),(5,vI i)],[(0,⟨0,0,false,[.own 5 es]⟩)],2⟩=
  some (.exit 0,⟨20,[(0,.ref 0 0 [] 0 n),(1,vI (k+(ctsbyte rest:Nat))),(5,vI (n:Nat)),(9,vB false)],[(0,⟨0,0,false,[.own 5 (es.take i++(mksbyte k rest).map yV)]⟩)],2⟩)
 | [],i,es,k,hl,hi,h,h0,h1=>by
  have e:i=n:=by simpa using hi
  subst e
  have hlt:ltI (i:Int) (i:Int)=false:=ltI_f (by omega)
  have ht:es.take i=es:=List.take_of_length_le (by omega)
  rw [loop_eq]
  simp +contextual -dsimp [Tryz.f215,hlt,ht,ctsbyte_nil,mksbyte]
 | x::rest,i,es,k,hl,hi,h,h0,h1=>by
  simp only [List.length_cons] at hi
  have hin:i < n:=by omega
  have hi2:i < es.length:=by omega
  have hlt:ltI (i:Int) (n:Int)=true:=ltI_t (by omega)
  have hw:IntKind.i64.wrap ((i:Int)+1)=((i+1:Nat):Int):=by rw [wrapI] <;> omega
  have hd:=List.drop_eq_getElem_cons hi2
  rw [h,List.map_cons,List.cons.injEq] at hd
  obtain ⟨hz1,hr⟩:=hd
  have hz1:=hz1.symm
  rw [ctsbyte_cons] at h1
  obtain ⟨k1,e1⟩:∃ z,z=k+1:=⟨_,rfl⟩
  have w0:IntKind.i64.wrap (k+1)=k1:=by rw [e1,wrapI] <;> omega
  have w1:=u8_mark h0
  have hk:k1+(ctsbyte rest:Nat)=k+(ctsbyte (x::rest):Nat):=by rw [ctsbyte_cons]; omega
  have hm:mksbyte k (x::rest)=u8 k::mksbyte k1 rest:=by rw [e1]; rfl
  have ih:=lmkbyteS n hn rest (i+1) (es.set i (yV (u8 k))) k1 (by simpa using hl) (by omega) (by rw [List.drop_set_of_lt (by omega)]; exact hr.symm) (by omega) (by omega)
  have hes:(es.set i (yV (u8 k))).take (i+1)=es.take i++[yV (u8 k)]:=by
   rw [List.take_add_one,List.take_set_of_le (Nat.le_refl _)]
   simp [hi2]
  rw [hk,hes,List.append_assoc] at ih
  rw [hm]
  refine evLoop_next ?_ (by simpa only [List.length_cons,List.map_cons,List.singleton_append] using ih)
  simp (maxSteps:=1000000) +contextual -dsimp [Tryz.f215,hlt,hi2,hin,hw,hz1,hl,w0,w1,pr_cvt,List.set]
set_option maxHeartbeats 4000000 in
theorem o_markByteS (l:List UInt8) (k:Int) (h0:0≤k) (h1:k+(ctsbyte l:Nat) < 2 ^ 60) (hn:l.length≤2097152):∃ b,fo 215 [⟨.ref 0 0 [] 0 l.length,some ⟨0,0,false,[.own 5 (l.map yV)]⟩⟩,A (vI k)]=some ⟨vI (k+(ctsbyte l:Nat)),[(0,[.own 5 ((mksbyte k l).map yV)])],b⟩:=by
 have hlp:=lmkbyteS l.length hn l 0 (l.map yV) k (by simp) (by simp) rfl h0 (by omega)
 refine ⟨true,orc_215 (l.length+1) ?_⟩
 generalize k+(ctsbyte l:Nat)=k' at *
 generalize mksbyte k l=l' at *
 simp -dsimp [Tryz.f215] at hlp
 simp (maxSteps:=1000000) +contextual -dsimp [Tryz.f215,hlp,finishL,mergeL,List.set]
set_option maxHeartbeats 4000000 in
theorem lhdbyteS (all:List UInt8) (hall:all.length≤2097152):∀ (rest:List UInt8) (i:Nat) (k:Int),all.drop i=mksbyte k rest→0≤k→k+(ctsbyte rest:Nat) < 2 ^ 60→
  evLoop E (orc E) (259:Nat) (rest.length+1) (loopOf Tryz.f259 0) ⟨22,[(0,.sl 5 (all.map yV)),(1,vI k),(5,vI i)],[],2⟩=
  some (.exit 0,⟨22,[(0,.sl 5 (all.map yV)),(1,vI (k+(ctsbyte rest:Nat))),(5,vI (i+rest.length:Nat)),(9,vB false)],[],2⟩)
 | [],i,k,h,h0,h1=>by
  have hge:all.length≤i:=by simpa [mksbyte] using h
  have hlt:ltI (i:Int) (all.length:Int)=false:=ltI_f (by omega)
  rw [loop_eq]
  simp +contextual -dsimp [Tryz.f259,hlt,ctsbyte_nil]
 | x::rest,i,k,h,h0,h1=>by
  rw [ctsbyte_cons] at h1
  have he:i+1+rest.length=i+(rest.length+1):=by omega
  obtain ⟨k1,e1⟩:∃ z,z=k+1:=⟨_,rfl⟩
  have w0:IntKind.i64.wrap (k+1)=k1:=by rw [e1,wrapI] <;> omega
  have w1:=u8_mark h0
  have hk:k1+(ctsbyte rest:Nat)=k+(ctsbyte (x::rest):Nat):=by rw [ctsbyte_cons]; omega
  have hm:mksbyte k (x::rest)=u8 k::mksbyte k1 rest:=by rw [e1]; rfl
  rw [hm] at h
  obtain ⟨hi,hc,hr⟩:=drop_cons h
  have hlt:ltI (i:Int) (all.length:Int)=true:=ltI_t (by omega)
  have hw:IntKind.i64.wrap ((i:Int)+1)=((i+1:Nat):Int):=by rw [wrapI] <;> omega
  have ih:=lhdbyteS all hall rest (i+1) k1 hr (by omega) (by omega)
  rw [hk,he] at ih
  refine evLoop_next ?_ (by simpa only [List.length_cons] using ih)
  simp (maxSteps:=1000000) +contextual -dsimp [Tryz.f259,hlt,hi,hc,hw,w0,w1,pr_cvt,eqI_self,eqS_self,List.set]
theorem mksbyte_len:∀ (l:List UInt8) (k:Int),(mksbyte k l).length=l.length
 | [],_=>rfl
 | x::l,k=>by simp only [mksbyte,List.length_cons,mksbyte_len l]
theorem o_heldByteS (l:List UInt8) (k:Int) (h0:0≤k) (h1:k+(ctsbyte l:Nat) < 2 ^ 60) (hn:l.length≤2097152):fo 259 [A (.sl 5 ((mksbyte k l).map yV)),A (vI k)]=some (R (vI (k+(ctsbyte l:Nat)))):=by
 have hlp:=lhdbyteS (mksbyte k l) (by rw [mksbyte_len]; exact hn) l 0 k rfl h0 h1
 refine orc_259 (l.length+1) ?_
 generalize k+(ctsbyte l:Nat)=k' at *
 generalize mksbyte k l=l' at *
 simp -dsimp [Tryz.f259] at hlp
 simp (maxSteps:=1000000) +contextual -dsimp [Tryz.f259,hlp,List.set]
end Go.TM.Ft
namespace Go.TM.Ft
open Go Go.TM Go.Proofs
set_option maxRecDepth 20000
attribute [local congr] gif_cg
attribute [local simp] footOf noClash clash upsets setsHit setHits layHits layMeets setsMeet evFeet
end Go.TM.Ft
namespace Go.TM.Ft
open Go Go.TM Go.Proofs
set_option maxRecDepth 20000
attribute [local congr] gif_cg
attribute [local simp] footOf noClash clash upsets setsHit setHits layHits layMeets setsMeet evFeet seal4_iE seal4_set clean_iE osealed_Node oclean_Node
theorem one_nT (l:List Node):((l.map nT).all fun c=>c.all one1)=true:=by
 rw [List.all_eq_true]; intro c hc; obtain ⟨x,_,rfl⟩:=List.mem_map.1 hc; rfl
theorem f_CloneN (l:List Node) (hl:l.length≤1048576):fo 285 [A (nS 219 l)]=some ⟨.own 219 (l.map nT),[],true⟩:=by
 refine orc_ext (g:=cloneT 219) rfl ?_
 have h1:=one_nT l
 have h2:=elems_le hl
 simp only [cloneT]
 rw [if_pos ⟨trivial,h1,by simpa using h2⟩,oclean_Node]
theorem foldI_snoc {α:Type}:∀ (r:List α) (i:Nat) (acc:List α),foldI (fun _ acc x=>acc++[x]) i acc r=acc++r
 | [],_,acc=>by simp [foldI]
 | x::r,i,acc=>by simp only [foldI]; rw [foldI_snoc r]; simp
def SmS (s:Step):Prop:=s.cond.length≤1048576∧s.expr.length≤1048576
set_option maxHeartbeats 4000000 in
theorem lp246 (l:List Step) (hl:l.length≤1048576) (hf:∀ s,s∈l→SmS s):
  evLoop E (orc E) (246:Nat) (l.length+1) (loopOf Tryz.f246 0) ⟨27,[(3,.ref 3 1 [] 0 0),(7,.sl 124 (l.map (sT 219))),(8,vI l.length),(9,vI (0:Nat))],[(3,⟨1,1,false,[.own 124 []]⟩)],2⟩=
  some (.exit 0,⟨27,[(3,.ref 3 1 [] 0 l.length),(7,.sl 124 (l.map (sT 219))),(8,vI l.length),(9,vI l.length),(10,vB false)],[(3,⟨1,1,false,[.own 124 (l.map StepO)]⟩)],2⟩):=by
 have h:=loop_all (σ:=List Step) (f:=246) (id:=0) (code:=loopOf Tryz.f246 0) l (fun i acc=>acc.length=i)
  (fun i acc=>⟨27,[(3,.ref 3 1 [] 0 acc.length),(7,.sl 124 (l.map (sT 219))),(8,vI l.length),(9,vI i)],[(3,⟨1,1,false,[.own 124 (acc.map StepO)]⟩)],2⟩) (fun _ acc x=>acc++[x])
  (fun acc=>⟨27,[(3,.ref 3 1 [] 0 acc.length),(7,.sl 124 (l.map (sT 219))),(8,vI l.length),(9,vI l.length),(10,vB false)],[(3,⟨1,1,false,[.own 124 (acc.map StepO)]⟩)],2⟩)
 have h2:=h ?_ ?_ [] rfl
 ·rw [foldI_snoc] at h2; simpa using h2
 ·intro k acc _
  have hlt:=ltN_f l.length
  simp +contextual -dsimp [Tryz.f246,hlt]
 ·intro k i acc hi hI
  have hlt:=ltN_t hi
  have hw:=wrap1 hi (by omega)
  have hcap:acc.length+1≤maxElems:=by unfold maxElems; omega
  have hs:=hf l[i] (List.getElem_mem hi)
  have g1:=f_CloneN l[i].cond hs.1
  have g2:=f_CloneN l[i].expr hs.2
  refine ⟨?_,by simp [hI]⟩
  simp (maxSteps:=1000000) +contextual -dsimp [Tryz.f246,hlt,hi,hw,g1,g2,hcap,List.set]
theorem f_cloneSteps (l:List Step) (hl:l.length≤1048576) (hf:∀ s,s∈l→SmS s):fo 246 [A (.sl 124 (l.map (sT 219)))]=some ⟨.own 124 (l.map StepO),[],true⟩:=by
 have hlp:=lp246 l hl hf
 have hcl:=oclean_Step l
 refine orc_246 (l.length+1) ?_
 simp -dsimp [Tryz.f246] at hlp
 simp (maxSteps:=1000000) +contextual -dsimp [Tryz.f246,hlp,hcl,List.set]
set_option maxHeartbeats 4000000 in
theorem lp242 (l:List Step) (hl:l.length≤1048576) (hf:∀ s,s∈l→SmS s):
  evLoop E (orc E) (242:Nat) (l.length+1) (loopOf Tryz.f242 0) ⟨32,[(0,.sl 124 (l.map (sT 219))),(3,.ref 3 1 [] 0 0),(4,vI (0:Nat))],[(3,⟨1,1,false,[.own 124 []]⟩)],2⟩=
  some (.exit 0,⟨32,[(0,.sl 124 (l.map (sT 219))),(3,.ref 3 1 [] 0 l.length),(4,vI l.length),(10,vB false)],[(3,⟨1,1,false,[.own 124 (l.map StepO)]⟩)],2⟩):=by
 have h:=loop_all (σ:=List Step) (f:=242) (id:=0) (code:=loopOf Tryz.f242 0) l (fun i acc=>acc.length=i)
  (fun i acc=>⟨32,[(0,.sl 124 (l.map (sT 219))),(3,.ref 3 1 [] 0 acc.length),(4,vI i)],[(3,⟨1,1,false,[.own 124 (acc.map StepO)]⟩)],2⟩) (fun _ acc x=>acc++[x])
  (fun acc=>⟨32,[(0,.sl 124 (l.map (sT 219))),(3,.ref 3 1 [] 0 acc.length),(4,vI l.length),(10,vB false)],[(3,⟨1,1,false,[.own 124 (acc.map StepO)]⟩)],2⟩)
 have h2:=h ?_ ?_ [] rfl
 ·rw [foldI_snoc] at h2; simpa using h2
 ·intro k acc _
  have hlt:=ltN_f l.length
  simp +contextual -dsimp [Tryz.f242,hlt]
 ·intro k i acc hi hI
  have hlt:=ltN_t hi
  have hw:=wrap1 hi (by omega)
  have hcap:acc.length+1≤maxElems:=by unfold maxElems; omega
  have hs:=hf l[i] (List.getElem_mem hi)
  have h1:=one_nT l[i].cond
  have h2:=one_nT l[i].expr
  have h3:l[i].cond.length≤maxElems:=elems_le hs.1
  have h4:l[i].expr.length≤maxElems:=elems_le hs.2
  refine ⟨?_,by simp [hI]⟩
  simp (maxSteps:=1000000) +contextual -dsimp [Tryz.f242,hlt,hi,hw,h1,h2,h3,h4,hcap,List.set]
theorem f_l4Copy (l:List Step) (hl:l.length≤1048576) (hf:∀ s,s∈l→SmS s):fo 242 [A (.sl 124 (l.map (sT 219)))]=some ⟨.own 124 (l.map StepO),[],true⟩:=by
 have hlp:=lp242 l hl hf
 have hcl:=oclean_Step l
 refine orc_242 (l.length+1) ?_
 simp -dsimp [Tryz.f242] at hlp
 simp (maxSteps:=1000000) +contextual -dsimp [Tryz.f242,hlp,hcl,List.set]
abbrev SmP (p:List Step):Prop:=p.length≤1048576∧∀ s,s∈p→SmS s
set_option maxHeartbeats 4000000 in
theorem lp187 (l:List (List Step)) (hl:l.length≤1048576) (hf:∀ s,s∈l→SmP s):
  evLoop E (orc E) (187:Nat) (l.length+1) (loopOf Tryz.f187 0) ⟨22,[(3,.ref 3 1 [] 0 0),(7,.sl 160 (l.map (pT 124 219))),(8,vI l.length),(9,vI (0:Nat))],[(3,⟨1,1,false,[.own 160 []]⟩)],2⟩=
  some (.exit 0,⟨22,[(3,.ref 3 1 [] 0 l.length),(7,.sl 160 (l.map (pT 124 219))),(8,vI l.length),(9,vI l.length),(10,vB false)],[(3,⟨1,1,false,[.own 160 (l.map ProcO)]⟩)],2⟩):=by
 have h:=loop_all (σ:=List (List Step)) (f:=187) (id:=0) (code:=loopOf Tryz.f187 0) l (fun i acc=>acc.length=i)
  (fun i acc=>⟨22,[(3,.ref 3 1 [] 0 acc.length),(7,.sl 160 (l.map (pT 124 219))),(8,vI l.length),(9,vI i)],[(3,⟨1,1,false,[.own 160 (acc.map ProcO)]⟩)],2⟩) (fun _ acc x=>acc++[x])
  (fun acc=>⟨22,[(3,.ref 3 1 [] 0 acc.length),(7,.sl 160 (l.map (pT 124 219))),(8,vI l.length),(9,vI l.length),(10,vB false)],[(3,⟨1,1,false,[.own 160 (acc.map ProcO)]⟩)],2⟩)
 have h2:=h ?_ ?_ [] rfl
 ·rw [foldI_snoc] at h2; simpa using h2
 ·intro k acc _
  have hlt:=ltN_f l.length
  simp +contextual -dsimp [Tryz.f187,hlt]
 ·intro k i acc hi hI
  have hlt:=ltN_t hi
  have hw:=wrap1 hi (by omega)
  have hcap:acc.length+1≤maxElems:=by unfold maxElems; omega
  have hs:=hf l[i] (List.getElem_mem hi)
  have g1:=f_cloneSteps l[i] hs.1 hs.2
  refine ⟨?_,by simp [hI]⟩
  simp (maxSteps:=1000000) +contextual -dsimp [Tryz.f187,hlt,hi,hw,g1,hcap,List.set]
theorem f_cloneProcs (l:List (List Step)) (hl:l.length≤1048576) (hf:∀ s,s∈l→SmP s):fo 187 [A (.sl 160 (l.map (pT 124 219)))]=some ⟨.own 160 (l.map ProcO),[],true⟩:=by
 have hlp:=lp187 l hl hf
 have hcl:=oclean_Proc l
 refine orc_187 (l.length+1) ?_
 simp -dsimp [Tryz.f187] at hlp
 simp (maxSteps:=1000000) +contextual -dsimp [Tryz.f187,hlp,hcl,List.set]
set_option maxHeartbeats 4000000 in
theorem lp182 (l:List (List Step)) (hl:l.length≤1048576) (hf:∀ s,s∈l→SmP s):
  evLoop E (orc E) (182:Nat) (l.length+1) (loopOf Tryz.f182 0) ⟨23,[(0,.sl 160 (l.map (pT 124 219))),(3,.ref 3 1 [] 0 0),(4,vI (0:Nat))],[(3,⟨1,1,false,[.own 160 []]⟩)],2⟩=
  some (.exit 0,⟨23,[(0,.sl 160 (l.map (pT 124 219))),(3,.ref 3 1 [] 0 l.length),(4,vI l.length),(9,vB false)],[(3,⟨1,1,false,[.own 160 (l.map ProcO)]⟩)],2⟩):=by
 have h:=loop_all (σ:=List (List Step)) (f:=182) (id:=0) (code:=loopOf Tryz.f182 0) l (fun i acc=>acc.length=i)
  (fun i acc=>⟨23,[(0,.sl 160 (l.map (pT 124 219))),(3,.ref 3 1 [] 0 acc.length),(4,vI i)],[(3,⟨1,1,false,[.own 160 (acc.map ProcO)]⟩)],2⟩) (fun _ acc x=>acc++[x])
  (fun acc=>⟨23,[(0,.sl 160 (l.map (pT 124 219))),(3,.ref 3 1 [] 0 acc.length),(4,vI l.length),(9,vB false)],[(3,⟨1,1,false,[.own 160 (acc.map ProcO)]⟩)],2⟩)
 have h2:=h ?_ ?_ [] rfl
 ·rw [foldI_snoc] at h2; simpa using h2
 ·intro k acc _
  have hlt:=ltN_f l.length
  simp +contextual -dsimp [Tryz.f182,hlt]
 ·intro k i acc hi hI
  have hlt:=ltN_t hi
  have hw:=wrap1 hi (by omega)
  have hcap:acc.length+1≤maxElems:=by unfold maxElems; omega
  have hs:=hf l[i] (List.getElem_mem hi)
  have g1:=f_l4Copy l[i] hs.1 hs.2
  refine ⟨?_,by simp [hI]⟩
  simp (maxSteps:=1000000) +contextual -dsimp [Tryz.f182,hlt,hi,hw,g1,hcap,List.set]
theorem f_l11Copies (l:List (List Step)) (hl:l.length≤1048576) (hf:∀ s,s∈l→SmP s):fo 182 [A (.sl 160 (l.map (pT 124 219)))]=some ⟨.own 160 (l.map ProcO),[],true⟩:=by
 have hlp:=lp182 l hl hf
 have hcl:=oclean_Proc l
 refine orc_182 (l.length+1) ?_
 simp -dsimp [Tryz.f182] at hlp
 simp (maxSteps:=1000000) +contextual -dsimp [Tryz.f182,hlp,hcl,List.set]
structure SmE (e:Engine):Prop where
 np:e.procs.length≤1048576
 ni:e.insts.length≤1048576
 procs:∀ p,p∈e.procs→SmP p
 insts:∀ x,x∈e.insts→Few x.chart
abbrev z59:List T:=[.own 160 [],.own 163 [],vI 0]
set_option maxHeartbeats 4000000 in
theorem lp116 (e:Engine) (h:SmE e):
  evLoop E (orc E) (116:Nat) (e.insts.length+1) (loopOf Tryz.f116 0) ⟨32,[(2,.ptr 2 1 [] 0),(3,.ptr 3 1 [] 0),(13,.sl 163 (e.insts.map xT)),(14,vI e.insts.length),(15,vI (0:Nat))],[(1,⟨1,1,true,eT e⟩),(2,⟨1,1,true,z59⟩),(3,⟨1,1,true,[.own 160 (e.procs.map ProcO),.own 163 [],vI e.now]⟩)],2⟩=
  some (.exit 0,⟨32,[(2,.ptr 2 1 [] 0),(3,.ptr 3 1 [] 0),(13,.sl 163 (e.insts.map xT)),(14,vI e.insts.length),(15,vI e.insts.length),(16,vB false)],[(1,⟨1,1,true,eT e⟩),(2,⟨1,1,true,z59⟩),(3,⟨1,1,true,EngineO e⟩)],2⟩):=by
 have hl:=h.ni
 have hh:=loop_all (σ:=List Inst) (f:=116) (id:=0) (code:=loopOf Tryz.f116 0) e.insts (fun i acc=>acc.length=i)
  (fun i acc=>⟨32,[(2,.ptr 2 1 [] 0),(3,.ptr 3 1 [] 0),(13,.sl 163 (e.insts.map xT)),(14,vI e.insts.length),(15,vI i)],[(1,⟨1,1,true,eT e⟩),(2,⟨1,1,true,z59⟩),(3,⟨1,1,true,[.own 160 (e.procs.map ProcO),.own 163 (acc.map InstO),vI e.now]⟩)],2⟩) (fun _ acc x=>acc++[x])
  (fun acc=>⟨32,[(2,.ptr 2 1 [] 0),(3,.ptr 3 1 [] 0),(13,.sl 163 (e.insts.map xT)),(14,vI e.insts.length),(15,vI e.insts.length),(16,vB false)],[(1,⟨1,1,true,eT e⟩),(2,⟨1,1,true,z59⟩),(3,⟨1,1,true,[.own 160 (e.procs.map ProcO),.own 163 (acc.map InstO),vI e.now]⟩)],2⟩)
 have h2:=hh ?_ ?_ [] rfl
 ·rw [foldI_snoc] at h2; simpa using h2
 ·intro k acc _
  have hlt:=ltN_f e.insts.length
  simp +contextual -dsimp [Tryz.f116,hlt]
 ·intro k i acc hi hI
  have hlt:=ltN_t hi
  have hw:=wrap1 hi (by omega)
  have hcap:acc.length+1≤maxElems:=by unfold maxElems; omega
  have g1:=f_cloneC e.insts[i].chart (h.insts _ (List.getElem_mem hi))
  refine ⟨?_,by simp [hI]⟩
  simp (maxSteps:=1000000) +contextual -dsimp [Tryz.f116,hlt,hi,hw,g1,hcap,List.set]
theorem f_cloneE (e:Engine) (h:SmE e):fo 116 [A (.agg (eT e))]=some ⟨.agg (EngineO e),[],true⟩:=by
 have hlp:=lp116 e h
 have hcl:=oclean_Proc e.procs
 have hcl2:=oclean_Inst e.insts
 have g1:=f_cloneProcs e.procs h.np h.procs
 refine orc_116 (e.insts.length+1) ?_
 simp -dsimp [Tryz.f116] at hlp
 simp (maxSteps:=1000000) +contextual -dsimp [Tryz.f116,hlp,hcl,hcl2,g1,List.set]
set_option maxHeartbeats 4000000 in
theorem lp110 (e:Engine) (h:SmE e):
  evLoop E (orc E) (110:Nat) (e.insts.length+1) (loopOf Tryz.f110 0) ⟨38,[(1,.ptr 1 1 [] 0),(2,.ptr 2 1 [] 0),(3,.ptr 3 1 [] 0),(4,vI (0:Nat))],[(1,⟨1,1,true,eT e⟩),(2,⟨1,1,true,z59⟩),(3,⟨1,1,true,[.own 160 (e.procs.map ProcO),.own 163 [],vI e.now]⟩)],2⟩=
  some (.exit 0,⟨38,[(1,.ptr 1 1 [] 0),(2,.ptr 2 1 [] 0),(3,.ptr 3 1 [] 0),(4,vI e.insts.length),(15,vB false)],[(1,⟨1,1,true,eT e⟩),(2,⟨1,1,true,z59⟩),(3,⟨1,1,true,EngineO e⟩)],2⟩):=by
 have hl:=h.ni
 have hh:=loop_all (σ:=List Inst) (f:=110) (id:=0) (code:=loopOf Tryz.f110 0) e.insts (fun i acc=>acc.length=i)
  (fun i acc=>⟨38,[(1,.ptr 1 1 [] 0),(2,.ptr 2 1 [] 0),(3,.ptr 3 1 [] 0),(4,vI i)],[(1,⟨1,1,true,eT e⟩),(2,⟨1,1,true,z59⟩),(3,⟨1,1,true,[.own 160 (e.procs.map ProcO),.own 163 (acc.map InstO),vI e.now]⟩)],2⟩) (fun _ acc x=>acc++[x])
  (fun acc=>⟨38,[(1,.ptr 1 1 [] 0),(2,.ptr 2 1 [] 0),(3,.ptr 3 1 [] 0),(4,vI e.insts.length),(15,vB false)],[(1,⟨1,1,true,eT e⟩),(2,⟨1,1,true,z59⟩),(3,⟨1,1,true,[.own 160 (e.procs.map ProcO),.own 163 (acc.map InstO),vI e.now]⟩)],2⟩)
 have h2:=hh ?_ ?_ [] rfl
 ·rw [foldI_snoc] at h2; simpa using h2
 ·intro k acc _
  have hlt:=ltN_f e.insts.length
  simp +contextual -dsimp [Tryz.f110,hlt]
 ·intro k i acc hi hI
  have hlt:=ltN_t hi
  have hw:=wrap1 hi (by omega)
  have hcap:acc.length+1≤maxElems:=by unfold maxElems; omega
  have g1:=f_l9Copy e.insts[i].chart (h.insts _ (List.getElem_mem hi))
  refine ⟨?_,by simp [hI]⟩
  simp (maxSteps:=1000000) +contextual -dsimp [Tryz.f110,hlt,hi,hw,g1,hcap,List.set]
theorem f_l11Copy (e:Engine) (h:SmE e):fo 110 [A (.agg (eT e))]=some ⟨.agg (EngineO e),[],true⟩:=by
 have hlp:=lp110 e h
 have hcl:=oclean_Proc e.procs
 have hcl2:=oclean_Inst e.insts
 have g1:=f_l11Copies e.procs h.np h.procs
 refine orc_110 (e.insts.length+1) ?_
 simp -dsimp [Tryz.f110] at hlp
 simp (maxSteps:=1000000) +contextual -dsimp [Tryz.f110,hlp,hcl,hcl2,g1,List.set]
end Go.TM.Ft
namespace Go.TM.Ft
open Go Go.TM Go.Proofs
set_option maxRecDepth 20000
attribute [local congr] gif_cg
attribute [local simp] footOf noClash clash upsets setsHit setHits layHits layMeets setsMeet evFeet seal4_iE seal4_set clean_iE osealed_Node oclean_Node oclean_Proc oclean_Inst oclean_int oclean_Claim
theorem one_kT (l:List Claim):((l.map kT).all fun c=>c.all one1)=true:=by
 rw [List.all_eq_true]; intro c hc; obtain ⟨x,_,rfl⟩:=List.mem_map.1 hc; rfl
theorem f_CloneK (l:List Claim) (hl:l.length≤1048576):fo 149 [A (.sl 150 (l.map kT))]=some ⟨.own 150 (l.map kT),[],true⟩:=by
 refine orc_ext (g:=cloneT 150) rfl ?_
 have h1:=one_kT l
 have h2:=elems_le hl
 simp only [cloneT]
 rw [if_pos ⟨trivial,h1,by simpa using h2⟩,oclean_Claim]
structure SmD (d:Desk):Prop where
 eng:SmE d.eng
 claims:d.claims.length≤1048576
theorem f_cloneD (d:Desk) (h:SmD d):fo 100 [A (.agg (dT d))]=some ⟨.agg (DeskO d),[],true⟩:=by
 have g1:=f_cloneE d.eng h.eng
 have g2:=f_CloneK d.claims h.claims
 refine orc_100 1 ?_
 simp (maxSteps:=1000000) +contextual -dsimp [Tryz.f100,g1,g2,List.set]
theorem f_l12Copy (d:Desk) (h:SmD d):fo 96 [A (.agg (dT d))]=some ⟨.agg (DeskO d),[],true⟩:=by
 have g1:=f_l11Copy d.eng h.eng
 have h1:=one_kT d.claims
 have h2:d.claims.length≤maxElems:=elems_le h.claims
 refine orc_96 1 ?_
 simp (maxSteps:=1000000) +contextual -dsimp [Tryz.f96,g1,h1,h2,List.set]
def noD:Desk:=⟨⟨[],[],0⟩,[]⟩
end Go.TM.Ft
namespace Go.TM.Ft
open Go Go.TM Go.Proofs
def Ah (a b:Claim):Prop:=a.inst < b.inst∨(a.inst=b.inst∧a.step < b.step)
theorem Ah.trans {a b c:Claim} (h1:Ah a b) (h2:Ah b c):Ah a c:=by unfold Ah at *; omega
end Go.TM.Ft
namespace Go.TM.Ft
open Go Go.TM Go.Proofs
set_option maxRecDepth 20000
attribute [local congr] gif_cg
attribute [local simp] footOf noClash clash upsets setsHit setHits layHits layMeets setsMeet evFeet seal4_iE seal4_set clean_iE osealed_Node oclean_Node oclean_Proc oclean_Inst oclean_int oclean_Claim
end Go.TM.Ft
namespace Go.TM.Ft
open Go Go.TM Go.Proofs
set_option maxRecDepth 20000
attribute [local congr] gif_cg
attribute [local simp] footOf noClash clash upsets setsHit setHits layHits layMeets setsMeet evFeet seal4_iE seal4_set clean_iE osealed_Node oclean_Node oclean_Proc oclean_Inst oclean_int
end Go.TM.Ft
