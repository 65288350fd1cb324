/- What functions of the program come to, by the machine. -/
import Derived.Test.YtlmiemdojgahaaaGreatSL7
import Derived.Test.YtlmiemdojgahaaaGreatSL4
set_option linter.unusedSimpArgs false
set_option linter.unusedVariables false
namespace Go.TM.Ft
open Go Go.TM Go.Proofs
set_option maxRecDepth 20000
attribute [local congr] gif_cg
attribute [local simp] footOf noClash clash upsets setsHit setHits layHits layMeets setsMeet evFeet
attribute [local simp] pr_mul pr_rem pr_rem2 pr_quo pr_shr pr_cvt pr_cvt2 pr_cvt3 pr_cvt4 pr_u8
def sumM:List UInt8→Int→Int
 | [],s=>s
 | b::r,s=>sumM r (Int.tmod (s*251+b.toNat) 65521)
theorem sum_step {s:Int} (b:UInt8) (h0:0≤s) (h1:s < 65521):0≤Int.tmod (s*251+b.toNat) 65521∧Int.tmod (s*251+b.toNat) 65521 < 65521:=by
 rw [Int.tmod_eq_emod_of_nonneg (by omega)]
 omega
theorem sum_bd:∀ (l:List UInt8) (s:Int),0≤s→s < 65521→0≤sumM l s∧sumM l s < 65521
 | [],s,h0,h1=>⟨h0,h1⟩
 | b::l,s,h0,h1=>by
  obtain ⟨a,c⟩:=sum_step b h0 h1
  exact sum_bd l _ a c
theorem u8_wrap (x:Int):IntKind.u8.wrap x=x % 256:=by rfl
def hiB (s:Int):UInt8:=UInt8.ofNat (s.toNat / 256)
def loB (s:Int):UInt8:=UInt8.ofNat s.toNat
theorem hiB_eq {s:Int} (h0:0≤s) (h1:s < 65521):((hiB s).toNat:Int)=IntKind.u8.wrap (Int.fdiv s 256):=by
 rw [u8_wrap,Int.fdiv_eq_ediv_of_nonneg _ (by omega)]
 unfold hiB
 rw [UInt8.toNat_ofNat']
 omega
theorem hiB_eq2 {s:Int} (h0:0≤s) (h1:s < 65521):((hiB s).toNat:Int)=IntKind.u8.wrap (IntKind.i64.wrap (Int.tdiv s 256)):=by
 have e:Int.tdiv s 256=s / 256:=Int.tdiv_eq_ediv_of_nonneg h0
 have w:IntKind.i64.wrap (Int.tdiv s 256)=Int.tdiv s 256:=by rw [wrapI] <;> omega
 rw [w,e,u8_wrap]
 unfold hiB
 rw [UInt8.toNat_ofNat']
 omega
theorem loB_eq {s:Int} (h0:0≤s):((loB s).toNat:Int)=IntKind.u8.wrap s:=by
 rw [u8_wrap]
 unfold loB
 rw [UInt8.toNat_ofNat']
 omega
theorem loB_eq2 {s:Int} (h0:0≤s):((loB s).toNat:Int)=IntKind.u8.wrap (Int.tmod s 256):=by
 rw [u8_wrap,Int.tmod_eq_emod_of_nonneg h0]
 unfold loB
 rw [UInt8.toNat_ofNat']
 omega
def bodyB (l:List UInt8):List UInt8:=UInt8.ofNat l.length::l
def packB (l:List UInt8):List UInt8:=bodyB l++[hiB (sumM (bodyB l) 1),loB (sumM (bodyB l) 1)]
theorem lp117 (all:List UInt8) (hall:all.length≤1000):∀ (rest:List UInt8) (i:Nat) (s:Int),all.drop i=rest→0≤s→s < 65521→
  evLoop E (orc E) (310:Nat) (rest.length+1) (loopOf Tryz.f310 0) ⟨34,[(3,.ref 3 1 [] 0 all.length),(4,vI s),(13,.ref 3 1 [] 0 all.length),(14,vI all.length),(15,vI i)],[(3,⟨1,1,false,[.own 5 (all.map yV)]⟩)],2⟩=
  some (.exit 0,⟨34,[(3,.ref 3 1 [] 0 all.length),(4,vI (sumM rest s)),(13,.ref 3 1 [] 0 all.length),(14,vI all.length),(15,vI (i+rest.length:Nat)),(16,vB false)],[(3,⟨1,1,false,[.own 5 (all.map yV)]⟩)],2⟩)
 | [],i,s,h,h0,h1=>by
  have hge:all.length≤i:=by simpa using h
  have hlt:ltI (i:Int) (all.length:Int)=false:=ltI_f (by omega)
  rw [loop_eq]
  simp +contextual -dsimp [Tryz.f310,hlt,sumM]
 | b::rest,i,s,h,h0,h1=>by
  obtain ⟨hi,hc,hr⟩:=drop_cons h
  have hlt:ltI (i:Int) (all.length:Int)=true:=ltI_t (by omega)
  have hw:IntKind.i64.wrap ((i:Int)+1)=((i+1:Nat):Int):=by rw [wrapI] <;> omega
  have hb:b.toNat < 256:=b.toNat_lt
  have hw1:IntKind.i64.wrap (s*251)=s*251:=by rw [wrapI] <;> omega
  have hw2:IntKind.i64.wrap (b.toNat:Int)=b.toNat:=by rw [wrapI] <;> omega
  have hw3:IntKind.i64.wrap (s*251+b.toNat)=s*251+b.toNat:=by rw [wrapI] <;> omega
  have he:i+1+rest.length=i+(rest.length+1):=by omega
  obtain ⟨q0,q1⟩:=sum_step b h0 h1
  have ih:=lp117 all hall rest (i+1) _ hr q0 q1
  rw [he] at ih
  have hm:sumM (b::rest) s=sumM rest (Int.tmod (s*251+b.toNat) 65521):=rfl
  rw [hm]
  refine evLoop_next ?_ (by simpa only [List.length_cons] using ih)
  simp (maxSteps:=1000000) +contextual -dsimp [Tryz.f310,hlt,hi,hc,hw,hw1,hw2,hw3]
theorem lp114 (all:List UInt8) (hall:all.length≤1000):∀ (rest:List UInt8) (i:Nat) (s:Int),all.drop i=rest→0≤s→s < 65521→
  evLoop E (orc E) (304:Nat) (rest.length+1) (loopOf Tryz.f304 0) ⟨37,[(3,.ref 3 1 [] 0 all.length),(4,vI s),(5,vI i)],[(3,⟨1,1,false,[.own 5 (all.map yV)]⟩)],2⟩=
  some (.exit 0,⟨37,[(3,.ref 3 1 [] 0 all.length),(4,vI (sumM rest s)),(5,vI (i+rest.length:Nat)),(16,vB false)],[(3,⟨1,1,false,[.own 5 (all.map yV)]⟩)],2⟩)
 | [],i,s,h,h0,h1=>by
  have hge:all.length≤i:=by simpa using h
  have hlt:ltI (i:Int) (all.length:Int)=false:=ltI_f (by omega)
  rw [loop_eq]
  simp +contextual -dsimp [Tryz.f304,hlt,sumM]
 | b::rest,i,s,h,h0,h1=>by
  obtain ⟨hi,hc,hr⟩:=drop_cons h
  have hlt:ltI (i:Int) (all.length:Int)=true:=ltI_t (by omega)
  have hw:IntKind.i64.wrap ((i:Int)+1)=((i+1:Nat):Int):=by rw [wrapI] <;> omega
  have hb:b.toNat < 256:=b.toNat_lt
  have hw1:IntKind.i64.wrap (s*251)=s*251:=by rw [wrapI] <;> omega
  have hw2:IntKind.i64.wrap (b.toNat:Int)=b.toNat:=by rw [wrapI] <;> omega
  have hw3:IntKind.i64.wrap (s*251+b.toNat)=s*251+b.toNat:=by rw [wrapI] <;> omega
  have he:i+1+rest.length=i+(rest.length+1):=by omega
  obtain ⟨q0,q1⟩:=sum_step b h0 h1
  have ih:=lp114 all hall rest (i+1) _ hr q0 q1
  rw [he] at ih
  have hm:sumM (b::rest) s=sumM rest (Int.tmod (s*251+b.toNat) 65521):=rfl
  rw [hm]
  refine evLoop_next ?_ (by simpa only [List.length_cons] using ih)
  simp (maxSteps:=1000000) +contextual -dsimp [Tryz.f304,hlt,hi,hc,hw,hw1,hw2,hw3]
theorem clean_yV (l:List UInt8):cleanEs (l.map yV)=true:=by induction l <;> simp_all [cleanEs,cleanL,clean]
theorem f_pack (l:List UInt8) (hl:l.length≤40):fo 310 [A (vS (strOf l))]=some ⟨.own 5 ((packB l).map yV),[],true⟩:=by
 have hlp:=lp117 (bodyB l) (by simp [bodyB]; omega) (bodyB l) 0 1 rfl (by omega) (by omega)
 obtain ⟨b0,b1⟩:=sum_bd (bodyB l) 1 (by omega) (by omega)
 have e1:=hiB_eq b0 b1
 have e2:=loB_eq b0
 have hc:=clean_yV (packB l)
 have hs:=strOf_size l
 have hbt:bytesT (strOf l)=l.map yV:=by rw [bytesT_eq,strOf_list]
 have hbody:([vU (IntKind.u8.wrap (l.length:Int))]:List T)::l.map yV=(bodyB l).map yV:=by
  have:((UInt8.ofNat l.length).toNat:Int)=IntKind.u8.wrap (l.length:Int):=by rw [u8_wrap,UInt8.toNat_ofNat']; omega
  simp only [bodyB,List.map_cons,yV,this]
 have hpk:(bodyB l).map yV++[[vU (IntKind.u8.wrap (Int.fdiv (sumM (bodyB l) 1) 256))],[vU (IntKind.u8.wrap (sumM (bodyB l) 1))]]=(packB l).map yV:=by
  simp only [packB,List.map_append,List.map_cons,List.map_nil,yV,e1,e2]
 have hbl:(bodyB l).length=l.length+1:=rfl
 have hm1:1+l.length≤maxElems:=by unfold maxElems; omega
 have hm2:l.length+1+2≤maxElems:=by unfold maxElems; omega
 refine orc_310 (l.length+1+1) ?_
 simp -dsimp [Tryz.f310,hbl] at hlp
 simp (maxSteps:=1000000) +contextual -dsimp [Tryz.f310,hlp,hs,hbt,hbody,hbl,hm1,hm2,hpk,hc,List.set]
end Go.TM.Ft
namespace Go.TM.Ft
open Go Go.TM Go.Proofs
set_option maxRecDepth 20000
attribute [local congr] gif_cg
attribute [local simp] footOf noClash clash upsets setsHit setHits layHits layMeets setsMeet evFeet
attribute [local simp] pr_mul pr_rem pr_rem2 pr_quo pr_shr pr_cvt pr_cvt2 pr_cvt3 pr_cvt4 pr_u8
theorem f_pack4 (l:List UInt8) (hl:l.length≤40):fo 304 [A (vS (strOf l))]=some ⟨.own 5 ((packB l).map yV),[],true⟩:=by
 have hlp:=lp114 (bodyB l) (by simp [bodyB]; omega) (bodyB l) 0 1 rfl (by omega) (by omega)
 obtain ⟨b0,b1⟩:=sum_bd (bodyB l) 1 (by omega) (by omega)
 have e1:=hiB_eq2 b0 b1
 have e2:=loB_eq2 b0
 have hc:=clean_yV (packB l)
 have hs:=strOf_size l
 have hbt:bytesT (strOf l)=l.map yV:=by rw [bytesT_eq,strOf_list]
 have hbody:([vU (IntKind.u8.wrap (l.length:Int))]:List T)::l.map yV=(bodyB l).map yV:=by
  have:((UInt8.ofNat l.length).toNat:Int)=IntKind.u8.wrap (l.length:Int):=by rw [u8_wrap,UInt8.toNat_ofNat']; omega
  simp only [bodyB,List.map_cons,yV,this]
 have hpk:(bodyB l).map yV++[[vU (IntKind.u8.wrap (IntKind.i64.wrap (Int.tdiv (sumM (bodyB l) 1) 256)))],[vU (IntKind.u8.wrap (Int.tmod (sumM (bodyB l) 1) 256))]]=(packB l).map yV:=by
  simp only [packB,List.map_append,List.map_cons,List.map_nil,yV,e1,e2]
 have hbl:(bodyB l).length=l.length+1:=rfl
 have hm1:1+l.length≤maxElems:=by unfold maxElems; omega
 have hm2:l.length+1+2≤maxElems:=by unfold maxElems; omega
 refine orc_304 (l.length+1+1) ?_
 simp -dsimp [Tryz.f304,hbl] at hlp
 simp (maxSteps:=1000000) +contextual -dsimp [Tryz.f304,hlp,hs,hbt,hbody,hbl,hm1,hm2,hpk,hc,List.set]
def headB (l:List UInt8):Nat:=match l with | []=>0 | b::_=>b.toNat
def lineB (l:List UInt8):List UInt8:=(l.drop 1).take (headB l)
def longB (l:List UInt8):Bool:=decide (l≠[]∧headB l+3≤l.length)
def goodB (l:List UInt8):Bool:=eqI (lnM (strOf (lineB l))) 0
def sameYB (l:List UInt8):Bool:=eqS (strOf (l.take (packB (lineB l)).length)) (strOf (packB (lineB l)))
def okL (l:List UInt8):Bool:=andB (goodB l) (andB (leI (packB (lineB l)).length l.length) (sameYB l))
theorem lineB_len {l:List UInt8} (h:longB l=true):(lineB l).length=headB l:=by
 simp [longB] at h
 simp [lineB]
 omega
theorem pack_len (l:List UInt8):(packB l).length=l.length+3:=by simp [packB,bodyB]
theorem seal_yV (l:List UInt8):sealEs (l.map yV)=l.map yV:=sealEs_map (f:=yV) (g:=yV) (fun a=>by simp [sealL,seal_]) l
set_option maxHeartbeats 2000000 in
theorem f_lineAt (l:List UInt8) (hl:l.length < 2 ^ 62):fo 305 [A (yS l)]=some (if longB l=true then R2 (vS (strOf (lineB l))) (vB (okL l)) else R2 (vS emp) (vB false)):=by
 have wU:IntKind.i64.wrap 1=1:=rfl
 cases l with
 | nil=>
  refine orc_305 1 ?_
  have h0:eqI ((([]:List UInt8).length:Nat):Int) 0=true:=rfl
  simp (maxSteps:=1000000) +contextual -dsimp [Tryz.f305,longB,eqI_self]
 | cons b r=>
  have hb:b.toNat < 256:=b.toNat_lt
  have hw2:IntKind.i64.wrap (b.toNat:Int)=b.toNat:=by rw [wrapI] <;> omega
  have hw3:IntKind.i64.wrap (1+(b.toNat:Int))=1+b.toNat:=by rw [wrapI] <;> omega
  have hw4:IntKind.i64.wrap (1+(b.toNat:Int)+2)=1+b.toNat+2:=by rw [wrapI] <;> omega
  have he:eqI (r.length+1:Int) 0=false:=by simp [eqI]; omega
  cases q:longB (b::r)
  ·have q1:ltI (r.length+1:Int) (1+b.toNat+2)=true:=by simp [longB,headB] at q; simp [ltI]; omega
   refine orc_305 1 ?_
   simp (maxSteps:=1000000) +contextual -dsimp [Tryz.f305,he,hw2,hw3,hw4,q1]
  ·have hlen:=lineB_len q
   have q1:ltI (r.length+1:Int) (1+b.toNat+2)=false:=by simp [longB,headB] at q; simp [ltI]; omega
   have hq:b.toNat+3≤r.length+1:=by simpa [longB,headB] using q
   have hsl:((b::r).map yV).drop 1=r.map yV:=rfl
   have hln:lineB (b::r)=r.take b.toNat:=rfl
   have hbo:bytesOfT ((r.map yV).take ((1+(b.toNat:Int)).toNat - 1))=some (lineB (b::r)):=by
    have e:(1+(b.toNat:Int)).toNat - 1=b.toNat:=by omega
    rw [e,hln,← List.map_take]; exact bytesOf_map _
   have hst:(⟨(lineB (b::r)).toArray⟩:ByteArray)=strOf (lineB (b::r)):=rfl
   have hle1:(1:Int)≤1+b.toNat:=by omega
   have hle2:(1:Int)+b.toNat≤r.length+1:=by omega
   have g1:=f_LineFault (strOf (lineB (b::r))) (by rw [strOf_size,hlen]; simp [headB]; omega)
   refine orc_305 1 ?_
   cases q2:eqI (lnM (strOf (lineB (b::r)))) 0
   ·have hok:okL (b::r)=false:=by simp [okL,goodB,q2,andB]
    simp (maxSteps:=1000000) +contextual -dsimp [Tryz.f305,he,hw2,hw3,hw4,q1,g1,q2,hbo,hst,hle1,hle2,hok]
   ·have hl40:(lineB (b::r)).length≤40:=by
     simp only [eqI,beq_iff_eq] at q2
     unfold lnM at q2
     have:=ci_zero (by omega) (first2_zero q2).1
     rw [strOf_size] at this
     simp [notB,inR,andB,leI] at this
     omega
    have hok:okL (b::r)=andB (leI (packB (lineB (b::r))).length (b::r).length) (sameYB (b::r)):=by simp [okL,goodB,q2,andB]
    have g2:=f_pack (lineB (b::r)) hl40
    have g3:=f_HasPrefix (b::r) (packB (lineB (b::r)))
    have hse:=seal_yV (packB (lineB (b::r)))
    rw [hok]
    unfold sameYB
    simp only [yS,List.map_cons] at g3
    simp (maxSteps:=1000000) +contextual -dsimp [Tryz.f305,he,hw2,hw3,hw4,q1,g1,g2,g3,hse,q2,hbo,hst,hle1,hle2]
end Go.TM.Ft
namespace Go.TM.Ft
open Go Go.TM Go.Proofs
set_option maxRecDepth 20000
attribute [local congr] gif_cg
attribute [local simp] footOf noClash clash upsets setsHit setHits layHits layMeets setsMeet evFeet
attribute [local simp] pr_mul pr_rem pr_rem2 pr_quo pr_shr pr_cvt pr_cvt2 pr_cvt3 pr_cvt4 pr_u8
def ok4 (l:List UInt8):Bool:=andB (longB l) (okL l)
theorem good_len {l:List UInt8} (h:goodB l=true):1≤(lineB l).length∧(lineB l).length≤40:=by
 simp only [goodB,eqI,beq_iff_eq] at h
 unfold lnM at h
 have:=ci_zero (by omega) (first2_zero h).1
 rw [strOf_size] at this
 simp [notB,inR,andB,leI] at this
 omega
theorem eqS_comm (a b:ByteArray):eqS a b=eqS b a:=by simp [eqS,Bool.beq_comm]
theorem ok4_head {l:List UInt8} (h:ok4 l=true):longB l=true∧goodB l=true∧sameYB l=true∧1≤headB l:=by
 simp [ok4,okL,andB] at h
 have:=good_len h.2.1
 rw [lineB_len h.1] at this
 exact ⟨h.1,h.2.1,h.2.2.2,this.1⟩
set_option maxHeartbeats 2000000 in
theorem f_l13One (l:List UInt8) (hl:l.length < 2 ^ 62):fo 290 [A (yS l)]=some (if ok4 l=true then R2 (vS (strOf (lineB l))) (vI ((headB l+3:Nat))) else R2 (vS emp) (vI 0)):=by
 cases q0:ltI l.length 4
 ·cases l with
  | nil=>simp [ltI] at q0
  | cons b r=>
   have hb:b.toNat < 256:=b.toNat_lt
   have hr:4≤r.length+1:=by simp [ltI] at q0; omega
   have q0':ltI ((r.length:Int)+1) 4=false:=ltI_f (by omega)
   have hw2:IntKind.i64.wrap (b.toNat:Int)=b.toNat:=by rw [wrapI] <;> omega
   have hw3:IntKind.i64.wrap ((b.toNat:Int)+3)=b.toNat+3:=by rw [wrapI] <;> omega
   have hw4:IntKind.i64.wrap ((b.toNat:Int)+3 - 2)=b.toNat+1:=by rw [wrapI] <;> omega
   cases q:orB (ltI ((b.toNat:Int)+3) 4) (ltI ((r.length:Int)+1) ((b.toNat:Int)+3))
   ·have hn:1≤b.toNat∧b.toNat+3≤r.length+1:=by simp [orB,ltI] at q; omega
    have hlong:longB (b::r)=true:=by simp [longB,headB]; omega
    have hlen:=lineB_len hlong
    have hln:lineB (b::r)=r.take b.toNat:=rfl
    have hbo:bytesOfT ((r.map yV).take b.toNat)=some (lineB (b::r)):=by
     rw [hln,← List.map_take]; exact bytesOf_map _
    have hst:(⟨(lineB (b::r)).toArray⟩:ByteArray)=strOf (lineB (b::r)):=rfl
    have hle1:(1:Int)≤b.toNat+1:=by omega
    have hle2:(b.toNat:Int)+1≤r.length+1:=by omega
    have g1:=f_Line4 (strOf (lineB (b::r))) (by rw [strOf_size,hlen]; simp [headB]; omega)
    refine orc_290 1 ?_
    cases q2:eqI (lnM (strOf (lineB (b::r)))) 0
    ·have hok:ok4 (b::r)=false:=by simp [ok4,okL,goodB,q2,andB]
     simp (maxSteps:=1000000) +contextual -dsimp [Tryz.f290,q0',hw2,hw3,hw4,q,g1,q2,hbo,hst,hle1,hle2,hok]
    ·have hl40:(lineB (b::r)).length≤40:=(good_len q2).2
     have g2:=f_pack4 (lineB (b::r)) hl40
     have hse:=seal_yV (packB (lineB (b::r)))
     have hbp:=bytesOf_map (packB (lineB (b::r)))
     have hpl:(packB (lineB (b::r))).length=b.toNat+3:=by rw [pack_len,hlen]; rfl
     have hbt:bytesOfT ((yV b::r.map yV).take ((b.toNat:Int)+3).toNat)=some ((b::r).take (b.toNat+3)):=by
      have e:((b.toNat:Int)+3).toNat=b.toNat+3:=by omega
      have e2:(yV b::r.map yV:List (List T))=(b::r).map yV:=rfl
      rw [e,e2,← List.map_take]; exact bytesOf_map _
     have hst2:(⟨(packB (lineB (b::r))).toArray⟩:ByteArray)=strOf (packB (lineB (b::r))):=rfl
     have hst3:(⟨((b::r).take (b.toNat+3)).toArray⟩:ByteArray)=strOf ((b::r).take (b.toNat+3)):=rfl
     have hok:ok4 (b::r)=eqS (strOf (packB (lineB (b::r)))) (strOf ((b::r).take (b.toNat+3))):=by
      have:leI ((b.toNat+3:Nat):Int) ((b::r).length:Nat)=true:=by simp [leI]; omega
      simp only [ok4,hlong,okL,goodB,q2,this,sameYB,hpl,andB,Bool.true_and]
      rw [eqS_comm]
     have hle3:(0:Int)≤b.toNat+3:=by omega
     have hle4:(b.toNat:Int)+3≤r.length+1:=by omega
     have hhd:headB (b::r)=b.toNat:=rfl
     rw [hok]
     generalize (b::r).take (b.toNat+3)=tk at *
     cases q3:eqS (strOf (packB (lineB (b::r)))) (strOf tk)
     ·simp (maxSteps:=1000000) +contextual -dsimp [Tryz.f290,q0',hw2,hw3,hw4,q,g1,g2,hse,hbp,hbt,hst,hst2,hst3,q2,q3,hbo,hle1,hle2,hle3,hle4]
     ·simp (maxSteps:=1000000) +contextual -dsimp [Tryz.f290,q0',hw2,hw3,hw4,q,g1,g2,hse,hbp,hbt,hst,hst2,hst3,hhd,q2,q3,hbo,hle1,hle2,hle3,hle4]
   ·have hok:ok4 (b::r)=false:=by
     cases h:ok4 (b::r)
     ·rfl
     ·exfalso
      obtain ⟨h1,_,_,h4⟩:=ok4_head h
      simp [longB,headB] at h1 h4
      simp [orB,ltI] at q
      omega
    refine orc_290 1 ?_
    simp (maxSteps:=1000000) +contextual -dsimp [Tryz.f290,q0',hw2,hw3,q,hok]
 ·have hok:ok4 l=false:=by
   cases h:ok4 l
   ·rfl
   ·exfalso
    obtain ⟨h1,_,_,h4⟩:=ok4_head h
    simp [longB] at h1
    simp [ltI] at q0
    omega
  refine orc_290 1 ?_
  simp (maxSteps:=1000000) +contextual -dsimp [Tryz.f290,q0,hok]
end Go.TM.Ft
namespace Go.TM.Ft
open Go Go.TM Go.Proofs
set_option maxRecDepth 20000
attribute [local congr] gif_cg
attribute [local simp] footOf noClash clash upsets setsHit setHits layHits layMeets setsMeet evFeet
attribute [local simp] pr_mul pr_rem pr_rem2 pr_quo pr_shr pr_cvt pr_cvt2 pr_cvt3 pr_cvt4 pr_u8
abbrev sV (s:ByteArray):List T:=[vS s]
def lineS (l:List UInt8):ByteArray:=if longB l=true then strOf (lineB l) else emp
theorem f_lineAt2 (l:List UInt8) (hl:l.length < 2 ^ 62):fo 305 [A (yS l)]=some (R2 (vS (lineS l)) (vB (ok4 l))):=by
 rw [f_lineAt l hl]
 unfold lineS ok4
 cases longB l <;> simp [andB]
def restM:Nat→List UInt8→List UInt8
 | 0,d=>d
 | f+1,d=>if ok4 d=true then restM f (d.drop (headB d+3)) else d
def linesM:Nat→List UInt8→List ByteArray
 | 0,_=>[]
 | f+1,d=>if ok4 d=true then strOf (lineB d)::linesM f (d.drop (headB d+3)) else []
theorem take_all {α:Type} (l:List α) (n:Nat) (h:l.length≤n):l.take n=l:=List.take_of_length_le h
set_option maxHeartbeats 1000000 in
theorem lp79:∀ (f:Nat) (data:List UInt8) (acc:List ByteArray),data.length < f→acc.length+data.length < 4194304→
  evLoop E (orc E) (291:Nat) f (loopOf Tryz.f291 0) ⟨27,[(0,yS data),(4,.ref 4 1 [] 0 acc.length)],[(4,⟨1,1,false,[.own 9 (acc.map sV)]⟩)],2⟩=
  some (.ret,⟨27,[(2,.ref 4 1 [] 0 (acc++linesM f data).length),(3,yS (restM f data))],[(4,⟨1,1,false,[.own 9 ((acc++linesM f data).map sV)]⟩)],2⟩)
 | 0,_,_,h,_=>by omega
 | f+1,data,acc,h,hb=>by
  have g:=f_lineAt2 data (by omega)
  cases q:ok4 data
  ·have h1:restM (f+1) data=data:=by simp [restM,q]
   have h2:acc++linesM (f+1) data=acc:=by simp [linesM,q]
   rw [h1,h2]
   refine evLoop_out ?_ (by simp)
   simp (maxSteps:=1000000) +contextual -dsimp [Tryz.f291,g,q]
  ·obtain ⟨k1,k2,k3,k4⟩:=ok4_head q
   have hle:headB data+3≤data.length:=by simp [longB] at k1; exact k1.2
   have hln:(strOf (lineB data)).size=headB data:=by rw [strOf_size,lineB_len k1]
   have hls:lineS data=strOf (lineB data):=by simp [lineS,k1]
   have h1:restM (f+1) data=restM f (data.drop (headB data+3)):=by simp [restM,q]
   have h2:acc++linesM (f+1) data=(acc++[strOf (lineB data)])++linesM f (data.drop (headB data+3)):=by simp [linesM,q]
   have ih:=lp79 f (data.drop (headB data+3)) (acc++[strOf (lineB data)]) (by simp; omega) (by simp; omega)
   rw [h1,h2]
   refine evLoop_next ?_ ih
   have hw1:IntKind.i64.wrap (1+(headB data:Int))=1+headB data:=by rw [wrapI] <;> omega
   have hw2:IntKind.i64.wrap (1+(headB data:Int)+2)=1+headB data+2:=by rw [wrapI] <;> omega
   have hm:acc.length+1≤maxElems:=by unfold maxElems; omega
   have e0:(0:Int)≤1+headB data+2:=by omega
   have e1:(1+(headB data:Int)+2)≤data.length:=by omega
   have e2:(1+(headB data:Int)+2).toNat=headB data+3:=by omega
   have e3:(List.drop (headB data+3) (data.map yV)).take (data.length - (headB data+3))=List.drop (headB data+3) (data.map yV):=take_all _ _ (by simp)
   simp (maxSteps:=1000000) +contextual -dsimp [Tryz.f291,g,q,hls,hln,hw1,hw2,hm,e0,e1,e2,e3,List.set]
set_option maxHeartbeats 1000000 in
theorem lp78 (data:List UInt8) (hd:data.length < 4194304):∀ (f:Nat) (k:Nat) (acc:List ByteArray),k≤data.length→data.length - k < f→acc.length+(data.length - k) < 4194304→
  evLoop E (orc E) (255:Nat) f (loopOf Tryz.f255 0) ⟨27,[(0,yS data),(4,.ref 4 1 [] 0 acc.length),(5,vI k)],[(4,⟨1,1,false,[.own 9 (acc.map sV)]⟩)],2⟩=
  some (.ret,⟨27,[(2,.ref 4 1 [] 0 (acc++linesM f (data.drop k)).length),(3,vI (data.length - (restM f (data.drop k)).length:Nat))],[(4,⟨1,1,false,[.own 9 ((acc++linesM f (data.drop k)).map sV)]⟩)],2⟩)
 | 0,_,_,_,h,_=>by omega
 | f+1,k,acc,hk,h,hb=>by
  have g:=f_l13One (data.drop k) (by simp; omega)
  simp only [yS,List.map_drop] at g
  have hk2:(k:Int)≤data.length:=by omega
  have e4:(List.drop k (data.map yV)).take (data.length - k)=List.drop k (data.map yV):=take_all _ _ (by simp)
  cases q:ok4 (data.drop k)
  ·rw [q] at g
   simp only [Bool.false_eq_true,if_false] at g
   have h1:restM (f+1) (data.drop k)=data.drop k:=by simp [restM,q]
   have h2:acc++linesM (f+1) (data.drop k)=acc:=by simp [linesM,q]
   have h3:data.length - (data.length - k)=k:=by omega
   rw [h1,h2,List.length_drop,h3]
   refine evLoop_out ?_ (by simp)
   simp (maxSteps:=1000000) +contextual -dsimp [Tryz.f255,g,hk2,e4,eqI_self]
  ·rw [q] at g
   simp only [if_true] at g
   obtain ⟨k1,k2,k3,k4⟩:=ok4_head q
   have hle:headB (data.drop k)+3≤data.length - k:=by simp [longB] at k1; omega
   have hdd:(data.drop k).drop (headB (data.drop k)+3)=data.drop (k+(headB (data.drop k)+3)):=by rw [List.drop_drop]
   have h1:restM (f+1) (data.drop k)=restM f (data.drop (k+(headB (data.drop k)+3))):=by simp only [restM,q,if_true,hdd]
   have h2:acc++linesM (f+1) (data.drop k)=(acc++[strOf (lineB (data.drop k))])++linesM f (data.drop (k+(headB (data.drop k)+3))):=by simp only [linesM,q,if_true,hdd]; simp
   have ih:=lp78 data hd f (k+(headB (data.drop k)+3)) (acc++[strOf (lineB (data.drop k))]) (by omega) (by omega) (by simp; omega)
   rw [h1,h2]
   refine evLoop_next ?_ ih
   have hm:acc.length+1≤maxElems:=by unfold maxElems; omega
   have hn0:eqI ((headB (data.drop k):Int)+3) 0=false:=by simp [eqI]; omega
   have hw1:IntKind.i64.wrap ((k:Int)+((headB (data.drop k):Int)+3))=k+(headB (data.drop k)+3):=by rw [wrapI] <;> omega
   simp (maxSteps:=1000000) +contextual -dsimp [Tryz.f255,g,hk2,e4,hn0,hw1,hm,List.set]
end Go.TM.Ft
namespace Go.TM.Ft
open Go Go.TM Go.Proofs
set_option maxRecDepth 20000
attribute [local congr] gif_cg
attribute [local simp] footOf noClash clash upsets setsHit setHits layHits layMeets setsMeet evFeet
def restB (d:List UInt8):List UInt8:=restM (d.length+1) d
def linesB (d:List UInt8):List ByteArray:=linesM (d.length+1) d
theorem clean_sV (l:List ByteArray):cleanEs (l.map sV)=true:=by induction l <;> simp_all [cleanEs,cleanL,clean]
theorem f_readLines (d:List UInt8) (hd:d.length≤1048576):fo 291 [A (yS d)]=some ⟨.tup [.own 9 ((linesB d).map sV),yS (restB d)],[],false⟩:=by
 have hlp:=lp79 (d.length+1) d [] (by omega) (by simp; omega)
 refine orc_291 (d.length+1) ?_
 rw [List.nil_append] at hlp
 simp -dsimp [Tryz.f291] at hlp
 unfold linesB restB
 simp (maxSteps:=1000000) +contextual -dsimp [Tryz.f291,hlp,List.set]
theorem f_isWhole (d:List UInt8) (hd:d.length≤1048576):fo 256 [A (yS d)]=some (R (vB (eqI (restB d).length 0))):=by
 have g:=f_readLines d hd
 refine orc_256 1 ?_
 simp (maxSteps:=1000000) +contextual -dsimp [Tryz.f256,g]
theorem f_l13Read (d:List UInt8) (hd:d.length≤1048576):fo 255 [A (yS d)]=some ⟨.tup [.own 9 ((linesB d).map sV),vI (d.length - (restB d).length:Nat)],[],true⟩:=by
 have hlp:=lp78 d (by omega) (d.length+1) 0 [] (by omega) (by omega) (by simp; omega)
 have hc:=clean_sV (linesB d)
 refine orc_255 (d.length+1) ?_
 rw [List.nil_append,List.drop_zero] at hlp
 simp -dsimp [Tryz.f255] at hlp
 unfold linesB restB at *
 simp (maxSteps:=1000000) +contextual -dsimp [Tryz.f255,hlp,hc,List.set]
structure Journal where
 sure:List UInt8
 loose:List UInt8
abbrev jT (j:Journal):List T:=[yS j.sure,yS j.loose]
structure World where
 desk:Desk
 jour:Journal
abbrev wT (w:World):List T:=[.sl 160 (w.desk.eng.procs.map (pT 124 219)),.sl 163 (w.desk.eng.insts.map xT),vI w.desk.eng.now,.sl 150 (w.desk.claims.map kT),yS w.jour.sure,yS w.jour.loose]
def wholeB (d:List UInt8):Bool:=eqI (restB d).length 0
theorem f_wholeB (d:List UInt8) (hd:d.length≤1048576):fo 256 [A (yS d)]=some (R (vB (wholeB d))):=f_isWhole d hd
def jourM (j:Journal):Int:=first2 (ci (ltI 2400 (j.sure.length+j.loose.length)) 2) (ci (orB (notB (wholeB j.sure)) (notB (wholeB j.loose))) 5)
theorem f_JournalFault (j:Journal) (h1:j.sure.length≤1048576) (h2:j.loose.length≤1048576):fo 211 [A (.agg (jT j))]=some (R (vI (jourM j))):=by
 have g1:=f_wholeB j.sure h1
 have g2:=f_wholeB j.loose h2
 have hw:IntKind.i64.wrap ((j.sure.length:Int)+j.loose.length)=j.sure.length+j.loose.length:=by rw [wrapI] <;> omega
 refine orc_211 1 ?_
 simp (maxSteps:=1000000) +contextual -dsimp [Tryz.f211,g1,g2,hw,f_ci,f_first2,jourM,List.set]
theorem rest_le:∀ (f:Nat) (d:List UInt8),(restM f d).length≤d.length
 | 0,d=>Nat.le_refl _
 | f+1,d=>by
  unfold restM
  split
  ·have:=rest_le f (d.drop (headB d+3)); simp at this; omega
  ·exact Nat.le_refl _
theorem whole_at (d:List UInt8):eqI ((d.length - (restB d).length:Nat):Int) d.length=wholeB d:=by
 have:=rest_le (d.length+1) d
 unfold wholeB
 rw [Bool.eq_iff_iff]
 simp only [eqI,beq_iff_eq,restB] at *
 omega
theorem f_l13Fault (j:Journal) (h1:j.sure.length≤1048576) (h2:j.loose.length≤1048576):fo 208 [A (.ipt (jT j))]=some (R (vI (jourM j))):=by
 have g1:=f_l13Read j.sure h1
 have g2:=f_l13Read j.loose h2
 have hw:IntKind.i64.wrap ((j.sure.length:Int)+j.loose.length)=j.sure.length+j.loose.length:=by rw [wrapI] <;> omega
 have w1:=whole_at j.sure
 have w2:=whole_at j.loose
 unfold jourM
 generalize j.sure.length - (restB j.sure).length=n1 at *
 generalize j.loose.length - (restB j.loose).length=n2 at *
 refine orc_208 1 ?_
 have h20:eqI (2:Int) 0=false:=rfl
 cases q1:ltI 2400 ((j.sure.length:Int)+j.loose.length)
 ·cases q2:wholeB j.sure
  ·simp (maxSteps:=1000000) +contextual -dsimp [Tryz.f208,g1,hw,w1,q1,q2,first2,ci,eqI_self]
  ·cases q3:wholeB j.loose
   ·simp (maxSteps:=1000000) +contextual -dsimp [Tryz.f208,g1,g2,hw,w1,w2,q1,q2,q3,first2,ci,eqI_self]
   ·simp (maxSteps:=1000000) +contextual -dsimp [Tryz.f208,g1,g2,hw,w1,w2,q1,q2,q3,first2,ci,eqI_self]
 ·simp (maxSteps:=1000000) +contextual -dsimp [Tryz.f208,hw,q1,first2,ci,h20]
end Go.TM.Ft
namespace Go.TM.Ft
open Go Go.TM Go.Proofs
set_option maxRecDepth 20000
attribute [local congr] gif_cg
attribute [local simp] footOf noClash clash upsets setsHit setHits layHits layMeets setsMeet evFeet
abbrev nilS:T:=.v (.slice none 0 0)
theorem pr_capN:pureRun Tryz.prog (Builtin.cap_ #[88] 3 #[Value.slice none 0 0])=some (.int .i64 0):=by kernel_rfl
theorem pr_slN:pureRun Tryz.prog (Instr.sliceAt 88 (Value.slice none 0 0) none (some (.int .i64 0)) none)=some (.slice none 0 0):=by kernel_rfl
theorem f_Grow0:fo 258 [A nilS,A (vI 0)]=some ⟨.own 5 [],[],true⟩:=by
 have q:ltI 0 0=false:=rfl
 have w:IntKind.i64.wrap 0=0:=rfl
 refine orc_258 1 ?_
 simp (maxSteps:=1000000) +contextual -dsimp [Tryz.f258,zerosOf,pr_capN,pr_slN,q,w,List.set]
theorem f_Grow1 (n:Nat) (h0:0 < n) (h1:n≤2097152):fo 258 [A nilS,A (vI n)]=some ⟨.own 5 [],[],true⟩:=by
 have q:ltI (n:Int) 0=false:=ltI_f (by omega)
 have q2:ltI 0 (n:Int)=true:=ltI_t (by omega)
 have w0:IntKind.i64.wrap 0=0:=rfl
 have w:IntKind.i64.wrap (n:Int)=n:=by rw [wrapI] <;> omega
 have hm:(n:Int)≤(maxElems:Nat):=by unfold maxElems; omega
 refine orc_258 1 ?_
 simp (maxSteps:=1000000) +contextual -dsimp [Tryz.f258,zerosOf,pr_capN,pr_slN,q,q2,w0,w,hm,h0,List.set]
theorem f_Grow (n:Nat) (h1:n≤2097152):fo 258 [A nilS,A (vI n)]=some ⟨.own 5 [],[],true⟩:=by
 rcases Nat.eq_zero_or_pos n with h | h
 ·subst h; exact f_Grow0
 ·exact f_Grow1 n h h1
abbrev yyV (l:List UInt8):List T:=[yS l]
def sumL:List (List UInt8)→Nat
 | []=>0
 | l::r=>l.length+sumL r
def catL:List (List UInt8)→List UInt8
 | []=>[]
 | l::r=>l++catL r
theorem lpA213 (all:List (List UInt8)) (hall:all.length≤1048576) (R:List (Nat × Root)):∀ (rest:List (List UInt8)) (i t:Nat),all.drop i=rest→t+sumL rest≤2097152→
  evLoop E (orc E) (213:Nat) (rest.length+1) (loopOf Tryz.f213 0) ⟨36,[(0,.sl 88 (all.map yyV)),(3,vI t),(9,.sl 88 (all.map yyV)),(10,vI all.length),(11,vI i)],[],2⟩=
  some (.exit 0,⟨36,[(0,.sl 88 (all.map yyV)),(3,vI (t+sumL rest:Nat)),(9,.sl 88 (all.map yyV)),(10,vI all.length),(11,vI (i+rest.length:Nat)),(12,vB false)],[],2⟩)
 | [],i,t,h,hs=>by
  have hge:all.length≤i:=by simpa using h
  have hlt:ltI (i:Int) (all.length:Int)=false:=ltI_f (by omega)
  rw [loop_eq]
  simp +contextual -dsimp [Tryz.f213,hlt,sumL]
 | x::rest,i,t,h,hs=>by
  obtain ⟨hi,hc,hr⟩:=drop_cons h
  simp only [sumL] at hs
  have hlt:ltI (i:Int) (all.length:Int)=true:=ltI_t (by omega)
  have hw:IntKind.i64.wrap ((i:Int)+1)=((i+1:Nat):Int):=by rw [wrapI] <;> omega
  have hw2:IntKind.i64.wrap ((t:Int)+x.length)=((t+x.length:Nat):Int):=by rw [wrapI] <;> omega
  have hn:ltI ((t+x.length:Nat):Int) 0=false:=ltI_f (by omega)
  have ih:=lpA213 all hall R rest (i+1) (t+x.length) hr (by omega)
  have he:i+1+rest.length=i+(rest.length+1):=by omega
  have hs2:t+x.length+sumL rest=t+sumL (x::rest):=by simp only [sumL]; omega
  rw [he,hs2] at ih
  refine evLoop_next ?_ (by simpa only [List.length_cons] using ih)
  generalize t+x.length=t2 at *
  generalize i+1=i2 at *
  simp (maxSteps:=1000000) +contextual -dsimp [Tryz.f213,hlt,hi,hc,hw,hw2,hn,List.set]
theorem lpB213 (all:List (List UInt8)) (hall:all.length≤1048576):∀ (rest:List (List UInt8)) (i:Nat) (acc:List UInt8),all.drop i=rest→acc.length+sumL rest≤2097152→
  evLoop E (orc E) (213:Nat) (rest.length+1) (loopOf Tryz.f213 1) ⟨36,[(6,.ref 6 1 [] 0 acc.length),(25,.sl 88 (all.map yyV)),(26,vI all.length),(27,vI i)],[(6,⟨1,1,false,[.own 5 (acc.map yV)]⟩)],2⟩=
  some (.exit 2,⟨36,[(6,.ref 6 1 [] 0 (acc++catL rest).length),(25,.sl 88 (all.map yyV)),(26,vI all.length),(27,vI (i+rest.length:Nat)),(28,vB false)],[(6,⟨1,1,false,[.own 5 ((acc++catL rest).map yV)]⟩)],2⟩)
 | [],i,acc,h,hs=>by
  have hge:all.length≤i:=by simpa using h
  have hlt:ltI (i:Int) (all.length:Int)=false:=ltI_f (by omega)
  rw [loop_eq]
  simp +contextual -dsimp [Tryz.f213,hlt,catL]
 | x::rest,i,acc,h,hs=>by
  obtain ⟨hi,hc,hr⟩:=drop_cons h
  simp only [sumL] at hs
  have hlt:ltI (i:Int) (all.length:Int)=true:=ltI_t (by omega)
  have hw:IntKind.i64.wrap ((i:Int)+1)=((i+1:Nat):Int):=by rw [wrapI] <;> omega
  have hm:acc.length+x.length≤maxElems:=by unfold maxElems; omega
  have ih:=lpB213 all hall rest (i+1) (acc++x) hr (by simp only [List.length_append]; omega)
  have he:i+1+rest.length=i+(rest.length+1):=by omega
  have hs2:acc++x++catL rest=acc++catL (x::rest):=by simp only [catL,List.append_assoc]
  rw [he,hs2] at ih
  refine evLoop_next ?_ (by simpa only [List.length_cons] using ih)
  generalize i+1=i2 at *
  simp (maxSteps:=1000000) +contextual -dsimp [Tryz.f213,hlt,hi,hc,hw,hm,List.set]
theorem oclean_yy (l:List UInt8):cleanEs (l.map yV)=true:=by
 induction l with
 | nil=>rfl
 | cons x l ih=>simp only [List.map_cons,cleanEs,ih,Bool.and_true]; simp [cleanL,clean]
theorem f_Concat (all:List (List UInt8)) (h1:all.length≤1048576) (h2:sumL all≤2097152):fo 213 [A (.sl 88 (all.map yyV))]=some ⟨.own 5 ((catL all).map yV),[],true⟩:=by
 have g:=f_Grow (sumL all) h2
 have hA:=lpA213 all h1 [] all 0 0 rfl (by omega)
 have hB:=lpB213 all h1 all 0 [] rfl (by simpa using h2)
 have hc:=oclean_yy (catL all)
 rw [Nat.zero_add] at hA
 rw [List.nil_append] at hB
 refine orc_213 (all.length+1) ?_
 simp -dsimp [Tryz.f213] at hA hB
 generalize catL all=c at *
 simp (maxSteps:=1000000) +contextual -dsimp [Tryz.f213,g,hA,hB,hc,List.set]
end Go.TM.Ft
namespace Go.TM.Ft
open Go Go.TM Go.Proofs
set_option maxRecDepth 20000
attribute [local congr] gif_cg
attribute [local simp] footOf noClash clash upsets setsHit setHits layHits layMeets setsMeet evFeet
def foldS {α σ ε:Type} (g:Nat→σ→α→ε ⊕ σ):Nat→σ→List α→ε ⊕ σ
 | _,s,[]=>.inr s
 | i,s,x::r=>match g i s x with | .inr s'=>foldS g (i+1) s' r | .inl e=>.inl e
def Goes {σ ε:Type} (id:Nat) (Z:σ→St) (X:ε→St→Prop) (r:Option (Ex × St)):ε ⊕ σ→Prop
 | .inr s=>r=some (.exit id,Z s)
 | .inl e=>∃ st,r=some (.ret,st)∧X e st
theorem loop_list {α σ ε:Type} {f id:Nat} {code:Code} (all:List α) (I:Nat→σ→Prop) (S:Nat→σ→St) (g:Nat→σ→α→ε ⊕ σ) (Z:σ→St) (X:ε→St→Prop)
  (hz:∀ k s,I all.length s→evCode E (orc E) f (evLoop E (orc E) f k) code (S all.length s)=some (.exit id,Z s))
  (hs:∀ k i s (h:i < all.length),I i s→(∀ s',g i s all[i]=.inr s'→evCode E (orc E) f (evLoop E (orc E) f k) code (S i s)=some (.normal,S (i+1) s')∧I (i+1) s')∧
   (∀ e,g i s all[i]=.inl e→∃ st,evCode E (orc E) f (evLoop E (orc E) f k) code (S i s)=some (.ret,st)∧X e st)):
  ∀ (rest:List α) (i:Nat) (s:σ),all.drop i=rest→i≤all.length→I i s→
   Goes id Z X (evLoop E (orc E) f (rest.length+1) code (S i s)) (foldS g i s rest)
 | [],i,s,h,hi,hI=>by
  have e:i=all.length:=by have:=List.drop_eq_nil_iff.1 h; omega
  subst e
  exact evLoop_out (hz _ s hI) (by simp)
 | x::rest,i,s,h,hi,hI=>by
  obtain ⟨hi,hc,hr⟩:=drop_cons h
  obtain ⟨h1,h2⟩:=hs (rest.length+1) i s hi hI
  unfold foldS
  rw [hc] at h1 h2
  cases q:g i s x with
  | inr s'=>
   obtain ⟨g1,g2⟩:=h1 s' q
   have ih:=loop_list all I S g Z X hz hs rest (i+1) s' hr hi g2
   rw [← evLoop_next (E:=E) (call:=orc E) g1 rfl] at ih
   exact ih
  | inl e=>
   obtain ⟨st,g1,g2⟩:=h2 e q
   exact ⟨st,evLoop_out g1 (by simp),g2⟩
def foldI {α σ:Type} (g:Nat→σ→α→σ):Nat→σ→List α→σ
 | _,s,[]=>s
 | i,s,x::r=>foldI g (i+1) (g i s x) r
theorem foldS_I {α σ ε:Type} (g:Nat→σ→α→σ):∀ (l:List α) (i:Nat) (s:σ),foldS (ε:=ε) (fun i s x=>.inr (g i s x)) i s l=.inr (foldI g i s l)
 | [],_,_=>rfl
 | x::l,i,s=>by simp only [foldS,foldI]; exact foldS_I g l (i+1) (g i s x)
theorem loop_all {α σ:Type} {f id:Nat} {code:Code} (all:List α) (I:Nat→σ→Prop) (S:Nat→σ→St) (g:Nat→σ→α→σ) (Z:σ→St)
  (hz:∀ k s,I all.length s→evCode E (orc E) f (evLoop E (orc E) f k) code (S all.length s)=some (.exit id,Z s))
  (hs:∀ k i s (h:i < all.length),I i s→evCode E (orc E) f (evLoop E (orc E) f k) code (S i s)=some (.normal,S (i+1) (g i s all[i]))∧I (i+1) (g i s all[i])) (s0:σ) (h0:I 0 s0):
  evLoop E (orc E) f (all.length+1) code (S 0 s0)=some (.exit id,Z (foldI g 0 s0 all)):=by
 have:=loop_list (f:=f) (id:=id) (code:=code) (ε:=Empty) all I S (fun i s x=>.inr (g i s x)) Z (fun e _=>nomatch e) hz
  (fun k i s h hI=>⟨fun s' he=>by simp only [Sum.inr.injEq] at he; subst he; exact hs k i s h hI,fun e=>nomatch e⟩) all 0 s0 rfl (Nat.zero_le _) h0
 rw [foldS_I] at this
 exact this
theorem wrap1 {i n:Nat} (h:i < n) (hn:n < 2 ^ 62):IntKind.i64.wrap ((i:Int)+1)=((i+1:Nat):Int):=by rw [wrapI] <;> omega
theorem ltN_t {i n:Nat} (h:i < n):ltI (i:Int) (n:Int)=true:=ltI_t (by omega)
theorem ltN_f (n:Nat):ltI (n:Int) (n:Int)=false:=ltI_f (by omega)
theorem ci_01 (b:Bool):ci b 1=0∨ci b 1=1:=by cases b <;> simp [ci]
def rawM (k a b:Int):Int:=
 if eqI k 3=true then a+b else if eqI k 4=true then a - b else if eqI k 5=true then a*b else if eqI k 6=true then Int.tdiv a b
 else if eqI k 7=true then ci (ltI a b) 1 else if eqI k 8=true then ci (eqI a b) 1 else if eqI k 9=true then a*b else 1 - a
def nodeV (vars acc:List Int) (n:Node):Int:=
 if eqI n.kind 1=true then n.value else if eqI n.kind 2=true then szAt vars n.value else rawM n.kind (szAt acc n.left) (szAt acc n.right)
section
variable (P:Program) (t:TypeId) (x y:Operand)
theorem pr_mulX (k:IntKind) (a b:Int):pureRun P (do eqGuard .mul t x y (.int k a) (.int k b); binOp .mul t (.int k a) (.int k b))=some (.int k (k.wrap (a*b))):=by cases k <;> rfl
theorem pr_and00:pureRun P (do eqGuard .and t x y (.int .i64 0) (.int .i64 0); binOp .and t (.int .i64 0) (.int .i64 0))=some (.int .i64 0):=by rfl
theorem pr_and01:pureRun P (do eqGuard .and t x y (.int .i64 0) (.int .i64 1); binOp .and t (.int .i64 0) (.int .i64 1))=some (.int .i64 0):=by rfl
theorem pr_and10:pureRun P (do eqGuard .and t x y (.int .i64 1) (.int .i64 0); binOp .and t (.int .i64 1) (.int .i64 0))=some (.int .i64 0):=by rfl
theorem pr_and11:pureRun P (do eqGuard .and t x y (.int .i64 1) (.int .i64 1); binOp .and t (.int .i64 1) (.int .i64 1))=some (.int .i64 1):=by rfl
theorem pr_quoX (a b:Int) (h:b≠0):pureRun P (do eqGuard .quo t x y (.int .i64 a) (.int .i64 b); binOp .quo t (.int .i64 a) (.int .i64 b))=some (.int .i64 (IntKind.i64.wrap (Int.tdiv a b))):=by
 unfold binOp
 simp [eqGuard,h,Op.intDiv]
 rfl
end
end Go.TM.Ft
namespace Go.TM.Ft
open Go Go.TM Go.Proofs
set_option maxRecDepth 20000
attribute [local congr] gif_cg
attribute [local simp] footOf noClash clash upsets setsHit setHits layHits layMeets setsMeet evFeet
attribute [local simp] pr_mulX pr_and00 pr_and01 pr_and10 pr_and11
def kindN (l:List Node) (k:Int):Int:=match l[k.toNat]? with | some n=>n.kind | none=>0
structure ExprOk (l:List Node):Prop where
 pos:1≤l.length
 le:l.length≤16
 node:∀ (k:Nat) (n:Node),l[k]?=some n→nodeFaultM n (k:Nat)=0
 typ:∀ (k:Nat) (n:Node),l[k]?=some n→2 < n.kind→(partB (kindN l n.left)).2=(partB n.kind).1∧(n.kind≤9→(partB (kindN l n.right)).2=(partB n.kind).1)
theorem node_kinds {n:Node} {i:Int} (h:nodeFaultM n i=0):
  (n.kind=1∧0≤n.value∧n.value≤9999)∨(n.kind=2∧0≤n.value∧n.value≤3)∨(n.kind=10∧n.right=0∧0≤n.left∧n.left≤i - 1)∨
  (3≤n.kind∧n.kind≤9∧0≤n.left∧n.left≤i - 1∧0≤n.right∧n.right≤i - 1):=by
 unfold nodeFaultM at h
 by_cases h1:n.kind=1
 ·simp [h1,orB,eqI,first2,notB,inR,andB,leI] at h
  (repeat' split at h) <;> first | omega | simp at h
 by_cases h2:n.kind=2
 ·simp [h2,orB,eqI,first2,notB,inR,andB,leI] at h
  (repeat' split at h) <;> first | omega | simp at h
 by_cases h10:n.kind=10
 ·simp [h10,orB,eqI,first2,notB,inR,andB,leI] at h
  (repeat' split at h) <;> first | omega | simp at h
 by_cases h39:3≤n.kind∧n.kind≤9
 ·have e:inR n.kind 3 9=true:=by simp [inR,andB,leI]; exact h39
  simp only [e] at h
  simp [h1,h2,h10,orB,eqI,first2,notB,inR,andB,leI] at h
  (repeat' split at h) <;> first | omega | simp at h
 ·have e:inR n.kind 3 9=false:=by simp [inR,andB,leI]; omega
  simp [h1,h2,h10,e,orB,eqI] at h
end Go.TM.Ft
namespace Go.TM.Ft
open Go Go.TM Go.Proofs
set_option maxRecDepth 20000
attribute [local congr] gif_cg
attribute [local simp] footOf noClash clash upsets setsHit setHits layHits layMeets setsMeet evFeet
theorem szAt_lt {l:List Int} {k:Nat} (h:k < l.length):szAt l (k:Int)=l[k]:=szAt_get h
theorem kindN_at {l:List Node} {k:Nat} {n:Node} (h:l[k]?=some n):kindN l (k:Int)=n.kind:=by simp [kindN,h]
structure Vals (l:List Node) (i:Nat) (acc:List Int):Prop where
 len:acc.length=i
 rng:∀ (k:Nat) (h:k < acc.length),-1000000≤acc[k]∧acc[k]≤1000000
 bool:∀ (k:Nat) (h:k < acc.length),(partB (kindN l (k:Int))).2=2→acc[k]=0∨acc[k]=1
theorem badV_f {v:Int} (h:badV v=false):-1000000≤v∧v≤1000000:=by
 unfold badV at h
 have:inR v (-1000000) 1000000=true:=by cases e:inR v (-1000000) 1000000 <;> simp [notB,e] at h ⊢
 simp [inR,andB,leI] at this
 exact this
theorem rawM_10 (a b:Int):rawM 10 a b=1 - a:=rfl
theorem part_bool {k:Int} (h:(partB k).2=2):7≤k:=by
 unfold partB at h
 simp [leI] at h
 split at h
 ·simp at h
 ·omega
theorem Vals.next {l:List Node} (ok:ExprOk l) {i:Nat} {acc vars:List Int} (h:Vals l i acc) (hi:i < l.length) (hb:badV (nodeV vars acc l[i])=false):Vals l (i+1) (acc++[nodeV vars acc l[i]]):=by
 have hl:=h.len
 refine ⟨by simp [hl],fun k hk=>?_,fun k hk=>?_⟩
 ·simp at hk
  rcases Nat.lt_or_ge k acc.length with h' | h'
  ·rw [List.getElem_append_left h']; exact h.rng k h'
  ·have e:k=acc.length:=by omega
   subst e
   simp; exact badV_f hb
 ·intro hp
  simp at hk
  rcases Nat.lt_or_ge k acc.length with h' | h'
  ·rw [List.getElem_append_left h']; exact h.bool k h' hp
  ·have e:k=i:=by omega
   subst e
   have hn:l[k]?=some l[k]:=List.getElem?_eq_getElem hi
   rw [kindN_at hn] at hp
   have h7:=part_bool hp
   have hval:nodeV vars acc l[k]=rawM (l[k]).kind (szAt acc (l[k]).left) (szAt acc (l[k]).right):=by
    unfold nodeV
    rw [if_neg (by simp [eqI]; omega),if_neg (by simp [eqI]; omega)]
   have e:(acc++[nodeV vars acc l[k]])[k]'(by simp; omega)=nodeV vars acc l[k]:=by
    rw [List.getElem_append_right (by omega)]; simp
   rw [e,hval]
   have bl:∀ x:Int,0≤x→x≤(k:Int) - 1→(partB (kindN l x)).2=2→szAt acc x=0∨szAt acc x=1:=by
    intro x h0 h1 h2
    obtain ⟨y,rfl⟩:=Int.eq_ofNat_of_zero_le h0
    rw [szAt_lt (by omega)]
    exact h.bool y (by omega) h2
   rcases node_kinds (ok.node k _ hn) with q | q | q | q
   ·omega
   ·omega
   ·rw [q.1,rawM_10]
    have t:=(ok.typ k _ hn (by omega)).1
    rw [q.1] at t
    rcases bl _ q.2.2.1 q.2.2.2 t with e | e <;> rw [e] <;> simp
   ·by_cases k7:(l[k]).kind=7
    ·rw [k7]; simpa [rawM,eqI] using ci_01 _
    by_cases k8:(l[k]).kind=8
    ·rw [k8]; simpa [rawM,eqI] using ci_01 _
    have k9:(l[k]).kind=9:=by omega
    have t:=ok.typ k _ hn (by omega)
    rw [k9] at t ⊢
    have b1:=bl _ q.2.2.1 q.2.2.2.1 t.1
    have b2:=bl _ q.2.2.2.2.1 q.2.2.2.2.2 (t.2 (by omega))
    rcases b1 with e | e <;> rcases b2 with e2 | e2 <;> rw [e,e2] <;> simp [rawM,eqI]
end Go.TM.Ft
