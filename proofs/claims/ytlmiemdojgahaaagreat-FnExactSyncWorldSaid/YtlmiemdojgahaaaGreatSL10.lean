/- What functions of the program come to, by the machine. -/
import Derived.Test.YtlmiemdojgahaaaGreatSL9
import Derived.Test.YtlmiemdojgahaaaGreatSL1
set_option linter.unusedSimpArgs false
set_option linter.unusedVariables false
namespace Go.TM.Ft
open Go Go.TM Go.Proofs
set_option maxRecDepth 20000
attribute [local congr] gif_cg
attribute [local simp] footOf noClash clash upsets setsHit setHits layHits layMeets setsMeet evFeet
abbrev iV (n:Int):List T:=[vI n]
def subM (left:Int) (w:Nat):Int:=if ltI (left - w) 0=true then -1 else left - w
theorem sub_f {left:Int} {w:Nat} (c:ltI (subM left w) 0=false):(w:Int)≤left∧subM left w=left - w:=by
 unfold subM at c ⊢
 split at c
 ·simp [ltI] at c
 ·rename_i h; rw [if_neg h]; simp [ltI] at h; exact ⟨by omega,rfl⟩
theorem sub_t {left:Int} {w:Nat} (_h0:0≤left) (c:ltI (subM left w) 0=true):left < (w:Int):=by
 unfold subM at c
 split at c
 ·rename_i h; simp [ltI] at h; omega
 ·rename_i h; exact absurd c h
theorem subM_n {left:Int} {w:Nat} (h:left < (w:Int)):subM left w=-1:=by unfold subM; rw [if_pos (by simp [ltI]; omega)]
theorem subM_p {left:Int} {w:Nat} (h:(w:Int)≤left):subM left w=left - w:=by unfold subM; rw [if_neg (by simp [ltI]; omega)]
theorem subM_z {left:Int} (h:0≤left):subM left 0=left:=by rw [subM_p (by simpa using h)]; simp
theorem subM_add (left:Int) (a b:Nat):subM left (a+b)=subM (left - a) b:=by
 have e:left - ((a+b:Nat):Int)=left - a - b:=by omega
 unfold subM; rw [e]
def wStep (x:Step):Nat:=x.name.size+x.cond.length+x.expr.length
def FwStep (x:Step):Prop:=x.name.size < 2 ^ 62∧x.cond.length < 2 ^ 62∧x.expr.length < 2 ^ 62
def sumStep:List Step→Nat
 | []=>0
 | x::r=>wStep x+sumStep r
def wsStep (l:List Step):Nat:=l.length+sumStep l
theorem sumStep_mem {x:Step}:∀ {l:List Step},x∈l→wStep x≤sumStep l
 | [],h=>by simp at h
 | y::l,h=>by
  unfold sumStep
  rcases List.mem_cons.1 h with rfl | h
  ·omega
  ·have:=sumStep_mem h; omega
def wProc (x:List Step):Nat:=wsStep x
def FwProc (x:List Step):Prop:=(x.length < 2 ^ 62∧∀ y,y∈x→FwStep y)
def sumProc:List (List Step)→Nat
 | []=>0
 | x::r=>wProc x+sumProc r
def wsProc (l:List (List Step)):Nat:=l.length+sumProc l
theorem sumProc_mem {x:List Step}:∀ {l:List (List Step)},x∈l→wProc x≤sumProc l
 | [],h=>by simp at h
 | y::l,h=>by
  unfold sumProc
  rcases List.mem_cons.1 h with rfl | h
  ·omega
  ·have:=sumProc_mem h; omega
def wChart (x:Chart):Nat:=x.vars.length+x.acts.length+x.dues.length
def FwChart (x:Chart):Prop:=x.vars.length < 2 ^ 62∧x.acts.length < 2 ^ 62∧x.dues.length < 2 ^ 62
def wInst (x:Inst):Nat:=wChart x.chart
def FwInst (x:Inst):Prop:=FwChart x.chart
def sumInst:List Inst→Nat
 | []=>0
 | x::r=>wInst x+sumInst r
def wsInst (l:List Inst):Nat:=l.length+sumInst l
theorem sumInst_mem {x:Inst}:∀ {l:List Inst},x∈l→wInst x≤sumInst l
 | [],h=>by simp at h
 | y::l,h=>by
  unfold sumInst
  rcases List.mem_cons.1 h with rfl | h
  ·omega
  ·have:=sumInst_mem h; omega
def wEngine (x:Engine):Nat:=wsProc x.procs+wsInst x.insts
def FwEngine (x:Engine):Prop:=(x.procs.length < 2 ^ 62∧∀ y,y∈x.procs→FwProc y)∧(x.insts.length < 2 ^ 62∧∀ y,y∈x.insts→FwInst y)
def wDesk (x:Desk):Nat:=wEngine x.eng+x.claims.length
def FwDesk (x:Desk):Prop:=FwEngine x.eng∧x.claims.length < 2 ^ 62
theorem g_szintS (l:List Int) (left:Int) (h0:0≤left) (h1:left≤1048576) (hl:l.length < 2 ^ 62):fo 156 [A (.sl 2 (l.map iV)),A (vI left)]=some (R (vI (subM left l.length))):=by
 have hw:IntKind.i64.wrap (left - l.length)=left - l.length:=by rw [wrapI] <;> omega
 refine orc_156 1 ?_
 simp (maxSteps:=1000000) +contextual -dsimp [Tryz.f156,subM,hw]
theorem g_szNodeS (l:List Node) (left:Int) (h0:0≤left) (h1:left≤1048576) (hl:l.length < 2 ^ 62):fo 155 [A (.sl 267 (l.map nT)),A (vI left)]=some (R (vI (subM left l.length))):=by
 have hw:IntKind.i64.wrap (left - l.length)=left - l.length:=by rw [wrapI] <;> omega
 refine orc_155 1 ?_
 simp (maxSteps:=1000000) +contextual -dsimp [Tryz.f155,subM,hw]
theorem g_szStep (x:Step) (left:Int) (h0:0≤left) (h1:left≤1048576) (hf:FwStep x):fo 68 [A (.agg (sT 267 x)),A (vI left)]=some (R (vI (subM left (wStep x)))):=by
 unfold FwStep at hf
 refine orc_68 1 ?_
 have hw0:IntKind.i64.wrap (left - (x.name.size:Nat))=left - (x.name.size:Nat):=by have:=hf.1; rw [wrapI] <;> omega
 cases c0:ltI (left - (x.name.size:Nat)) 0
 ·have p0:((x.name.size:Nat):Int)≤left:=by simp [ltI] at c0; omega
  have g1:=g_szNodeS x.cond (left - (x.name.size:Nat)) (by omega) (by omega) hf.2.1
  cases c1:ltI (subM (left - (x.name.size:Nat)) (x.cond.length)) 0
  ·obtain ⟨p1,e1⟩:=sub_f c1
   rw [e1] at g1 c1
   have g2:=g_szNodeS x.expr (left - (x.name.size:Nat) - (x.cond.length:Nat)) (by omega) (by omega) hf.2.2
   cases c2:ltI (subM (left - (x.name.size:Nat) - (x.cond.length:Nat)) (x.expr.length)) 0
   ·obtain ⟨p2,e2⟩:=sub_f c2
    rw [e2] at g2 c2
    have hm:subM left (wStep x)=left - (x.name.size:Nat) - (x.cond.length:Nat) - (x.expr.length:Nat):=by
     have:=subM_p (left:=left) (w:=wStep x) (by simp only [wStep]; omega)
     simp only [wStep] at this ⊢; omega
    rw [hm]
    simp (maxSteps:=1000000) +contextual -dsimp [Tryz.f68,hw0,g1,g2,c0,c1,c2]
   ·have n2:=sub_t (by omega) c2
    have hm:subM left (wStep x)=-1:=subM_n (by simp only [wStep]; omega)
    rw [hm]
    simp (maxSteps:=1000000) +contextual -dsimp [Tryz.f68,hw0,g1,g2,c0,c1,c2]
  ·have n1:=sub_t (by omega) c1
   have hm:subM left (wStep x)=-1:=subM_n (by simp only [wStep]; omega)
   rw [hm]
   simp (maxSteps:=1000000) +contextual -dsimp [Tryz.f68,hw0,g1,c0,c1]
 ·have hm:subM left (wStep x)=-1:=subM_n (by simp only [wStep]; simp [ltI] at c0; omega)
  rw [hm]
  simp (maxSteps:=1000000) +contextual -dsimp [Tryz.f68,hw0,c0]
theorem lszStepS (all:List Step) (hall:all.length≤1048576) (hf:∀ x,x∈all→FwStep x):∀ (rest:List Step) (i:Nat) (left:Int),all.drop i=rest→0≤left→left≤1048576→
  evLoop E (orc E) (13:Nat) (rest.length+1) (loopOf Tryz.f13 0) ⟨27,[(0,.sl 111 (all.map (sT 267))),(1,vI left),(5,vI i)],[],2⟩=
  (if ltI (subM left (sumStep rest)) 0=true then some (.ret,⟨27,[(4,vI (-1))],[],2⟩) else some (.exit 0,⟨27,[(0,.sl 111 (all.map (sT 267))),(1,vI (left - (sumStep rest:Nat))),(5,vI (i+rest.length:Nat)),(15,vB false)],[],2⟩))
 | [],i,left,h,h0,h1=>by
  have hge:all.length≤i:=by simpa using h
  have hlt:ltI (i:Int) (all.length:Int)=false:=ltI_f (by omega)
  have hz:subM left 0=left:=subM_z h0
  have hn:ltI left 0=false:=ltI_f (by omega)
  rw [loop_eq]
  simp +contextual -dsimp [Tryz.f13,hlt,sumStep,hz,hn]
 | x::rest,i,left,h,h0,h1=>by
  obtain ⟨hi,hc,hr⟩:=drop_cons h
  have hlt:ltI (i:Int) (all.length:Int)=true:=ltI_t (by omega)
  have hw:IntKind.i64.wrap ((i:Int)+1)=((i+1:Nat):Int):=by rw [wrapI] <;> omega
  have he:i+1+rest.length=i+(rest.length+1):=by omega
  have g:=g_szStep x left h0 h1 (hf x (by rw [← hc]; exact List.getElem_mem _))
  have ha:subM left (sumStep (x::rest))=subM (left - wStep x) (sumStep rest):=subM_add left (wStep x) (sumStep rest)
  have hb:left - ((sumStep (x::rest):Nat):Int)=left - wStep x - (sumStep rest:Nat):=by simp only [sumStep]; omega
  cases c:ltI (subM left (wStep x)) 0
  ·obtain ⟨p,e⟩:=sub_f c
   rw [e] at g c
   have ih:=lszStepS all hall hf rest (i+1) (left - wStep x) hr (by omega) (by omega)
   rw [he] at ih
   rw [ha,hb]
   refine evLoop_next ?_ (by simpa only [List.length_cons] using ih)
   simp (maxSteps:=1000000) +contextual -dsimp [Tryz.f13,hlt,hi,hc,hw,g,c]
  ·have hn:=sub_t h0 c
   have hm:ltI (subM left (sumStep (x::rest))) 0=true:=by rw [subM_n (by simp only [sumStep]; omega)]; rfl
   rw [hm,if_pos rfl]
   refine evLoop_out ?_ (by simp)
   simp (maxSteps:=1000000) +contextual -dsimp [Tryz.f13,hlt,hi,hc,g,c]
theorem g_szStepS (l:List Step) (left:Int) (h0:0≤left) (h1:left≤1048576) (hf:l.length < 2 ^ 62∧∀ y,y∈l→FwStep y):fo 13 [A (.sl 111 (l.map (sT 267))),A (vI left)]=some (R (vI (subM left (wsStep l)))):=by
 have hl:=hf.1
 unfold wsStep
 have hw:IntKind.i64.wrap (left - l.length)=left - l.length:=by rw [wrapI] <;> omega
 refine orc_13 (l.length+1) ?_
 cases c1:ltI (left - l.length) 0
 ·have p:(l.length:Int)≤left:=by simp [ltI] at c1; omega
  have hlp:=lszStepS l (by omega) hf.2 l 0 (left - l.length) rfl (by omega) (by omega)
  have ha:subM left (l.length+sumStep l)=subM (left - l.length) (sumStep l):=subM_add left l.length (sumStep l)
  rw [ha]
  simp -dsimp [Tryz.f13] at hlp
  cases c2:ltI (subM (left - l.length) (sumStep l)) 0
  ·obtain ⟨p2,e2⟩:=sub_f c2
   rw [c2] at hlp
   rw [e2]
   simp (maxSteps:=1000000) +contextual -dsimp [Tryz.f13,hw,c1,hlp]
  ·rw [c2] at hlp
   have e2:subM (left - l.length) (sumStep l)=-1:=subM_n (sub_t (by omega) c2)
   rw [e2]
   simp (maxSteps:=1000000) +contextual -dsimp [Tryz.f13,hw,c1,hlp]
 ·have hm:subM left (l.length+sumStep l)=-1:=subM_n (by simp [ltI] at c1; omega)
  rw [hm]
  simp (maxSteps:=1000000) +contextual -dsimp [Tryz.f13,hw,c1]
theorem g_szProc (x:List Step) (left:Int) (h0:0≤left) (h1:left≤1048576) (hf:FwProc x):fo 179 [A (.agg (pT 111 267 x)),A (vI left)]=some (R (vI (subM left (wProc x)))):=by
 unfold FwProc at hf
 refine orc_179 1 ?_
 have g0:=g_szStepS x (left) (by omega) (by omega) hf
 cases c0:ltI (subM (left) (wsStep x)) 0
 ·obtain ⟨p0,e0⟩:=sub_f c0
  rw [e0] at g0 c0
  have hm:subM left (wProc x)=left - (wsStep x:Nat):=by
   have:=subM_p (left:=left) (w:=wProc x) (by simp only [wProc]; omega)
   simp only [wProc] at this ⊢; omega
  rw [hm]
  simp (maxSteps:=1000000) +contextual -dsimp [Tryz.f179,g0,c0]
 ·have n0:=sub_t (by omega) c0
  have hm:subM left (wProc x)=-1:=subM_n (by simp only [wProc]; omega)
  rw [hm]
  simp (maxSteps:=1000000) +contextual -dsimp [Tryz.f179,g0,c0]
theorem lszProcS (all:List (List Step)) (hall:all.length≤1048576) (hf:∀ x,x∈all→FwProc x):∀ (rest:List (List Step)) (i:Nat) (left:Int),all.drop i=rest→0≤left→left≤1048576→
  evLoop E (orc E) (105:Nat) (rest.length+1) (loopOf Tryz.f105 0) ⟨27,[(0,.sl 225 (all.map (pT 111 267))),(1,vI left),(5,vI i)],[],2⟩=
  (if ltI (subM left (sumProc rest)) 0=true then some (.ret,⟨27,[(4,vI (-1))],[],2⟩) else some (.exit 0,⟨27,[(0,.sl 225 (all.map (pT 111 267))),(1,vI (left - (sumProc rest:Nat))),(5,vI (i+rest.length:Nat)),(15,vB false)],[],2⟩))
 | [],i,left,h,h0,h1=>by
  have hge:all.length≤i:=by simpa using h
  have hlt:ltI (i:Int) (all.length:Int)=false:=ltI_f (by omega)
  have hz:subM left 0=left:=subM_z h0
  have hn:ltI left 0=false:=ltI_f (by omega)
  rw [loop_eq]
  simp +contextual -dsimp [Tryz.f105,hlt,sumProc,hz,hn]
 | x::rest,i,left,h,h0,h1=>by
  obtain ⟨hi,hc,hr⟩:=drop_cons h
  have hlt:ltI (i:Int) (all.length:Int)=true:=ltI_t (by omega)
  have hw:IntKind.i64.wrap ((i:Int)+1)=((i+1:Nat):Int):=by rw [wrapI] <;> omega
  have he:i+1+rest.length=i+(rest.length+1):=by omega
  have g:=g_szProc x left h0 h1 (hf x (by rw [← hc]; exact List.getElem_mem _))
  have ha:subM left (sumProc (x::rest))=subM (left - wProc x) (sumProc rest):=subM_add left (wProc x) (sumProc rest)
  have hb:left - ((sumProc (x::rest):Nat):Int)=left - wProc x - (sumProc rest:Nat):=by simp only [sumProc]; omega
  cases c:ltI (subM left (wProc x)) 0
  ·obtain ⟨p,e⟩:=sub_f c
   rw [e] at g c
   have ih:=lszProcS all hall hf rest (i+1) (left - wProc x) hr (by omega) (by omega)
   rw [he] at ih
   rw [ha,hb]
   refine evLoop_next ?_ (by simpa only [List.length_cons] using ih)
   simp (maxSteps:=1000000) +contextual -dsimp [Tryz.f105,hlt,hi,hc,hw,g,c]
  ·have hn:=sub_t h0 c
   have hm:ltI (subM left (sumProc (x::rest))) 0=true:=by rw [subM_n (by simp only [sumProc]; omega)]; rfl
   rw [hm,if_pos rfl]
   refine evLoop_out ?_ (by simp)
   simp (maxSteps:=1000000) +contextual -dsimp [Tryz.f105,hlt,hi,hc,g,c]
theorem g_szProcS (l:List (List Step)) (left:Int) (h0:0≤left) (h1:left≤1048576) (hf:l.length < 2 ^ 62∧∀ y,y∈l→FwProc y):fo 105 [A (.sl 225 (l.map (pT 111 267))),A (vI left)]=some (R (vI (subM left (wsProc l)))):=by
 have hl:=hf.1
 unfold wsProc
 have hw:IntKind.i64.wrap (left - l.length)=left - l.length:=by rw [wrapI] <;> omega
 refine orc_105 (l.length+1) ?_
 cases c1:ltI (left - l.length) 0
 ·have p:(l.length:Int)≤left:=by simp [ltI] at c1; omega
  have hlp:=lszProcS l (by omega) hf.2 l 0 (left - l.length) rfl (by omega) (by omega)
  have ha:subM left (l.length+sumProc l)=subM (left - l.length) (sumProc l):=subM_add left l.length (sumProc l)
  rw [ha]
  simp -dsimp [Tryz.f105] at hlp
  cases c2:ltI (subM (left - l.length) (sumProc l)) 0
  ·obtain ⟨p2,e2⟩:=sub_f c2
   rw [c2] at hlp
   rw [e2]
   simp (maxSteps:=1000000) +contextual -dsimp [Tryz.f105,hw,c1,hlp]
  ·rw [c2] at hlp
   have e2:subM (left - l.length) (sumProc l)=-1:=subM_n (sub_t (by omega) c2)
   rw [e2]
   simp (maxSteps:=1000000) +contextual -dsimp [Tryz.f105,hw,c1,hlp]
 ·have hm:subM left (l.length+sumProc l)=-1:=subM_n (by simp [ltI] at c1; omega)
  rw [hm]
  simp (maxSteps:=1000000) +contextual -dsimp [Tryz.f105,hw,c1]
theorem g_szChart (x:Chart) (left:Int) (h0:0≤left) (h1:left≤1048576) (hf:FwChart x):fo 241 [A (.agg (cT x)),A (vI left)]=some (R (vI (subM left (wChart x)))):=by
 unfold FwChart at hf
 refine orc_241 1 ?_
 have g0:=g_szintS x.vars (left) (by omega) (by omega) hf.1
 cases c0:ltI (subM (left) (x.vars.length)) 0
 ·obtain ⟨p0,e0⟩:=sub_f c0
  rw [e0] at g0 c0
  have g1:=g_szintS x.acts (left - (x.vars.length:Nat)) (by omega) (by omega) hf.2.1
  cases c1:ltI (subM (left - (x.vars.length:Nat)) (x.acts.length)) 0
  ·obtain ⟨p1,e1⟩:=sub_f c1
   rw [e1] at g1 c1
   have g2:=g_szintS x.dues (left - (x.vars.length:Nat) - (x.acts.length:Nat)) (by omega) (by omega) hf.2.2
   cases c2:ltI (subM (left - (x.vars.length:Nat) - (x.acts.length:Nat)) (x.dues.length)) 0
   ·obtain ⟨p2,e2⟩:=sub_f c2
    rw [e2] at g2 c2
    have hm:subM left (wChart x)=left - (x.vars.length:Nat) - (x.acts.length:Nat) - (x.dues.length:Nat):=by
     have:=subM_p (left:=left) (w:=wChart x) (by simp only [wChart]; omega)
     simp only [wChart] at this ⊢; omega
    rw [hm]
    simp (maxSteps:=1000000) +contextual -dsimp [Tryz.f241,g0,g1,g2,c0,c1,c2]
   ·have n2:=sub_t (by omega) c2
    have hm:subM left (wChart x)=-1:=subM_n (by simp only [wChart]; omega)
    rw [hm]
    simp (maxSteps:=1000000) +contextual -dsimp [Tryz.f241,g0,g1,g2,c0,c1,c2]
  ·have n1:=sub_t (by omega) c1
   have hm:subM left (wChart x)=-1:=subM_n (by simp only [wChart]; omega)
   rw [hm]
   simp (maxSteps:=1000000) +contextual -dsimp [Tryz.f241,g0,g1,c0,c1]
 ·have n0:=sub_t (by omega) c0
  have hm:subM left (wChart x)=-1:=subM_n (by simp only [wChart]; omega)
  rw [hm]
  simp (maxSteps:=1000000) +contextual -dsimp [Tryz.f241,g0,c0]
theorem g_szInst (x:Inst) (left:Int) (h0:0≤left) (h1:left≤1048576) (hf:FwInst x):fo 180 [A (.agg (xT x)),A (vI left)]=some (R (vI (subM left (wInst x)))):=by
 unfold FwInst at hf
 refine orc_180 1 ?_
 have g0:=g_szChart x.chart (left) (by omega) (by omega) hf
 cases c0:ltI (subM (left) (wChart x.chart)) 0
 ·obtain ⟨p0,e0⟩:=sub_f c0
  rw [e0] at g0 c0
  have hm:subM left (wInst x)=left - (wChart x.chart:Nat):=by
   have:=subM_p (left:=left) (w:=wInst x) (by simp only [wInst]; omega)
   simp only [wInst] at this ⊢; omega
  rw [hm]
  simp (maxSteps:=1000000) +contextual -dsimp [Tryz.f180,g0,c0]
 ·have n0:=sub_t (by omega) c0
  have hm:subM left (wInst x)=-1:=subM_n (by simp only [wInst]; omega)
  rw [hm]
  simp (maxSteps:=1000000) +contextual -dsimp [Tryz.f180,g0,c0]
theorem lszInstS (all:List Inst) (hall:all.length≤1048576) (hf:∀ x,x∈all→FwInst x):∀ (rest:List Inst) (i:Nat) (left:Int),all.drop i=rest→0≤left→left≤1048576→
  evLoop E (orc E) (106:Nat) (rest.length+1) (loopOf Tryz.f106 0) ⟨27,[(0,.sl 229 (all.map xT)),(1,vI left),(5,vI i)],[],2⟩=
  (if ltI (subM left (sumInst rest)) 0=true then some (.ret,⟨27,[(4,vI (-1))],[],2⟩) else some (.exit 0,⟨27,[(0,.sl 229 (all.map xT)),(1,vI (left - (sumInst rest:Nat))),(5,vI (i+rest.length:Nat)),(15,vB false)],[],2⟩))
 | [],i,left,h,h0,h1=>by
  have hge:all.length≤i:=by simpa using h
  have hlt:ltI (i:Int) (all.length:Int)=false:=ltI_f (by omega)
  have hz:subM left 0=left:=subM_z h0
  have hn:ltI left 0=false:=ltI_f (by omega)
  rw [loop_eq]
  simp +contextual -dsimp [Tryz.f106,hlt,sumInst,hz,hn]
 | x::rest,i,left,h,h0,h1=>by
  obtain ⟨hi,hc,hr⟩:=drop_cons h
  have hlt:ltI (i:Int) (all.length:Int)=true:=ltI_t (by omega)
  have hw:IntKind.i64.wrap ((i:Int)+1)=((i+1:Nat):Int):=by rw [wrapI] <;> omega
  have he:i+1+rest.length=i+(rest.length+1):=by omega
  have g:=g_szInst x left h0 h1 (hf x (by rw [← hc]; exact List.getElem_mem _))
  have ha:subM left (sumInst (x::rest))=subM (left - wInst x) (sumInst rest):=subM_add left (wInst x) (sumInst rest)
  have hb:left - ((sumInst (x::rest):Nat):Int)=left - wInst x - (sumInst rest:Nat):=by simp only [sumInst]; omega
  cases c:ltI (subM left (wInst x)) 0
  ·obtain ⟨p,e⟩:=sub_f c
   rw [e] at g c
   have ih:=lszInstS all hall hf rest (i+1) (left - wInst x) hr (by omega) (by omega)
   rw [he] at ih
   rw [ha,hb]
   refine evLoop_next ?_ (by simpa only [List.length_cons] using ih)
   simp (maxSteps:=1000000) +contextual -dsimp [Tryz.f106,hlt,hi,hc,hw,g,c]
  ·have hn:=sub_t h0 c
   have hm:ltI (subM left (sumInst (x::rest))) 0=true:=by rw [subM_n (by simp only [sumInst]; omega)]; rfl
   rw [hm,if_pos rfl]
   refine evLoop_out ?_ (by simp)
   simp (maxSteps:=1000000) +contextual -dsimp [Tryz.f106,hlt,hi,hc,g,c]
theorem g_szInstS (l:List Inst) (left:Int) (h0:0≤left) (h1:left≤1048576) (hf:l.length < 2 ^ 62∧∀ y,y∈l→FwInst y):fo 106 [A (.sl 229 (l.map xT)),A (vI left)]=some (R (vI (subM left (wsInst l)))):=by
 have hl:=hf.1
 unfold wsInst
 have hw:IntKind.i64.wrap (left - l.length)=left - l.length:=by rw [wrapI] <;> omega
 refine orc_106 (l.length+1) ?_
 cases c1:ltI (left - l.length) 0
 ·have p:(l.length:Int)≤left:=by simp [ltI] at c1; omega
  have hlp:=lszInstS l (by omega) hf.2 l 0 (left - l.length) rfl (by omega) (by omega)
  have ha:subM left (l.length+sumInst l)=subM (left - l.length) (sumInst l):=subM_add left l.length (sumInst l)
  rw [ha]
  simp -dsimp [Tryz.f106] at hlp
  cases c2:ltI (subM (left - l.length) (sumInst l)) 0
  ·obtain ⟨p2,e2⟩:=sub_f c2
   rw [c2] at hlp
   rw [e2]
   simp (maxSteps:=1000000) +contextual -dsimp [Tryz.f106,hw,c1,hlp]
  ·rw [c2] at hlp
   have e2:subM (left - l.length) (sumInst l)=-1:=subM_n (sub_t (by omega) c2)
   rw [e2]
   simp (maxSteps:=1000000) +contextual -dsimp [Tryz.f106,hw,c1,hlp]
 ·have hm:subM left (l.length+sumInst l)=-1:=subM_n (by simp [ltI] at c1; omega)
  rw [hm]
  simp (maxSteps:=1000000) +contextual -dsimp [Tryz.f106,hw,c1]
theorem g_szClaimS (l:List Claim) (left:Int) (h0:0≤left) (h1:left≤1048576) (hl:l.length < 2 ^ 62):fo 92 [A (.sl 222 (l.map kT)),A (vI left)]=some (R (vI (subM left l.length))):=by
 have hw:IntKind.i64.wrap (left - l.length)=left - l.length:=by rw [wrapI] <;> omega
 refine orc_92 1 ?_
 simp (maxSteps:=1000000) +contextual -dsimp [Tryz.f92,subM,hw]
theorem g_szEngine (x:Engine) (left:Int) (h0:0≤left) (h1:left≤1048576) (hf:FwEngine x):fo 38 [A (.agg (eTl x)),A (vI left)]=some (R (vI (subM left (wEngine x)))):=by
 unfold FwEngine at hf
 refine orc_38 1 ?_
 have g0:=g_szProcS x.procs (left) (by omega) (by omega) hf.1
 cases c0:ltI (subM (left) (wsProc x.procs)) 0
 ·obtain ⟨p0,e0⟩:=sub_f c0
  rw [e0] at g0 c0
  have g1:=g_szInstS x.insts (left - (wsProc x.procs:Nat)) (by omega) (by omega) hf.2
  cases c1:ltI (subM (left - (wsProc x.procs:Nat)) (wsInst x.insts)) 0
  ·obtain ⟨p1,e1⟩:=sub_f c1
   rw [e1] at g1 c1
   have hm:subM left (wEngine x)=left - (wsProc x.procs:Nat) - (wsInst x.insts:Nat):=by
    have:=subM_p (left:=left) (w:=wEngine x) (by simp only [wEngine]; omega)
    simp only [wEngine] at this ⊢; omega
   rw [hm]
   simp (maxSteps:=1000000) +contextual -dsimp [Tryz.f38,g0,g1,c0,c1]
  ·have n1:=sub_t (by omega) c1
   have hm:subM left (wEngine x)=-1:=subM_n (by simp only [wEngine]; omega)
   rw [hm]
   simp (maxSteps:=1000000) +contextual -dsimp [Tryz.f38,g0,g1,c0,c1]
 ·have n0:=sub_t (by omega) c0
  have hm:subM left (wEngine x)=-1:=subM_n (by simp only [wEngine]; omega)
  rw [hm]
  simp (maxSteps:=1000000) +contextual -dsimp [Tryz.f38,g0,c0]
theorem g_szDesk (x:Desk) (left:Int) (h0:0≤left) (h1:left≤1048576) (hf:FwDesk x):fo 29 [A (.agg (dTl x)),A (vI left)]=some (R (vI (subM left (wDesk x)))):=by
 unfold FwDesk at hf
 refine orc_29 1 ?_
 have g0:=g_szEngine x.eng (left) (by omega) (by omega) hf.1
 cases c0:ltI (subM (left) (wEngine x.eng)) 0
 ·obtain ⟨p0,e0⟩:=sub_f c0
  rw [e0] at g0 c0
  have g1:=g_szClaimS x.claims (left - (wEngine x.eng:Nat)) (by omega) (by omega) hf.2
  cases c1:ltI (subM (left - (wEngine x.eng:Nat)) (x.claims.length)) 0
  ·obtain ⟨p1,e1⟩:=sub_f c1
   rw [e1] at g1 c1
   have hm:subM left (wDesk x)=left - (wEngine x.eng:Nat) - (x.claims.length:Nat):=by
    have:=subM_p (left:=left) (w:=wDesk x) (by simp only [wDesk]; omega)
    simp only [wDesk] at this ⊢; omega
   rw [hm]
   simp (maxSteps:=1000000) +contextual -dsimp [Tryz.f29,g0,g1,c0,c1]
  ·have n1:=sub_t (by omega) c1
   have hm:subM left (wDesk x)=-1:=subM_n (by simp only [wDesk]; omega)
   rw [hm]
   simp (maxSteps:=1000000) +contextual -dsimp [Tryz.f29,g0,g1,c0,c1]
 ·have n0:=sub_t (by omega) c0
  have hm:subM left (wDesk x)=-1:=subM_n (by simp only [wDesk]; omega)
  rw [hm]
  simp (maxSteps:=1000000) +contextual -dsimp [Tryz.f29,g0,c0]
end Go.TM.Ft
namespace Go.TM.Ft
open Go Go.TM Go.Proofs
set_option maxRecDepth 20000
attribute [local congr] gif_cg
attribute [local simp] footOf noClash clash upsets setsHit setHits layHits layMeets setsMeet evFeet
theorem leqintS (all:List Int) (hall:all.length≤2097152):∀ (rest:List Int) (i:Nat),all.drop i=rest→
  evLoop E (orc E) (22:Nat) (rest.length+1) (loopOf Tryz.f22 0) ⟨26,[(0,.sl 2 (all.map iV)),(1,.sl 2 (all.map iV)),(5,vI i)],[],2⟩=
  some (.exit 0,⟨26,[(0,.sl 2 (all.map iV)),(1,.sl 2 (all.map iV)),(5,vI (i+rest.length:Nat)),(14,vB false)],[],2⟩)
 | [],i,h=>by
  have hge:all.length≤i:=by simpa using h
  have hlt:ltI (i:Int) (all.length:Int)=false:=ltI_f (by omega)
  rw [loop_eq]
  simp +contextual -dsimp [Tryz.f22,hlt]
 | x::rest,i,h=>by
  obtain ⟨hi,hc,hr⟩:=drop_cons h
  have hlt:ltI (i:Int) (all.length:Int)=true:=ltI_t (by omega)
  have hw:IntKind.i64.wrap ((i:Int)+1)=((i+1:Nat):Int):=by rw [wrapI] <;> omega
  have ih:=leqintS all hall rest (i+1) hr
  have he:i+1+rest.length=i+(rest.length+1):=by omega
  rw [he] at ih
  refine evLoop_next ?_ (by simpa only [List.length_cons] using ih)
  simp (maxSteps:=1000000) +contextual -dsimp [Tryz.f22,hlt,hi,hc,hw,eqI_self]
theorem g_eqintS (l:List Int) (hl:l.length≤2097152):fo 22 [A (.sl 2 (l.map iV)),A (.sl 2 (l.map iV))]=some (R (vB true)):=by
 have hlp:=leqintS l hl l 0 rfl
 refine orc_22 (l.length+1) ?_
 simp -dsimp [Tryz.f22] at hlp
 simp (maxSteps:=1000000) +contextual -dsimp [Tryz.f22,hlp,eqI_self]
theorem g_eqNode (x:Node):fo 240 [A (.agg (nT x)),A (.agg (nT x))]=some (R (vB true)):=by
 refine orc_240 1 ?_
 simp (maxSteps:=1000000) +contextual -dsimp [Tryz.f240,eqI_self]
theorem leqNodeS (all:List Node) (hall:all.length≤2097152):∀ (rest:List Node) (i:Nat),all.drop i=rest→
  evLoop E (orc E) (173:Nat) (rest.length+1) (loopOf Tryz.f173 0) ⟨27,[(0,.sl 219 (all.map nT)),(1,.sl 219 (all.map nT)),(5,vI i)],[],2⟩=
  some (.exit 0,⟨27,[(0,.sl 219 (all.map nT)),(1,.sl 219 (all.map nT)),(5,vI (i+rest.length:Nat)),(14,vB false)],[],2⟩)
 | [],i,h=>by
  have hge:all.length≤i:=by simpa using h
  have hlt:ltI (i:Int) (all.length:Int)=false:=ltI_f (by omega)
  rw [loop_eq]
  simp +contextual -dsimp [Tryz.f173,hlt]
 | x::rest,i,h=>by
  obtain ⟨hi,hc,hr⟩:=drop_cons h
  have hlt:ltI (i:Int) (all.length:Int)=true:=ltI_t (by omega)
  have hw:IntKind.i64.wrap ((i:Int)+1)=((i+1:Nat):Int):=by rw [wrapI] <;> omega
  have ih:=leqNodeS all hall rest (i+1) hr
  have he:i+1+rest.length=i+(rest.length+1):=by omega
  rw [he] at ih
  have g:=g_eqNode x
  refine evLoop_next ?_ (by simpa only [List.length_cons] using ih)
  simp (maxSteps:=1000000) +contextual -dsimp [Tryz.f173,hlt,hi,hc,hw,g]
theorem g_eqNodeS (l:List Node) (hl:l.length≤2097152):fo 173 [A (.sl 219 (l.map nT)),A (.sl 219 (l.map nT))]=some (R (vB true)):=by
 have hlp:=leqNodeS l hl l 0 rfl
 refine orc_173 (l.length+1) ?_
 simp -dsimp [Tryz.f173] at hlp
 simp (maxSteps:=1000000) +contextual -dsimp [Tryz.f173,hlp,eqI_self]
theorem g_eqStep (x:Step) (h:wStep x≤2097152):fo 83 [A (.agg (sT 219 x)),A (.agg (sT 219 x))]=some (R (vB true)):=by
 have g4:=g_eqNodeS x.cond (by simp only [wStep] at h; omega)
 have g5:=g_eqNodeS x.expr (by simp only [wStep] at h; omega)
 refine orc_83 1 ?_
 simp (maxSteps:=1000000) +contextual -dsimp [Tryz.f83,eqI_self,eqS_self,g4,g5]
theorem leqStepS (all:List Step) (hall:all.length≤2097152) (hf:∀ x,x∈all→wStep x≤2097152):∀ (rest:List Step) (i:Nat),all.drop i=rest→
  evLoop E (orc E) (21:Nat) (rest.length+1) (loopOf Tryz.f21 0) ⟨27,[(0,.sl 124 (all.map (sT 219))),(1,.sl 124 (all.map (sT 219))),(5,vI i)],[],2⟩=
  some (.exit 0,⟨27,[(0,.sl 124 (all.map (sT 219))),(1,.sl 124 (all.map (sT 219))),(5,vI (i+rest.length:Nat)),(14,vB false)],[],2⟩)
 | [],i,h=>by
  have hge:all.length≤i:=by simpa using h
  have hlt:ltI (i:Int) (all.length:Int)=false:=ltI_f (by omega)
  rw [loop_eq]
  simp +contextual -dsimp [Tryz.f21,hlt]
 | x::rest,i,h=>by
  obtain ⟨hi,hc,hr⟩:=drop_cons h
  have hlt:ltI (i:Int) (all.length:Int)=true:=ltI_t (by omega)
  have hw:IntKind.i64.wrap ((i:Int)+1)=((i+1:Nat):Int):=by rw [wrapI] <;> omega
  have ih:=leqStepS all hall hf rest (i+1) hr
  have he:i+1+rest.length=i+(rest.length+1):=by omega
  rw [he] at ih
  have g:=g_eqStep x (hf x (by rw [← hc]; exact List.getElem_mem _))
  refine evLoop_next ?_ (by simpa only [List.length_cons] using ih)
  simp (maxSteps:=1000000) +contextual -dsimp [Tryz.f21,hlt,hi,hc,hw,g]
theorem g_eqStepS (l:List Step) (hl:l.length≤2097152) (hf:∀ x,x∈l→wStep x≤2097152):fo 21 [A (.sl 124 (l.map (sT 219))),A (.sl 124 (l.map (sT 219)))]=some (R (vB true)):=by
 have hlp:=leqStepS l hl hf l 0 rfl
 refine orc_21 (l.length+1) ?_
 simp -dsimp [Tryz.f21] at hlp
 simp (maxSteps:=1000000) +contextual -dsimp [Tryz.f21,hlp,eqI_self]
theorem g_eqProc (x:List Step) (h:wProc x≤2097152):fo 189 [A (.agg (pT 124 219 x)),A (.agg (pT 124 219 x))]=some (R (vB true)):=by
 have g0:=g_eqStepS x (by simp only [wProc,wsStep] at h; omega) (fun y hy=>by have:=sumStep_mem hy; simp only [wProc,wsStep] at h; omega)
 refine orc_189 1 ?_
 simp (maxSteps:=1000000) +contextual -dsimp [Tryz.f189,g0]
theorem leqProcS (all:List (List Step)) (hall:all.length≤2097152) (hf:∀ x,x∈all→wProc x≤2097152):∀ (rest:List (List Step)) (i:Nat),all.drop i=rest→
  evLoop E (orc E) (117:Nat) (rest.length+1) (loopOf Tryz.f117 0) ⟨27,[(0,.sl 160 (all.map (pT 124 219))),(1,.sl 160 (all.map (pT 124 219))),(5,vI i)],[],2⟩=
  some (.exit 0,⟨27,[(0,.sl 160 (all.map (pT 124 219))),(1,.sl 160 (all.map (pT 124 219))),(5,vI (i+rest.length:Nat)),(14,vB false)],[],2⟩)
 | [],i,h=>by
  have hge:all.length≤i:=by simpa using h
  have hlt:ltI (i:Int) (all.length:Int)=false:=ltI_f (by omega)
  rw [loop_eq]
  simp +contextual -dsimp [Tryz.f117,hlt]
 | x::rest,i,h=>by
  obtain ⟨hi,hc,hr⟩:=drop_cons h
  have hlt:ltI (i:Int) (all.length:Int)=true:=ltI_t (by omega)
  have hw:IntKind.i64.wrap ((i:Int)+1)=((i+1:Nat):Int):=by rw [wrapI] <;> omega
  have ih:=leqProcS all hall hf rest (i+1) hr
  have he:i+1+rest.length=i+(rest.length+1):=by omega
  rw [he] at ih
  have g:=g_eqProc x (hf x (by rw [← hc]; exact List.getElem_mem _))
  refine evLoop_next ?_ (by simpa only [List.length_cons] using ih)
  simp (maxSteps:=1000000) +contextual -dsimp [Tryz.f117,hlt,hi,hc,hw,g]
theorem g_eqProcS (l:List (List Step)) (hl:l.length≤2097152) (hf:∀ x,x∈l→wProc x≤2097152):fo 117 [A (.sl 160 (l.map (pT 124 219))),A (.sl 160 (l.map (pT 124 219)))]=some (R (vB true)):=by
 have hlp:=leqProcS l hl hf l 0 rfl
 refine orc_117 (l.length+1) ?_
 simp -dsimp [Tryz.f117] at hlp
 simp (maxSteps:=1000000) +contextual -dsimp [Tryz.f117,hlp,eqI_self]
theorem g_eqChart (x:Chart) (h:wChart x≤2097152):fo 82 [A (.agg (cT x)),A (.agg (cT x))]=some (R (vB true)):=by
 have g2:=g_eqintS x.vars (by simp only [wChart] at h; omega)
 have g3:=g_eqintS x.acts (by simp only [wChart] at h; omega)
 have g4:=g_eqintS x.dues (by simp only [wChart] at h; omega)
 refine orc_82 1 ?_
 simp (maxSteps:=1000000) +contextual -dsimp [Tryz.f82,eqI_self,g2,g3,g4]
theorem g_eqInst (x:Inst) (h:wInst x≤2097152):fo 190 [A (.agg (xT x)),A (.agg (xT x))]=some (R (vB true)):=by
 have g1:=g_eqChart x.chart (by simp only [wInst] at h; omega)
 refine orc_190 1 ?_
 simp (maxSteps:=1000000) +contextual -dsimp [Tryz.f190,eqI_self,g1]
theorem leqInstS (all:List Inst) (hall:all.length≤2097152) (hf:∀ x,x∈all→wInst x≤2097152):∀ (rest:List Inst) (i:Nat),all.drop i=rest→
  evLoop E (orc E) (118:Nat) (rest.length+1) (loopOf Tryz.f118 0) ⟨27,[(0,.sl 163 (all.map xT)),(1,.sl 163 (all.map xT)),(5,vI i)],[],2⟩=
  some (.exit 0,⟨27,[(0,.sl 163 (all.map xT)),(1,.sl 163 (all.map xT)),(5,vI (i+rest.length:Nat)),(14,vB false)],[],2⟩)
 | [],i,h=>by
  have hge:all.length≤i:=by simpa using h
  have hlt:ltI (i:Int) (all.length:Int)=false:=ltI_f (by omega)
  rw [loop_eq]
  simp +contextual -dsimp [Tryz.f118,hlt]
 | x::rest,i,h=>by
  obtain ⟨hi,hc,hr⟩:=drop_cons h
  have hlt:ltI (i:Int) (all.length:Int)=true:=ltI_t (by omega)
  have hw:IntKind.i64.wrap ((i:Int)+1)=((i+1:Nat):Int):=by rw [wrapI] <;> omega
  have ih:=leqInstS all hall hf rest (i+1) hr
  have he:i+1+rest.length=i+(rest.length+1):=by omega
  rw [he] at ih
  have g:=g_eqInst x (hf x (by rw [← hc]; exact List.getElem_mem _))
  refine evLoop_next ?_ (by simpa only [List.length_cons] using ih)
  simp (maxSteps:=1000000) +contextual -dsimp [Tryz.f118,hlt,hi,hc,hw,g]
theorem g_eqInstS (l:List Inst) (hl:l.length≤2097152) (hf:∀ x,x∈l→wInst x≤2097152):fo 118 [A (.sl 163 (l.map xT)),A (.sl 163 (l.map xT))]=some (R (vB true)):=by
 have hlp:=leqInstS l hl hf l 0 rfl
 refine orc_118 (l.length+1) ?_
 simp -dsimp [Tryz.f118] at hlp
 simp (maxSteps:=1000000) +contextual -dsimp [Tryz.f118,hlp,eqI_self]
theorem g_eqClaim (x:Claim):fo 177 [A (.agg (kT x)),A (.agg (kT x))]=some (R (vB true)):=by
 refine orc_177 1 ?_
 simp (maxSteps:=1000000) +contextual -dsimp [Tryz.f177,eqI_self]
theorem leqClaimS (all:List Claim) (hall:all.length≤2097152):∀ (rest:List Claim) (i:Nat),all.drop i=rest→
  evLoop E (orc E) (102:Nat) (rest.length+1) (loopOf Tryz.f102 0) ⟨27,[(0,.sl 150 (all.map kT)),(1,.sl 150 (all.map kT)),(5,vI i)],[],2⟩=
  some (.exit 0,⟨27,[(0,.sl 150 (all.map kT)),(1,.sl 150 (all.map kT)),(5,vI (i+rest.length:Nat)),(14,vB false)],[],2⟩)
 | [],i,h=>by
  have hge:all.length≤i:=by simpa using h
  have hlt:ltI (i:Int) (all.length:Int)=false:=ltI_f (by omega)
  rw [loop_eq]
  simp +contextual -dsimp [Tryz.f102,hlt]
 | x::rest,i,h=>by
  obtain ⟨hi,hc,hr⟩:=drop_cons h
  have hlt:ltI (i:Int) (all.length:Int)=true:=ltI_t (by omega)
  have hw:IntKind.i64.wrap ((i:Int)+1)=((i+1:Nat):Int):=by rw [wrapI] <;> omega
  have ih:=leqClaimS all hall rest (i+1) hr
  have he:i+1+rest.length=i+(rest.length+1):=by omega
  rw [he] at ih
  have g:=g_eqClaim x
  refine evLoop_next ?_ (by simpa only [List.length_cons] using ih)
  simp (maxSteps:=1000000) +contextual -dsimp [Tryz.f102,hlt,hi,hc,hw,g]
theorem g_eqClaimS (l:List Claim) (hl:l.length≤2097152):fo 102 [A (.sl 150 (l.map kT)),A (.sl 150 (l.map kT))]=some (R (vB true)):=by
 have hlp:=leqClaimS l hl l 0 rfl
 refine orc_102 (l.length+1) ?_
 simp -dsimp [Tryz.f102] at hlp
 simp (maxSteps:=1000000) +contextual -dsimp [Tryz.f102,hlp,eqI_self]
theorem g_eqEngine (x:Engine) (h:wEngine x≤2097152):fo 43 [A (.agg (eT x)),A (.agg (eT x))]=some (R (vB true)):=by
 have g0:=g_eqProcS x.procs (by simp only [wEngine,wsProc] at h; omega) (fun y hy=>by have:=sumProc_mem hy; simp only [wEngine,wsProc] at h; omega)
 have g1:=g_eqInstS x.insts (by simp only [wEngine,wsInst] at h; omega) (fun y hy=>by have:=sumInst_mem hy; simp only [wEngine,wsInst] at h; omega)
 refine orc_43 1 ?_
 simp (maxSteps:=1000000) +contextual -dsimp [Tryz.f43,eqI_self,g0,g1]
theorem g_eqDesk (x:Desk) (h:wDesk x≤2097152):fo 34 [A (.agg (dT x)),A (.agg (dT x))]=some (R (vB true)):=by
 have g0:=g_eqEngine x.eng (by simp only [wDesk] at h; omega)
 have g1:=g_eqClaimS x.claims (by simp only [wDesk] at h; omega)
 refine orc_34 1 ?_
 simp (maxSteps:=1000000) +contextual -dsimp [Tryz.f34,g0,g1]
end Go.TM.Ft
namespace Go.TM.Ft
open Go Go.TM Go.Proofs
set_option maxRecDepth 20000
attribute [local congr] gif_cg
attribute [local simp] footOf noClash clash upsets setsHit setHits layHits layMeets setsMeet evFeet
theorem osealed_int (l:List Int):sealEs (l.map iV)=l.map iV:=sealEs_map (f:=iV) (g:=iV) (fun a=>by simp [sealL,seal_]) l
theorem oclean_int (l:List Int):cleanEs (l.map iV)=true:=by
 induction l with
 | nil=>rfl
 | cons x l ih=>simp only [List.map_cons,cleanEs,ih,Bool.and_true]; simp [cleanL,clean]
theorem osealed_Node (l:List Node):sealEs (l.map nT)=l.map nT:=sealEs_map (f:=nT) (g:=nT) (fun a=>by simp [sealL,seal_]) l
theorem oclean_Node (l:List Node):cleanEs (l.map nT)=true:=by
 induction l with
 | nil=>rfl
 | cons x l ih=>simp only [List.map_cons,cleanEs,ih,Bool.and_true]; simp [cleanL,clean]
abbrev StepO (x:Step):List T:=[vI x.kind,vI x.parent,vS x.name,vI x.arg,.own 219 (x.cond.map nT),.own 219 (x.expr.map nT)]
theorem osealed_Step (l:List Step):sealEs (l.map StepO)=l.map (sT 219):=sealEs_map (f:=StepO) (g:=(sT 219)) (fun a=>by simp [sealL,seal_,osealed_Node]) l
theorem oclean_Step (l:List Step):cleanEs (l.map StepO)=true:=by
 induction l with
 | nil=>rfl
 | cons x l ih=>simp only [List.map_cons,cleanEs,ih,Bool.and_true]; simp [cleanL,clean,oclean_Node]
abbrev ProcO (x:List Step):List T:=[.own 124 (x.map StepO)]
theorem osealed_Proc (l:List (List Step)):sealEs (l.map ProcO)=l.map (pT 124 219):=sealEs_map (f:=ProcO) (g:=(pT 124 219)) (fun a=>by simp [sealL,seal_,osealed_Step]) l
theorem oclean_Proc (l:List (List Step)):cleanEs (l.map ProcO)=true:=by
 induction l with
 | nil=>rfl
 | cons x l ih=>simp only [List.map_cons,cleanEs,ih,Bool.and_true]; simp [cleanL,clean,oclean_Step]
abbrev ChartO (x:Chart):List T:=[vI x.status,vI x.now,.own 2 (x.vars.map iV),.own 2 (x.acts.map iV),.own 2 (x.dues.map iV)]
abbrev InstO (x:Inst):List T:=[vI x.proc,vI x.chart.status,vI x.chart.now,.own 2 (x.chart.vars.map iV),.own 2 (x.chart.acts.map iV),.own 2 (x.chart.dues.map iV)]
theorem osealed_Inst (l:List Inst):sealEs (l.map InstO)=l.map xT:=sealEs_map (f:=InstO) (g:=xT) (fun a=>by simp [sealL,seal_,osealed_int]) l
theorem oclean_Inst (l:List Inst):cleanEs (l.map InstO)=true:=by
 induction l with
 | nil=>rfl
 | cons x l ih=>simp only [List.map_cons,cleanEs,ih,Bool.and_true]; simp [cleanL,clean,oclean_int]
theorem osealed_Claim (l:List Claim):sealEs (l.map kT)=l.map kT:=sealEs_map (f:=kT) (g:=kT) (fun a=>by simp [sealL,seal_]) l
theorem oclean_Claim (l:List Claim):cleanEs (l.map kT)=true:=by
 induction l with
 | nil=>rfl
 | cons x l ih=>simp only [List.map_cons,cleanEs,ih,Bool.and_true]; simp [cleanL,clean]
abbrev EngineO (x:Engine):List T:=[.own 160 (x.procs.map ProcO),.own 163 (x.insts.map InstO),vI x.now]
abbrev DeskO (x:Desk):List T:=[.own 160 (x.eng.procs.map ProcO),.own 163 (x.eng.insts.map InstO),vI x.eng.now,.own 150 (x.claims.map kT)]
end Go.TM.Ft
namespace Go.TM.Ft
open Go Go.TM Go.Proofs
set_option maxRecDepth 20000
attribute [local congr] gif_cg
attribute [local simp] footOf noClash clash upsets setsHit setHits layHits layMeets setsMeet evFeet
section
variable (P:Program) (t:TypeId) (x y:Operand)
theorem pr_rem10 (a:Int):pureRun P (do eqGuard .rem t x y (.int .i64 a) (.int .i64 10); binOp .rem t (.int .i64 a) (.int .i64 10))=some (.int .i64 (Int.tmod a 10)):=rfl
theorem pr_quo10 (a:Int):pureRun P (do eqGuard .quo t x y (.int .i64 a) (.int .i64 10); binOp .quo t (.int .i64 a) (.int .i64 10))=some (.int .i64 (IntKind.i64.wrap (Int.tdiv a 10))):=pr_quoX P t x y a 10 (by omega)
theorem pr_addS (a b:ByteArray) (h:a.size+b.size < 2 ^ 62):pureRun P (do eqGuard .add t x y (.string a) (.string b); binOp .add t (.string a) (.string b))=some (.string (a++b)):=by
 have e:¬ (((a.size+b.size:Nat):Int) > IntKind.i64.max):=by
  have:IntKind.i64.max=9223372036854775807:=rfl
  rw [this]; omega
 unfold binOp
 simp only [eqGuard,Op.stringOp,if_neg e]
 rfl
end
theorem lp85:∀ (f:Nat) (k:Int) (out:ByteArray),0≤k→k < 10 ^ f→k < 2 ^ 61→out.size+f≤100→
  ∃ s:ByteArray,s.size≤100∧evLoop E (orc E) (85:Nat) (f+1) (loopOf Tryz.f85 0) ⟨20,[(0,vI k),(3,vS out)],[],2⟩=some (.exit 0,⟨20,[(0,vI 0),(3,vS s),(7,vB false)],[],2⟩)
 | f,k,out,h0,h1,h2,h3=>by
  rcases Int.lt_or_eq_of_le h0 with hk | hk
  ·match f with
   | 0=>simp at h1; omega
   | f+1=>
    have hlt:ltI 0 k=true:=ltI_t hk
    have hm0:0≤k.tmod 10:=Int.tmod_nonneg _ h0
    have hm1:k.tmod 10 < 10:=Int.tmod_lt_of_pos _ (by omega)
    have w:IntKind.i64.wrap (48+k.tmod 10)=48+k.tmod 10:=by rw [wrapI] <;> omega
    have ed:k.tdiv 10=k / 10:=Int.tdiv_eq_ediv_of_nonneg h0
    have hd0:0≤k.tdiv 10:=by rw [ed]; omega
    have hd1:k.tdiv 10 < 10 ^ f:=by rw [ed]; rw [Int.pow_succ] at h1; omega
    have hd2:k.tdiv 10 < 2 ^ 61:=by rw [ed]; omega
    have w2:IntKind.i64.wrap (k.tdiv 10)=k.tdiv 10:=by rw [wrapI] <;> omega
    obtain ⟨b,w3⟩:∃ b,IntKind.u8.wrap (48+k.tmod 10)=b:=⟨_,rfl⟩
    have hs:(⟨#[UInt8.ofNat b.toNat]⟩:ByteArray).size=1:=rfl
    have hsz:((⟨#[UInt8.ofNat b.toNat]⟩:ByteArray)++out).size=1+out.size:=by rw [ByteArray.size_append,hs]
    obtain ⟨s,g1,g2⟩:=lp85 f (k.tdiv 10) (⟨#[UInt8.ofNat b.toNat]⟩++out) hd0 hd1 hd2 (by rw [hsz]; omega)
    have p1:=pr_rem10 Tryz.prog 3 (.tmp 8) (.const (.int .i64 10)) k
    have p2:=pr_quo10 Tryz.prog 3 (.tmp 16) (.const (.int .i64 10)) k
    have p3:=pr_addS Tryz.prog 9 (.tmp 13) (.tmp 14) ⟨#[UInt8.ofNat b.toNat]⟩ out (by rw [hs]; omega)
    refine ⟨s,g1,evLoop_next ?_ g2⟩
    generalize (⟨#[UInt8.ofNat b.toNat]⟩:ByteArray)++out=out' at *
    generalize k.tdiv 10=d at *
    simp (maxSteps:=1000000) +contextual -dsimp [Tryz.f85,hlt,p1,p2,p3,pr_cvt,pr_u8,w,w2,w3,bytesOfT,List.set]
  ·subst hk
   have hlt:ltI 0 0=false:=rfl
   refine ⟨out,by omega,evLoop_out ?_ (by simp)⟩
   simp (maxSteps:=1000000) +contextual -dsimp [Tryz.f85,hlt,List.set]
theorem markText_ex (k:Int) (h0:0≤k) (h1:k < 2 ^ 61):∃ s:ByteArray,fo 85 [A (vI k)]=some (R (vS s)):=by
 cases q:leI k 0
 ·obtain ⟨s,h2,h3⟩:=lp85 20 k ⟨#[]⟩ h0 (by omega) h1 (by show 0+20≤100; omega)
  have hs:(⟨#[109]⟩:ByteArray).size=1:=rfl
  have p3:=pr_addS Tryz.prog 9 (.const (.string ⟨#[109]⟩)) (.tmp 18) ⟨#[109]⟩ s (by rw [hs]; omega)
  refine ⟨⟨#[109]⟩++s,orc_85 21 ?_⟩
  simp -dsimp [Tryz.f85] at h3
  simp (maxSteps:=1000000) +contextual -dsimp [Tryz.f85,q,h3,p3,List.set]
 ·refine ⟨⟨#[109,48]⟩,orc_85 1 ?_⟩
  simp (maxSteps:=1000000) +contextual -dsimp [Tryz.f85,q,List.set]
open Classical in
noncomputable def mkTx (k:Int):ByteArray:=if h:∃ s:ByteArray,fo 85 [A (vI k)]=some (R (vS s)) then Classical.choose h else ⟨#[]⟩
theorem o_markText (k:Int) (h0:0≤k) (h1:k < 2 ^ 61):fo 85 [A (vI k)]=some (R (vS (mkTx k))):=by
 have h:=markText_ex k h0 h1
 unfold mkTx
 rw [dif_pos h]
 exact Classical.choose_spec h
end Go.TM.Ft
namespace Go.TM.Ft
open Go Go.TM Go.Proofs
set_option maxRecDepth 20000
attribute [local congr] gif_cg
attribute [local simp] footOf noClash clash upsets setsHit setHits layHits layMeets setsMeet evFeet
end Go.TM.Ft
