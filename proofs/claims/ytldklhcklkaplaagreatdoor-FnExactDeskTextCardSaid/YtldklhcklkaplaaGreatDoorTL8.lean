/- What functions of the program come to, by the machine. -/
import Derived.Test.YtldklhcklkaplaaGreatDoorTL7
import Derived.Test.YtldklhcklkaplaaGreatDoorTTm4
set_option linter.unusedSimpArgs false
set_option linter.unusedVariables false
namespace Go.TM.It
open Go Go.TM Go.Proofs
set_option maxRecDepth 20000
attribute [local congr] gif_cg
attribute [local simp] footOf noClash clash upsets setsHit setHits layHits layMeets setsMeet evFeet
abbrev iV (n:Int):List T:=[vI n]
def subM (left:Int) (w:Nat):Int:=if ltI (left - w) 0=true then -1 else left - w
theorem sub_f {left:Int} {w:Nat} (c:ltI (subM left w) 0=false):(w:Int)≤left∧subM left w=left - w:=by
 unfold subM at c ⊢
 split at c
 ·simp[ltI] at c
 ·rename_i h;rw[if_neg h];simp[ltI] at h;exact⟨by omega,rfl⟩
theorem sub_t {left:Int} {w:Nat} (_h0:0≤left) (c:ltI (subM left w) 0=true):left<(w:Int):=by
 unfold subM at c
 split at c
 ·rename_i h;simp[ltI] at h;omega
 ·rename_i h;exact absurd c h
theorem subM_n {left:Int} {w:Nat} (h:left<(w:Int)):subM left w=-1:=by unfold subM;rw[if_pos (by simp[ltI];omega)]
theorem subM_p {left:Int} {w:Nat} (h:(w:Int)≤left):subM left w=left - w:=by unfold subM;rw[if_neg (by simp[ltI];omega)]
theorem subM_z {left:Int} (h:0≤left):subM left 0=left:=by rw[subM_p (by simpa using h)];simp
theorem subM_add (left:Int) (a b:Nat):subM left (a+b)=subM (left - a) b:=by
 have e:left - ((a+b:Nat):Int)=left - a - b:=by omega
 unfold subM;rw[e]
def wStep (x:Step):Nat:=x.name.size+x.cond.length+x.expr.length
def FwStep (x:Step):Prop:=x.name.size<2 ^ 62∧x.cond.length<2 ^ 62∧x.expr.length<2 ^ 62
def sumStep:List Step→Nat
 | []=>0
 | x::r=>wStep x+sumStep r
def wsStep (l:List Step):Nat:=l.length+sumStep l
theorem sumStep_mem {x:Step}:∀ {l:List Step},x∈l→wStep x≤sumStep l
 | [],h=>by simp at h
 | y::l,h=>by
  unfold sumStep
  rcases List.mem_cons.1 h with rfl | h
  ·omega
  ·have:=sumStep_mem h;omega
def wProc (x:List Step):Nat:=wsStep x
def FwProc (x:List Step):Prop:=(x.length<2 ^ 62∧∀ y,y∈x→FwStep y)
def sumProc:List (List Step)→Nat
 | []=>0
 | x::r=>wProc x+sumProc r
def wsProc (l:List (List Step)):Nat:=l.length+sumProc l
theorem sumProc_mem {x:List Step}:∀ {l:List (List Step)},x∈l→wProc x≤sumProc l
 | [],h=>by simp at h
 | y::l,h=>by
  unfold sumProc
  rcases List.mem_cons.1 h with rfl | h
  ·omega
  ·have:=sumProc_mem h;omega
def wChart (x:Chart):Nat:=x.vars.length+x.acts.length+x.dues.length
def FwChart (x:Chart):Prop:=x.vars.length<2 ^ 62∧x.acts.length<2 ^ 62∧x.dues.length<2 ^ 62
def wInst (x:Inst):Nat:=wChart x.chart
def FwInst (x:Inst):Prop:=FwChart x.chart
def sumInst:List Inst→Nat
 | []=>0
 | x::r=>wInst x+sumInst r
def wsInst (l:List Inst):Nat:=l.length+sumInst l
theorem sumInst_mem {x:Inst}:∀ {l:List Inst},x∈l→wInst x≤sumInst l
 | [],h=>by simp at h
 | y::l,h=>by
  unfold sumInst
  rcases List.mem_cons.1 h with rfl | h
  ·omega
  ·have:=sumInst_mem h;omega
def wEngine (x:Engine):Nat:=wsProc x.procs+wsInst x.insts
def FwEngine (x:Engine):Prop:=(x.procs.length<2 ^ 62∧∀ y,y∈x.procs→FwProc y)∧(x.insts.length<2 ^ 62∧∀ y,y∈x.insts→FwInst y)
def wDesk (x:Desk):Nat:=wEngine x.eng+x.claims.length
def FwDesk (x:Desk):Prop:=FwEngine x.eng∧x.claims.length<2 ^ 62
theorem g_szintS (l:List Int) (left:Int) (h0:0≤left) (h1:left≤1048576) (hl:l.length<2 ^ 62):fo 94 [A (.sl 2 (l.map iV)),A (vI left)]=some (R (vI (subM left l.length))):=by
 have hw:IntKind.i64.wrap (left - l.length)=left - l.length:=by rw[wrapI]<;>omega
 refine orc_94 1 ?_
 simp (maxSteps:=1000000) +contextual -dsimp [Tryz.f94,subM,hw]
theorem g_szNodeS (l:List Node) (left:Int) (h0:0≤left) (h1:left≤1048576) (hl:l.length<2 ^ 62):fo 116 [A (.sl 211 (l.map nT)),A (vI left)]=some (R (vI (subM left l.length))):=by
 have hw:IntKind.i64.wrap (left - l.length)=left - l.length:=by rw[wrapI]<;>omega
 refine orc_116 1 ?_
 simp (maxSteps:=1000000) +contextual -dsimp [Tryz.f116,subM,hw]
theorem g_szStep (x:Step) (left:Int) (h0:0≤left) (h1:left≤1048576) (hf:FwStep x):fo 93 [A (.agg (sT 211 x)),A (vI left)]=some (R (vI (subM left (wStep x)))):=by
 unfold FwStep at hf
 refine orc_93 1 ?_
 have hw0:IntKind.i64.wrap (left - (x.name.size:Nat))=left - (x.name.size:Nat):=by have:=hf.1;rw[wrapI]<;>omega
 cases c0:ltI (left - (x.name.size:Nat)) 0
 ·have p0:((x.name.size:Nat):Int)≤left:=by simp[ltI] at c0;omega
  have g1:=g_szNodeS x.cond (left - (x.name.size:Nat)) (by omega) (by omega) hf.2.1
  cases c1:ltI (subM (left - (x.name.size:Nat)) (x.cond.length)) 0
  ·obtain⟨p1,e1⟩:=sub_f c1
   rw[e1] at g1 c1
   have g2:=g_szNodeS x.expr (left - (x.name.size:Nat) - (x.cond.length:Nat)) (by omega) (by omega) hf.2.2
   cases c2:ltI (subM (left - (x.name.size:Nat) - (x.cond.length:Nat)) (x.expr.length)) 0
   ·obtain⟨p2,e2⟩:=sub_f c2
    rw[e2] at g2 c2
    have hm:subM left (wStep x)=left - (x.name.size:Nat) - (x.cond.length:Nat) - (x.expr.length:Nat):=by
     have:=subM_p (left:=left) (w:=wStep x) (by simp only[wStep];omega)
     simp only[wStep] at this ⊢;omega
    rw[hm]
    simp (maxSteps:=1000000) +contextual -dsimp [Tryz.f93,hw0,g1,g2,c0,c1,c2]
   ·have n2:=sub_t (by omega) c2
    have hm:subM left (wStep x)=-1:=subM_n (by simp only[wStep];omega)
    rw[hm]
    simp (maxSteps:=1000000) +contextual -dsimp [Tryz.f93,hw0,g1,g2,c0,c1,c2]
  ·have n1:=sub_t (by omega) c1
   have hm:subM left (wStep x)=-1:=subM_n (by simp only[wStep];omega)
   rw[hm]
   simp (maxSteps:=1000000) +contextual -dsimp [Tryz.f93,hw0,g1,c0,c1]
 ·have hm:subM left (wStep x)=-1:=subM_n (by simp only[wStep];simp[ltI] at c0;omega)
  rw[hm]
  simp (maxSteps:=1000000) +contextual -dsimp [Tryz.f93,hw0,c0]
theorem lszStepS (all:List Step) (hall:all.length≤1048576) (hf:∀ x,x∈all→FwStep x):∀ (rest:List Step) (i:Nat) (left:Int),all.drop i=rest→0≤left→left≤1048576→
  evLoop E (orc E) (76:Nat) (rest.length+1) (loopOf Tryz.f76 0) ⟨27,[(0,.sl 152 (all.map (sT 211))),(1,vI left),(5,vI i)],[],2⟩=
  (if ltI (subM left (sumStep rest)) 0=true then some (.ret,⟨27,[(4,vI (-1))],[],2⟩) else some (.exit 0,⟨27,[(0,.sl 152 (all.map (sT 211))),(1,vI (left - (sumStep rest:Nat))),(5,vI (i+rest.length:Nat)),(15,vB false)],[],2⟩))
 | [],i,left,h,h0,h1=>by
  have hge:all.length≤i:=by simpa using h
  have hlt:ltI (i:Int) (all.length:Int)=false:=ltI_f (by omega)
  have hz:subM left 0=left:=subM_z h0
  have hn:ltI left 0=false:=ltI_f (by omega)
  rw[loop_eq]
  simp +contextual -dsimp [Tryz.f76,hlt,sumStep,hz,hn]
 | x::rest,i,left,h,h0,h1=>by
  obtain⟨hi,hc,hr⟩:=drop_cons h
  have hlt:ltI (i:Int) (all.length:Int)=true:=ltI_t (by omega)
  have hw:IntKind.i64.wrap ((i:Int)+1)=((i+1:Nat):Int):=by rw[wrapI]<;>omega
  have he:i+1+rest.length=i+(rest.length+1):=by omega
  have g:=g_szStep x left h0 h1 (hf x (by rw[←hc];exact List.getElem_mem _))
  have ha:subM left (sumStep (x::rest))=subM (left - wStep x) (sumStep rest):=subM_add left (wStep x) (sumStep rest)
  have hb:left - ((sumStep (x::rest):Nat):Int)=left - wStep x - (sumStep rest:Nat):=by simp only[sumStep];omega
  cases c:ltI (subM left (wStep x)) 0
  ·obtain⟨p,e⟩:=sub_f c
   rw[e] at g c
   have ih:=lszStepS all hall hf rest (i+1) (left - wStep x) hr (by omega) (by omega)
   rw[he] at ih
   rw[ha,hb]
   refine evLoop_next ?_ (by simpa only[List.length_cons] using ih)
   simp (maxSteps:=1000000) +contextual -dsimp [Tryz.f76,hlt,hi,hc,hw,g,c]
  ·have hn:=sub_t h0 c
   have hm:ltI (subM left (sumStep (x::rest))) 0=true:=by rw[subM_n (by simp only[sumStep];omega)];rfl
   rw[hm,if_pos rfl]
   refine evLoop_out ?_ (by simp)
   simp (maxSteps:=1000000) +contextual -dsimp [Tryz.f76,hlt,hi,hc,g,c]
theorem g_szStepS (l:List Step) (left:Int) (h0:0≤left) (h1:left≤1048576) (hf:l.length<2 ^ 62∧∀ y,y∈l→FwStep y):fo 76 [A (.sl 152 (l.map (sT 211))),A (vI left)]=some (R (vI (subM left (wsStep l)))):=by
 have hl:=hf.1
 unfold wsStep
 have hw:IntKind.i64.wrap (left - l.length)=left - l.length:=by rw[wrapI]<;>omega
 refine orc_76 (l.length+1) ?_
 cases c1:ltI (left - l.length) 0
 ·have p:(l.length:Int)≤left:=by simp[ltI] at c1;omega
  have hlp:=lszStepS l (by omega) hf.2 l 0 (left - l.length) rfl (by omega) (by omega)
  have ha:subM left (l.length+sumStep l)=subM (left - l.length) (sumStep l):=subM_add left l.length (sumStep l)
  rw[ha]
  simp -dsimp [Tryz.f76] at hlp
  cases c2:ltI (subM (left - l.length) (sumStep l)) 0
  ·obtain⟨p2,e2⟩:=sub_f c2
   rw[c2] at hlp
   rw[e2]
   simp (maxSteps:=1000000) +contextual -dsimp [Tryz.f76,hw,c1,hlp]
  ·rw[c2] at hlp
   have e2:subM (left - l.length) (sumStep l)=-1:=subM_n (sub_t (by omega) c2)
   rw[e2]
   simp (maxSteps:=1000000) +contextual -dsimp [Tryz.f76,hw,c1,hlp]
 ·have hm:subM left (l.length+sumStep l)=-1:=subM_n (by simp[ltI] at c1;omega)
  rw[hm]
  simp (maxSteps:=1000000) +contextual -dsimp [Tryz.f76,hw,c1]
theorem g_szProc (x:List Step) (left:Int) (h0:0≤left) (h1:left≤1048576) (hf:FwProc x):fo 54 [A (.agg (pT 152 211 x)),A (vI left)]=some (R (vI (subM left (wProc x)))):=by
 unfold FwProc at hf
 refine orc_54 1 ?_
 have g0:=g_szStepS x (left) (by omega) (by omega) hf
 cases c0:ltI (subM (left) (wsStep x)) 0
 ·obtain⟨p0,e0⟩:=sub_f c0
  rw[e0] at g0 c0
  have hm:subM left (wProc x)=left - (wsStep x:Nat):=by
   have:=subM_p (left:=left) (w:=wProc x) (by simp only[wProc];omega)
   simp only[wProc] at this ⊢;omega
  rw[hm]
  simp (maxSteps:=1000000) +contextual -dsimp [Tryz.f54,g0,c0]
 ·have n0:=sub_t (by omega) c0
  have hm:subM left (wProc x)=-1:=subM_n (by simp only[wProc];omega)
  rw[hm]
  simp (maxSteps:=1000000) +contextual -dsimp [Tryz.f54,g0,c0]
theorem lszProcS (all:List (List Step)) (hall:all.length≤1048576) (hf:∀ x,x∈all→FwProc x):∀ (rest:List (List Step)) (i:Nat) (left:Int),all.drop i=rest→0≤left→left≤1048576→
  evLoop E (orc E) (29:Nat) (rest.length+1) (loopOf Tryz.f29 0) ⟨27,[(0,.sl 103 (all.map (pT 152 211))),(1,vI left),(5,vI i)],[],2⟩=
  (if ltI (subM left (sumProc rest)) 0=true then some (.ret,⟨27,[(4,vI (-1))],[],2⟩) else some (.exit 0,⟨27,[(0,.sl 103 (all.map (pT 152 211))),(1,vI (left - (sumProc rest:Nat))),(5,vI (i+rest.length:Nat)),(15,vB false)],[],2⟩))
 | [],i,left,h,h0,h1=>by
  have hge:all.length≤i:=by simpa using h
  have hlt:ltI (i:Int) (all.length:Int)=false:=ltI_f (by omega)
  have hz:subM left 0=left:=subM_z h0
  have hn:ltI left 0=false:=ltI_f (by omega)
  rw[loop_eq]
  simp +contextual -dsimp [Tryz.f29,hlt,sumProc,hz,hn]
 | x::rest,i,left,h,h0,h1=>by
  obtain⟨hi,hc,hr⟩:=drop_cons h
  have hlt:ltI (i:Int) (all.length:Int)=true:=ltI_t (by omega)
  have hw:IntKind.i64.wrap ((i:Int)+1)=((i+1:Nat):Int):=by rw[wrapI]<;>omega
  have he:i+1+rest.length=i+(rest.length+1):=by omega
  have g:=g_szProc x left h0 h1 (hf x (by rw[←hc];exact List.getElem_mem _))
  have ha:subM left (sumProc (x::rest))=subM (left - wProc x) (sumProc rest):=subM_add left (wProc x) (sumProc rest)
  have hb:left - ((sumProc (x::rest):Nat):Int)=left - wProc x - (sumProc rest:Nat):=by simp only[sumProc];omega
  cases c:ltI (subM left (wProc x)) 0
  ·obtain⟨p,e⟩:=sub_f c
   rw[e] at g c
   have ih:=lszProcS all hall hf rest (i+1) (left - wProc x) hr (by omega) (by omega)
   rw[he] at ih
   rw[ha,hb]
   refine evLoop_next ?_ (by simpa only[List.length_cons] using ih)
   simp (maxSteps:=1000000) +contextual -dsimp [Tryz.f29,hlt,hi,hc,hw,g,c]
  ·have hn:=sub_t h0 c
   have hm:ltI (subM left (sumProc (x::rest))) 0=true:=by rw[subM_n (by simp only[sumProc];omega)];rfl
   rw[hm,if_pos rfl]
   refine evLoop_out ?_ (by simp)
   simp (maxSteps:=1000000) +contextual -dsimp [Tryz.f29,hlt,hi,hc,g,c]
theorem g_szProcS (l:List (List Step)) (left:Int) (h0:0≤left) (h1:left≤1048576) (hf:l.length<2 ^ 62∧∀ y,y∈l→FwProc y):fo 29 [A (.sl 103 (l.map (pT 152 211))),A (vI left)]=some (R (vI (subM left (wsProc l)))):=by
 have hl:=hf.1
 unfold wsProc
 have hw:IntKind.i64.wrap (left - l.length)=left - l.length:=by rw[wrapI]<;>omega
 refine orc_29 (l.length+1) ?_
 cases c1:ltI (left - l.length) 0
 ·have p:(l.length:Int)≤left:=by simp[ltI] at c1;omega
  have hlp:=lszProcS l (by omega) hf.2 l 0 (left - l.length) rfl (by omega) (by omega)
  have ha:subM left (l.length+sumProc l)=subM (left - l.length) (sumProc l):=subM_add left l.length (sumProc l)
  rw[ha]
  simp -dsimp [Tryz.f29] at hlp
  cases c2:ltI (subM (left - l.length) (sumProc l)) 0
  ·obtain⟨p2,e2⟩:=sub_f c2
   rw[c2] at hlp
   rw[e2]
   simp (maxSteps:=1000000) +contextual -dsimp [Tryz.f29,hw,c1,hlp]
  ·rw[c2] at hlp
   have e2:subM (left - l.length) (sumProc l)=-1:=subM_n (sub_t (by omega) c2)
   rw[e2]
   simp (maxSteps:=1000000) +contextual -dsimp [Tryz.f29,hw,c1,hlp]
 ·have hm:subM left (l.length+sumProc l)=-1:=subM_n (by simp[ltI] at c1;omega)
  rw[hm]
  simp (maxSteps:=1000000) +contextual -dsimp [Tryz.f29,hw,c1]
theorem g_szChart (x:Chart) (left:Int) (h0:0≤left) (h1:left≤1048576) (hf:FwChart x):fo 77 [A (.agg (cT x)),A (vI left)]=some (R (vI (subM left (wChart x)))):=by
 unfold FwChart at hf
 refine orc_77 1 ?_
 have g0:=g_szintS x.vars (left) (by omega) (by omega) hf.1
 cases c0:ltI (subM (left) (x.vars.length)) 0
 ·obtain⟨p0,e0⟩:=sub_f c0
  rw[e0] at g0 c0
  have g1:=g_szintS x.acts (left - (x.vars.length:Nat)) (by omega) (by omega) hf.2.1
  cases c1:ltI (subM (left - (x.vars.length:Nat)) (x.acts.length)) 0
  ·obtain⟨p1,e1⟩:=sub_f c1
   rw[e1] at g1 c1
   have g2:=g_szintS x.dues (left - (x.vars.length:Nat) - (x.acts.length:Nat)) (by omega) (by omega) hf.2.2
   cases c2:ltI (subM (left - (x.vars.length:Nat) - (x.acts.length:Nat)) (x.dues.length)) 0
   ·obtain⟨p2,e2⟩:=sub_f c2
    rw[e2] at g2 c2
    have hm:subM left (wChart x)=left - (x.vars.length:Nat) - (x.acts.length:Nat) - (x.dues.length:Nat):=by
     have:=subM_p (left:=left) (w:=wChart x) (by simp only[wChart];omega)
     simp only[wChart] at this ⊢;omega
    rw[hm]
    simp (maxSteps:=1000000) +contextual -dsimp [Tryz.f77,g0,g1,g2,c0,c1,c2]
   ·have n2:=sub_t (by omega) c2
    have hm:subM left (wChart x)=-1:=subM_n (by simp only[wChart];omega)
    rw[hm]
    simp (maxSteps:=1000000) +contextual -dsimp [Tryz.f77,g0,g1,g2,c0,c1,c2]
  ·have n1:=sub_t (by omega) c1
   have hm:subM left (wChart x)=-1:=subM_n (by simp only[wChart];omega)
   rw[hm]
   simp (maxSteps:=1000000) +contextual -dsimp [Tryz.f77,g0,g1,c0,c1]
 ·have n0:=sub_t (by omega) c0
  have hm:subM left (wChart x)=-1:=subM_n (by simp only[wChart];omega)
  rw[hm]
  simp (maxSteps:=1000000) +contextual -dsimp [Tryz.f77,g0,c0]
theorem g_szInst (x:Inst) (left:Int) (h0:0≤left) (h1:left≤1048576) (hf:FwInst x):fo 55 [A (.agg (xT x)),A (vI left)]=some (R (vI (subM left (wInst x)))):=by
 unfold FwInst at hf
 refine orc_55 1 ?_
 have g0:=g_szChart x.chart (left) (by omega) (by omega) hf
 cases c0:ltI (subM (left) (wChart x.chart)) 0
 ·obtain⟨p0,e0⟩:=sub_f c0
  rw[e0] at g0 c0
  have hm:subM left (wInst x)=left - (wChart x.chart:Nat):=by
   have:=subM_p (left:=left) (w:=wInst x) (by simp only[wInst];omega)
   simp only[wInst] at this ⊢;omega
  rw[hm]
  simp (maxSteps:=1000000) +contextual -dsimp [Tryz.f55,g0,c0]
 ·have n0:=sub_t (by omega) c0
  have hm:subM left (wInst x)=-1:=subM_n (by simp only[wInst];omega)
  rw[hm]
  simp (maxSteps:=1000000) +contextual -dsimp [Tryz.f55,g0,c0]
theorem lszInstS (all:List Inst) (hall:all.length≤1048576) (hf:∀ x,x∈all→FwInst x):∀ (rest:List Inst) (i:Nat) (left:Int),all.drop i=rest→0≤left→left≤1048576→
  evLoop E (orc E) (30:Nat) (rest.length+1) (loopOf Tryz.f30 0) ⟨27,[(0,.sl 107 (all.map xT)),(1,vI left),(5,vI i)],[],2⟩=
  (if ltI (subM left (sumInst rest)) 0=true then some (.ret,⟨27,[(4,vI (-1))],[],2⟩) else some (.exit 0,⟨27,[(0,.sl 107 (all.map xT)),(1,vI (left - (sumInst rest:Nat))),(5,vI (i+rest.length:Nat)),(15,vB false)],[],2⟩))
 | [],i,left,h,h0,h1=>by
  have hge:all.length≤i:=by simpa using h
  have hlt:ltI (i:Int) (all.length:Int)=false:=ltI_f (by omega)
  have hz:subM left 0=left:=subM_z h0
  have hn:ltI left 0=false:=ltI_f (by omega)
  rw[loop_eq]
  simp +contextual -dsimp [Tryz.f30,hlt,sumInst,hz,hn]
 | x::rest,i,left,h,h0,h1=>by
  obtain⟨hi,hc,hr⟩:=drop_cons h
  have hlt:ltI (i:Int) (all.length:Int)=true:=ltI_t (by omega)
  have hw:IntKind.i64.wrap ((i:Int)+1)=((i+1:Nat):Int):=by rw[wrapI]<;>omega
  have he:i+1+rest.length=i+(rest.length+1):=by omega
  have g:=g_szInst x left h0 h1 (hf x (by rw[←hc];exact List.getElem_mem _))
  have ha:subM left (sumInst (x::rest))=subM (left - wInst x) (sumInst rest):=subM_add left (wInst x) (sumInst rest)
  have hb:left - ((sumInst (x::rest):Nat):Int)=left - wInst x - (sumInst rest:Nat):=by simp only[sumInst];omega
  cases c:ltI (subM left (wInst x)) 0
  ·obtain⟨p,e⟩:=sub_f c
   rw[e] at g c
   have ih:=lszInstS all hall hf rest (i+1) (left - wInst x) hr (by omega) (by omega)
   rw[he] at ih
   rw[ha,hb]
   refine evLoop_next ?_ (by simpa only[List.length_cons] using ih)
   simp (maxSteps:=1000000) +contextual -dsimp [Tryz.f30,hlt,hi,hc,hw,g,c]
  ·have hn:=sub_t h0 c
   have hm:ltI (subM left (sumInst (x::rest))) 0=true:=by rw[subM_n (by simp only[sumInst];omega)];rfl
   rw[hm,if_pos rfl]
   refine evLoop_out ?_ (by simp)
   simp (maxSteps:=1000000) +contextual -dsimp [Tryz.f30,hlt,hi,hc,g,c]
theorem g_szInstS (l:List Inst) (left:Int) (h0:0≤left) (h1:left≤1048576) (hf:l.length<2 ^ 62∧∀ y,y∈l→FwInst y):fo 30 [A (.sl 107 (l.map xT)),A (vI left)]=some (R (vI (subM left (wsInst l)))):=by
 have hl:=hf.1
 unfold wsInst
 have hw:IntKind.i64.wrap (left - l.length)=left - l.length:=by rw[wrapI]<;>omega
 refine orc_30 (l.length+1) ?_
 cases c1:ltI (left - l.length) 0
 ·have p:(l.length:Int)≤left:=by simp[ltI] at c1;omega
  have hlp:=lszInstS l (by omega) hf.2 l 0 (left - l.length) rfl (by omega) (by omega)
  have ha:subM left (l.length+sumInst l)=subM (left - l.length) (sumInst l):=subM_add left l.length (sumInst l)
  rw[ha]
  simp -dsimp [Tryz.f30] at hlp
  cases c2:ltI (subM (left - l.length) (sumInst l)) 0
  ·obtain⟨p2,e2⟩:=sub_f c2
   rw[c2] at hlp
   rw[e2]
   simp (maxSteps:=1000000) +contextual -dsimp [Tryz.f30,hw,c1,hlp]
  ·rw[c2] at hlp
   have e2:subM (left - l.length) (sumInst l)=-1:=subM_n (sub_t (by omega) c2)
   rw[e2]
   simp (maxSteps:=1000000) +contextual -dsimp [Tryz.f30,hw,c1,hlp]
 ·have hm:subM left (l.length+sumInst l)=-1:=subM_n (by simp[ltI] at c1;omega)
  rw[hm]
  simp (maxSteps:=1000000) +contextual -dsimp [Tryz.f30,hw,c1]
theorem g_szClaimS (l:List Claim) (left:Int) (h0:0≤left) (h1:left≤1048576) (hl:l.length<2 ^ 62):fo 14 [A (.sl 88 (l.map kT)),A (vI left)]=some (R (vI (subM left l.length))):=by
 have hw:IntKind.i64.wrap (left - l.length)=left - l.length:=by rw[wrapI]<;>omega
 refine orc_14 1 ?_
 simp (maxSteps:=1000000) +contextual -dsimp [Tryz.f14,subM,hw]
theorem g_szEngine (x:Engine) (left:Int) (h0:0≤left) (h1:left≤1048576) (hf:FwEngine x):fo 13 [A (.agg (eTl x)),A (vI left)]=some (R (vI (subM left (wEngine x)))):=by
 unfold FwEngine at hf
 refine orc_13 1 ?_
 have g0:=g_szProcS x.procs (left) (by omega) (by omega) hf.1
 cases c0:ltI (subM (left) (wsProc x.procs)) 0
 ·obtain⟨p0,e0⟩:=sub_f c0
  rw[e0] at g0 c0
  have g1:=g_szInstS x.insts (left - (wsProc x.procs:Nat)) (by omega) (by omega) hf.2
  cases c1:ltI (subM (left - (wsProc x.procs:Nat)) (wsInst x.insts)) 0
  ·obtain⟨p1,e1⟩:=sub_f c1
   rw[e1] at g1 c1
   have hm:subM left (wEngine x)=left - (wsProc x.procs:Nat) - (wsInst x.insts:Nat):=by
    have:=subM_p (left:=left) (w:=wEngine x) (by simp only[wEngine];omega)
    simp only[wEngine] at this ⊢;omega
   rw[hm]
   simp (maxSteps:=1000000) +contextual -dsimp [Tryz.f13,g0,g1,c0,c1]
  ·have n1:=sub_t (by omega) c1
   have hm:subM left (wEngine x)=-1:=subM_n (by simp only[wEngine];omega)
   rw[hm]
   simp (maxSteps:=1000000) +contextual -dsimp [Tryz.f13,g0,g1,c0,c1]
 ·have n0:=sub_t (by omega) c0
  have hm:subM left (wEngine x)=-1:=subM_n (by simp only[wEngine];omega)
  rw[hm]
  simp (maxSteps:=1000000) +contextual -dsimp [Tryz.f13,g0,c0]
theorem g_szDesk (x:Desk) (left:Int) (h0:0≤left) (h1:left≤1048576) (hf:FwDesk x):fo 5 [A (.agg (dTl x)),A (vI left)]=some (R (vI (subM left (wDesk x)))):=by
 unfold FwDesk at hf
 refine orc_5 1 ?_
 have g0:=g_szEngine x.eng (left) (by omega) (by omega) hf.1
 cases c0:ltI (subM (left) (wEngine x.eng)) 0
 ·obtain⟨p0,e0⟩:=sub_f c0
  rw[e0] at g0 c0
  have g1:=g_szClaimS x.claims (left - (wEngine x.eng:Nat)) (by omega) (by omega) hf.2
  cases c1:ltI (subM (left - (wEngine x.eng:Nat)) (x.claims.length)) 0
  ·obtain⟨p1,e1⟩:=sub_f c1
   rw[e1] at g1 c1
   have hm:subM left (wDesk x)=left - (wEngine x.eng:Nat) - (x.claims.length:Nat):=by
    have:=subM_p (left:=left) (w:=wDesk x) (by simp only[wDesk];omega)
    simp only[wDesk] at this ⊢;omega
   rw[hm]
   simp (maxSteps:=1000000) +contextual -dsimp [Tryz.f5,g0,g1,c0,c1]
  ·have n1:=sub_t (by omega) c1
   have hm:subM left (wDesk x)=-1:=subM_n (by simp only[wDesk];omega)
   rw[hm]
   simp (maxSteps:=1000000) +contextual -dsimp [Tryz.f5,g0,g1,c0,c1]
 ·have n0:=sub_t (by omega) c0
  have hm:subM left (wDesk x)=-1:=subM_n (by simp only[wDesk];omega)
  rw[hm]
  simp (maxSteps:=1000000) +contextual -dsimp [Tryz.f5,g0,c0]
theorem leqintS (all:List Int) (hall:all.length≤2097152):∀ (rest:List Int) (i:Nat),all.drop i=rest→
  evLoop E (orc E) (115:Nat) (rest.length+1) (loopOf Tryz.f115 0) ⟨26,[(0,.sl 2 (all.map iV)),(1,.sl 2 (all.map iV)),(5,vI i)],[],2⟩=
  some (.exit 0,⟨26,[(0,.sl 2 (all.map iV)),(1,.sl 2 (all.map iV)),(5,vI (i+rest.length:Nat)),(14,vB false)],[],2⟩)
 | [],i,h=>by
  have hge:all.length≤i:=by simpa using h
  have hlt:ltI (i:Int) (all.length:Int)=false:=ltI_f (by omega)
  rw[loop_eq]
  simp +contextual -dsimp [Tryz.f115,hlt]
 | x::rest,i,h=>by
  obtain⟨hi,hc,hr⟩:=drop_cons h
  have hlt:ltI (i:Int) (all.length:Int)=true:=ltI_t (by omega)
  have hw:IntKind.i64.wrap ((i:Int)+1)=((i+1:Nat):Int):=by rw[wrapI]<;>omega
  have ih:=leqintS all hall rest (i+1) hr
  have he:i+1+rest.length=i+(rest.length+1):=by omega
  rw[he] at ih
  refine evLoop_next ?_ (by simpa only[List.length_cons] using ih)
  simp (maxSteps:=1000000) +contextual -dsimp [Tryz.f115,hlt,hi,hc,hw,eqI_self]
theorem g_eqintS (l:List Int) (hl:l.length≤2097152):fo 115 [A (.sl 2 (l.map iV)),A (.sl 2 (l.map iV))]=some (R (vB true)):=by
 have hlp:=leqintS l hl l 0 rfl
 refine orc_115 (l.length+1) ?_
 simp -dsimp [Tryz.f115] at hlp
 simp (maxSteps:=1000000) +contextual -dsimp [Tryz.f115,hlp,eqI_self]
theorem g_eqNode (x:Node):fo 155 [A (.agg (nT x)),A (.agg (nT x))]=some (R (vB true)):=by
 refine orc_155 1 ?_
 simp (maxSteps:=1000000) +contextual -dsimp [Tryz.f155,eqI_self]
theorem leqNodeS (all:List Node) (hall:all.length≤2097152):∀ (rest:List Node) (i:Nat),all.drop i=rest→
  evLoop E (orc E) (143:Nat) (rest.length+1) (loopOf Tryz.f143 0) ⟨27,[(0,.sl 206 (all.map nT)),(1,.sl 206 (all.map nT)),(5,vI i)],[],2⟩=
  some (.exit 0,⟨27,[(0,.sl 206 (all.map nT)),(1,.sl 206 (all.map nT)),(5,vI (i+rest.length:Nat)),(14,vB false)],[],2⟩)
 | [],i,h=>by
  have hge:all.length≤i:=by simpa using h
  have hlt:ltI (i:Int) (all.length:Int)=false:=ltI_f (by omega)
  rw[loop_eq]
  simp +contextual -dsimp [Tryz.f143,hlt]
 | x::rest,i,h=>by
  obtain⟨hi,hc,hr⟩:=drop_cons h
  have hlt:ltI (i:Int) (all.length:Int)=true:=ltI_t (by omega)
  have hw:IntKind.i64.wrap ((i:Int)+1)=((i+1:Nat):Int):=by rw[wrapI]<;>omega
  have ih:=leqNodeS all hall rest (i+1) hr
  have he:i+1+rest.length=i+(rest.length+1):=by omega
  rw[he] at ih
  have g:=g_eqNode x
  refine evLoop_next ?_ (by simpa only[List.length_cons] using ih)
  simp (maxSteps:=1000000) +contextual -dsimp [Tryz.f143,hlt,hi,hc,hw,g]
theorem g_eqNodeS (l:List Node) (hl:l.length≤2097152):fo 143 [A (.sl 206 (l.map nT)),A (.sl 206 (l.map nT))]=some (R (vB true)):=by
 have hlp:=leqNodeS l hl l 0 rfl
 refine orc_143 (l.length+1) ?_
 simp -dsimp [Tryz.f143] at hlp
 simp (maxSteps:=1000000) +contextual -dsimp [Tryz.f143,hlp,eqI_self]
theorem g_eqStep (x:Step) (h:wStep x≤2097152):fo 114 [A (.agg (sT 206 x)),A (.agg (sT 206 x))]=some (R (vB true)):=by
 have g4:=g_eqNodeS x.cond (by simp only[wStep] at h;omega)
 have g5:=g_eqNodeS x.expr (by simp only[wStep] at h;omega)
 refine orc_114 1 ?_
 simp (maxSteps:=1000000) +contextual -dsimp [Tryz.f114,eqI_self,eqS_self,g4,g5]
theorem leqStepS (all:List Step) (hall:all.length≤2097152) (hf:∀ x,x∈all→wStep x≤2097152):∀ (rest:List Step) (i:Nat),all.drop i=rest→
  evLoop E (orc E) (91:Nat) (rest.length+1) (loopOf Tryz.f91 0) ⟨27,[(0,.sl 112 (all.map (sT 206))),(1,.sl 112 (all.map (sT 206))),(5,vI i)],[],2⟩=
  some (.exit 0,⟨27,[(0,.sl 112 (all.map (sT 206))),(1,.sl 112 (all.map (sT 206))),(5,vI (i+rest.length:Nat)),(14,vB false)],[],2⟩)
 | [],i,h=>by
  have hge:all.length≤i:=by simpa using h
  have hlt:ltI (i:Int) (all.length:Int)=false:=ltI_f (by omega)
  rw[loop_eq]
  simp +contextual -dsimp [Tryz.f91,hlt]
 | x::rest,i,h=>by
  obtain⟨hi,hc,hr⟩:=drop_cons h
  have hlt:ltI (i:Int) (all.length:Int)=true:=ltI_t (by omega)
  have hw:IntKind.i64.wrap ((i:Int)+1)=((i+1:Nat):Int):=by rw[wrapI]<;>omega
  have ih:=leqStepS all hall hf rest (i+1) hr
  have he:i+1+rest.length=i+(rest.length+1):=by omega
  rw[he] at ih
  have g:=g_eqStep x (hf x (by rw[←hc];exact List.getElem_mem _))
  refine evLoop_next ?_ (by simpa only[List.length_cons] using ih)
  simp (maxSteps:=1000000) +contextual -dsimp [Tryz.f91,hlt,hi,hc,hw,g]
theorem g_eqStepS (l:List Step) (hl:l.length≤2097152) (hf:∀ x,x∈l→wStep x≤2097152):fo 91 [A (.sl 112 (l.map (sT 206))),A (.sl 112 (l.map (sT 206)))]=some (R (vB true)):=by
 have hlp:=leqStepS l hl hf l 0 rfl
 refine orc_91 (l.length+1) ?_
 simp -dsimp [Tryz.f91] at hlp
 simp (maxSteps:=1000000) +contextual -dsimp [Tryz.f91,hlp,eqI_self]
theorem g_eqProc (x:List Step) (h:wProc x≤2097152):fo 74 [A (.agg (pT 112 206 x)),A (.agg (pT 112 206 x))]=some (R (vB true)):=by
 have g0:=g_eqStepS x (by simp only[wProc,wsStep] at h;omega) (fun y hy=>by have:=sumStep_mem hy;simp only[wProc,wsStep] at h;omega)
 refine orc_74 1 ?_
 simp (maxSteps:=1000000) +contextual -dsimp [Tryz.f74,g0]
theorem leqProcS (all:List (List Step)) (hall:all.length≤2097152) (hf:∀ x,x∈all→wProc x≤2097152):∀ (rest:List (List Step)) (i:Nat),all.drop i=rest→
  evLoop E (orc E) (51:Nat) (rest.length+1) (loopOf Tryz.f51 0) ⟨27,[(0,.sl 82 (all.map (pT 112 206))),(1,.sl 82 (all.map (pT 112 206))),(5,vI i)],[],2⟩=
  some (.exit 0,⟨27,[(0,.sl 82 (all.map (pT 112 206))),(1,.sl 82 (all.map (pT 112 206))),(5,vI (i+rest.length:Nat)),(14,vB false)],[],2⟩)
 | [],i,h=>by
  have hge:all.length≤i:=by simpa using h
  have hlt:ltI (i:Int) (all.length:Int)=false:=ltI_f (by omega)
  rw[loop_eq]
  simp +contextual -dsimp [Tryz.f51,hlt]
 | x::rest,i,h=>by
  obtain⟨hi,hc,hr⟩:=drop_cons h
  have hlt:ltI (i:Int) (all.length:Int)=true:=ltI_t (by omega)
  have hw:IntKind.i64.wrap ((i:Int)+1)=((i+1:Nat):Int):=by rw[wrapI]<;>omega
  have ih:=leqProcS all hall hf rest (i+1) hr
  have he:i+1+rest.length=i+(rest.length+1):=by omega
  rw[he] at ih
  have g:=g_eqProc x (hf x (by rw[←hc];exact List.getElem_mem _))
  refine evLoop_next ?_ (by simpa only[List.length_cons] using ih)
  simp (maxSteps:=1000000) +contextual -dsimp [Tryz.f51,hlt,hi,hc,hw,g]
theorem g_eqProcS (l:List (List Step)) (hl:l.length≤2097152) (hf:∀ x,x∈l→wProc x≤2097152):fo 51 [A (.sl 82 (l.map (pT 112 206))),A (.sl 82 (l.map (pT 112 206)))]=some (R (vB true)):=by
 have hlp:=leqProcS l hl hf l 0 rfl
 refine orc_51 (l.length+1) ?_
 simp -dsimp [Tryz.f51] at hlp
 simp (maxSteps:=1000000) +contextual -dsimp [Tryz.f51,hlp,eqI_self]
theorem g_eqChart (x:Chart) (h:wChart x≤2097152):fo 92 [A (.agg (cT x)),A (.agg (cT x))]=some (R (vB true)):=by
 have g2:=g_eqintS x.vars (by simp only[wChart] at h;omega)
 have g3:=g_eqintS x.acts (by simp only[wChart] at h;omega)
 have g4:=g_eqintS x.dues (by simp only[wChart] at h;omega)
 refine orc_92 1 ?_
 simp (maxSteps:=1000000) +contextual -dsimp [Tryz.f92,eqI_self,g2,g3,g4]
theorem g_eqInst (x:Inst) (h:wInst x≤2097152):fo 75 [A (.agg (xT x)),A (.agg (xT x))]=some (R (vB true)):=by
 have g1:=g_eqChart x.chart (by simp only[wInst] at h;omega)
 refine orc_75 1 ?_
 simp (maxSteps:=1000000) +contextual -dsimp [Tryz.f75,eqI_self,g1]
theorem leqInstS (all:List Inst) (hall:all.length≤2097152) (hf:∀ x,x∈all→wInst x≤2097152):∀ (rest:List Inst) (i:Nat),all.drop i=rest→
  evLoop E (orc E) (52:Nat) (rest.length+1) (loopOf Tryz.f52 0) ⟨27,[(0,.sl 77 (all.map xT)),(1,.sl 77 (all.map xT)),(5,vI i)],[],2⟩=
  some (.exit 0,⟨27,[(0,.sl 77 (all.map xT)),(1,.sl 77 (all.map xT)),(5,vI (i+rest.length:Nat)),(14,vB false)],[],2⟩)
 | [],i,h=>by
  have hge:all.length≤i:=by simpa using h
  have hlt:ltI (i:Int) (all.length:Int)=false:=ltI_f (by omega)
  rw[loop_eq]
  simp +contextual -dsimp [Tryz.f52,hlt]
 | x::rest,i,h=>by
  obtain⟨hi,hc,hr⟩:=drop_cons h
  have hlt:ltI (i:Int) (all.length:Int)=true:=ltI_t (by omega)
  have hw:IntKind.i64.wrap ((i:Int)+1)=((i+1:Nat):Int):=by rw[wrapI]<;>omega
  have ih:=leqInstS all hall hf rest (i+1) hr
  have he:i+1+rest.length=i+(rest.length+1):=by omega
  rw[he] at ih
  have g:=g_eqInst x (hf x (by rw[←hc];exact List.getElem_mem _))
  refine evLoop_next ?_ (by simpa only[List.length_cons] using ih)
  simp (maxSteps:=1000000) +contextual -dsimp [Tryz.f52,hlt,hi,hc,hw,g]
theorem g_eqInstS (l:List Inst) (hl:l.length≤2097152) (hf:∀ x,x∈l→wInst x≤2097152):fo 52 [A (.sl 77 (l.map xT)),A (.sl 77 (l.map xT))]=some (R (vB true)):=by
 have hlp:=leqInstS l hl hf l 0 rfl
 refine orc_52 (l.length+1) ?_
 simp -dsimp [Tryz.f52] at hlp
 simp (maxSteps:=1000000) +contextual -dsimp [Tryz.f52,hlp,eqI_self]
theorem g_eqClaim (x:Claim):fo 53 [A (.agg (kT x)),A (.agg (kT x))]=some (R (vB true)):=by
 refine orc_53 1 ?_
 simp (maxSteps:=1000000) +contextual -dsimp [Tryz.f53,eqI_self]
theorem leqClaimS (all:List Claim) (hall:all.length≤2097152):∀ (rest:List Claim) (i:Nat),all.drop i=rest→
  evLoop E (orc E) (26:Nat) (rest.length+1) (loopOf Tryz.f26 0) ⟨27,[(0,.sl 68 (all.map kT)),(1,.sl 68 (all.map kT)),(5,vI i)],[],2⟩=
  some (.exit 0,⟨27,[(0,.sl 68 (all.map kT)),(1,.sl 68 (all.map kT)),(5,vI (i+rest.length:Nat)),(14,vB false)],[],2⟩)
 | [],i,h=>by
  have hge:all.length≤i:=by simpa using h
  have hlt:ltI (i:Int) (all.length:Int)=false:=ltI_f (by omega)
  rw[loop_eq]
  simp +contextual -dsimp [Tryz.f26,hlt]
 | x::rest,i,h=>by
  obtain⟨hi,hc,hr⟩:=drop_cons h
  have hlt:ltI (i:Int) (all.length:Int)=true:=ltI_t (by omega)
  have hw:IntKind.i64.wrap ((i:Int)+1)=((i+1:Nat):Int):=by rw[wrapI]<;>omega
  have ih:=leqClaimS all hall rest (i+1) hr
  have he:i+1+rest.length=i+(rest.length+1):=by omega
  rw[he] at ih
  have g:=g_eqClaim x
  refine evLoop_next ?_ (by simpa only[List.length_cons] using ih)
  simp (maxSteps:=1000000) +contextual -dsimp [Tryz.f26,hlt,hi,hc,hw,g]
theorem g_eqClaimS (l:List Claim) (hl:l.length≤2097152):fo 26 [A (.sl 68 (l.map kT)),A (.sl 68 (l.map kT))]=some (R (vB true)):=by
 have hlp:=leqClaimS l hl l 0 rfl
 refine orc_26 (l.length+1) ?_
 simp -dsimp [Tryz.f26] at hlp
 simp (maxSteps:=1000000) +contextual -dsimp [Tryz.f26,hlp,eqI_self]
theorem g_eqEngine (x:Engine) (h:wEngine x≤2097152):fo 25 [A (.agg (eT x)),A (.agg (eT x))]=some (R (vB true)):=by
 have g0:=g_eqProcS x.procs (by simp only[wEngine,wsProc] at h;omega) (fun y hy=>by have:=sumProc_mem hy;simp only[wEngine,wsProc] at h;omega)
 have g1:=g_eqInstS x.insts (by simp only[wEngine,wsInst] at h;omega) (fun y hy=>by have:=sumInst_mem hy;simp only[wEngine,wsInst] at h;omega)
 refine orc_25 1 ?_
 simp (maxSteps:=1000000) +contextual -dsimp [Tryz.f25,eqI_self,g0,g1]
theorem g_eqDesk (x:Desk) (h:wDesk x≤2097152):fo 10 [A (.agg (dT x)),A (.agg (dT x))]=some (R (vB true)):=by
 have g0:=g_eqEngine x.eng (by simp only[wDesk] at h;omega)
 have g1:=g_eqClaimS x.claims (by simp only[wDesk] at h;omega)
 refine orc_10 1 ?_
 simp (maxSteps:=1000000) +contextual -dsimp [Tryz.f10,g0,g1]
structure FitD (d:Desk):Prop where
 eng:FitE d.eng
 claims:d.claims.length<2 ^ 62
theorem fw_step {s:Step} (h:FitS s):FwStep s:=⟨h.name,h.cond,h.expr⟩
theorem fw_proc {p:List Step} (h:FitP p):FwProc p:=⟨h.len,fun s hs=>fw_step (h.steps s hs)⟩
theorem fw_chart {c:Chart} (h:FitC c):FwChart c:=⟨h.vars,h.acts,h.dues⟩
theorem fw_engine {e:Engine} (h:FitE e):FwEngine e:=⟨⟨h.np,fun p hp=>fw_proc (h.procs p hp)⟩,⟨h.ni,fun x hx=>fw_chart (h.insts x hx)⟩⟩
theorem fw_desk {d:Desk} (h:FitD d):FwDesk d:=⟨fw_engine h.eng,h.claims⟩
theorem tree_int {n:Nat} {ts:List T} (h:TreeT Tryz.prog (n+1) 2 ts):∃ x,ts=[vI x]∧-9223372036854775808≤x∧x<9223372036854775808:=by
 unfold TreeT at h
 rw[Tryz.underlying2] at h
 obtain⟨x,rfl,hw⟩:=h
 have:=bounds_i64 hw
 exact⟨x,rfl,by omega,by omega⟩
theorem map_of {α β:Type} {f:α→β} {p:α→Prop}:∀ {l:List β},(∀ c,c∈l→∃ x,c=f x∧p x)→∃ xs:List α,l=xs.map f∧∀ x,x∈xs→p x
 | [],_=>⟨[],rfl,fun x hx=>by simp at hx⟩
 | c::l,h=>by
  obtain⟨x,rfl,hx⟩:=h c (by simp)
  obtain⟨xs,rfl,hxs⟩:=map_of (f:=f) (p:=p) (l:=l) fun d hd=>h d (by simp[hd])
  exact⟨x::xs,rfl,fun y hy=>by
   rcases List.mem_cons.1 hy with rfl | hy
   ·exact hx
   ·exact hxs y hy⟩
theorem tree_slice {α:Type} {P:Program} {n:Nat} {t e:TypeId} {ts:List T} {f:α→List T} {p:α→Prop} (hu:P.underlying t=some (.slice e)) (h:TreeT P (n+1) t ts)
  (hx:∀ c,TreeT P n e c→∃ x,c=f x∧p x):∃ l:List α,ts=[.sl e (l.map f)]∧l.length<2 ^ 62∧∀ x,x∈l→p x:=by
 unfold TreeT at h
 rw[hu] at h
 obtain⟨es,rfl,hl,h2⟩:=h
 obtain⟨xs,rfl,hp⟩:=map_of (f:=f) (p:=p) (l:=es) fun c hc=>hx c (h2 c hc)
 refine⟨xs,rfl,?_,hp⟩
 simp at hl;unfold reachBytes at hl;omega
theorem tree_node {n:Nat} {ts:List T} (h:TreeT Tryz.prog (n+2) 211 ts):∃ x,ts=nT x∧True:=by
 unfold TreeT at h
 rw[Tryz.underlying211] at h
 obtain⟨c1,r1,rfl,h1,c2,r2,rfl,h2,c3,r3,rfl,h3,c4,r4,rfl,h4,rfl⟩:=h
 obtain⟨x1,rfl,_⟩:=tree_int h1
 obtain⟨x2,rfl,_⟩:=tree_int h2
 obtain⟨x3,rfl,_⟩:=tree_int h3
 obtain⟨x4,rfl,_⟩:=tree_int h4
 exact⟨⟨x1,x2,x3,x4⟩,rfl,trivial⟩
theorem tree_step {n:Nat} {ts:List T} (h:TreeT Tryz.prog (n+4) 152 ts):∃ s:Step,ts=sT 211 s∧FitS s:=by
 unfold TreeT at h
 rw[Tryz.underlying152] at h
 obtain⟨c1,r1,rfl,h1,c2,r2,rfl,h2,c3,r3,rfl,h3,c4,r4,rfl,h4,c5,r5,rfl,h5,c6,r6,rfl,h6,rfl⟩:=h
 obtain⟨x1,rfl,_⟩:=tree_int h1
 obtain⟨x2,rfl,p1,p2⟩:=tree_int h2
 obtain⟨x4,rfl,_⟩:=tree_int h4
 obtain⟨x5,rfl,l5,_⟩:=tree_slice (f:=nT) (p:=fun _=>True) Tryz.underlying150 h5 fun c hc=>tree_node hc
 obtain⟨x6,rfl,l6,_⟩:=tree_slice (f:=nT) (p:=fun _=>True) Tryz.underlying150 h6 fun c hc=>tree_node hc
 simp only at h3
 unfold TreeT at h3
 rw[Tryz.underlying9] at h3
 obtain⟨x3,rfl,l3⟩:=h3
 exact⟨⟨x1,x2,x3,x4,x5,x6⟩,rfl,p1,p2,by unfold reachBytes at l3;simp;omega,l5,l6⟩
theorem tree_proc {n:Nat} {ts:List T} (h:TreeT Tryz.prog (n+6) 103 ts):∃ p:List Step,ts=pT 152 211 p∧FitP p:=by
 unfold TreeT at h
 rw[Tryz.underlying103] at h
 obtain⟨c1,r1,rfl,h1,rfl⟩:=h
 obtain⟨l,rfl,hl,hf⟩:=tree_slice (f:=sT 211) (p:=FitS) Tryz.underlying101 h1 fun c hc=>tree_step hc
 exact⟨l,rfl,hl,hf⟩
theorem tree_ints {n:Nat} {ts:List T} (h:TreeT Tryz.prog (n+2) 73 ts):∃ l:List Int,ts=[iS l]∧l.length<2 ^ 62:=by
 obtain⟨l,rfl,hl,_⟩:=tree_slice (f:=fun n=>[vI n]) (p:=fun _=>True) Tryz.underlying73 h fun c hc=>by
  obtain⟨x,rfl,_⟩:=tree_int hc
  exact⟨x,rfl,trivial⟩
 exact⟨l,rfl,hl⟩
theorem tree_chart {n:Nat} {ts:List T} (h:TreeT Tryz.prog (n+3) 105 ts):∃ c:Chart,ts=cT c∧FitC c:=by
 unfold TreeT at h
 rw[Tryz.underlying105] at h
 obtain⟨c1,r1,rfl,h1,c2,r2,rfl,h2,c3,r3,rfl,h3,c4,r4,rfl,h4,c5,r5,rfl,h5,rfl⟩:=h
 obtain⟨x1,rfl,_⟩:=tree_int h1
 obtain⟨x2,rfl,_⟩:=tree_int h2
 obtain⟨x3,rfl,l3⟩:=tree_ints h3
 obtain⟨x4,rfl,l4⟩:=tree_ints h4
 obtain⟨x5,rfl,l5⟩:=tree_ints h5
 exact⟨⟨x1,x2,x3,x4,x5⟩,rfl,l3,l4,l5⟩
theorem tree_inst {n:Nat} {ts:List T} (h:TreeT Tryz.prog (n+4) 107 ts):∃ x:Inst,ts=xT x∧FitC x.chart:=by
 unfold TreeT at h
 rw[Tryz.underlying107] at h
 obtain⟨c1,r1,rfl,h1,c2,r2,rfl,h2,rfl⟩:=h
 obtain⟨x1,rfl,_⟩:=tree_int h1
 obtain⟨x2,rfl,f2⟩:=tree_chart h2
 exact⟨⟨x1,x2⟩,rfl,f2⟩
theorem tree_claim {n:Nat} {ts:List T} (h:TreeT Tryz.prog (n+2) 88 ts):∃ x:Claim,ts=kT x∧True:=by
 unfold TreeT at h
 rw[Tryz.underlying88] at h
 obtain⟨c1,r1,rfl,h1,c2,r2,rfl,h2,c3,r3,rfl,h3,rfl⟩:=h
 obtain⟨x1,rfl,_⟩:=tree_int h1
 obtain⟨x2,rfl,_⟩:=tree_int h2
 obtain⟨x3,rfl,_⟩:=tree_int h3
 exact⟨⟨x1,x2,x3⟩,rfl,trivial⟩
theorem tree_engine {n:Nat} {ts:List T} (h:TreeT Tryz.prog (n+8) 25 ts):∃ e:Engine,ts=eTl e∧FitE e:=by
 unfold TreeT at h
 rw[Tryz.underlying25] at h
 obtain⟨c1,r1,rfl,h1,c2,r2,rfl,h2,c3,r3,rfl,h3,rfl⟩:=h
 obtain⟨x1,rfl,l1,f1⟩:=tree_slice (f:=pT 152 211) (p:=FitP) Tryz.underlying22 h1 fun c hc=>tree_proc hc
 obtain⟨x2,rfl,l2,f2⟩:=tree_slice (f:=xT) (p:=fun x=>FitC x.chart) Tryz.underlying23 h2 fun c hc=>tree_inst hc
 obtain⟨x3,rfl,_⟩:=tree_int h3
 exact⟨⟨x1,x2,x3⟩,rfl,l1,l2,f1,f2⟩
theorem tree_desk {ts:List T} (h:TreeT Tryz.prog 9 28 ts):∃ d:Desk,ts=dTl d∧FitD d:=by
 unfold TreeT at h
 rw[Tryz.underlying28] at h
 obtain⟨c1,r1,rfl,h1,c2,r2,rfl,h2,rfl⟩:=h
 obtain⟨x1,rfl,f1⟩:=tree_engine h1
 obtain⟨x2,rfl,l2,_⟩:=tree_slice (f:=kT) (p:=fun _=>True) Tryz.underlying26 h2 fun c hc=>tree_claim hc
 exact⟨⟨x1,x2⟩,rfl,f1,l2⟩
end Go.TM.It
