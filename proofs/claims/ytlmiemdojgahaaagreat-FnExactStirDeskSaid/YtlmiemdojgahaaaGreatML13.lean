/- What functions of the program come to, by the machine. -/
import Derived.Test.YtlmiemdojgahaaaGreatML12
set_option linter.unusedSimpArgs false
set_option linter.unusedVariables false
namespace Go.TM.Ft
open Go Go.TM Go.Proofs Go.Proofs.Tryz
set_option maxRecDepth 20000
attribute [local congr] O3
attribute [local simp] L9 M4 K0 L6 J6 L4 J8 J1 K5 I6
abbrev iV (n:Int):List T:=[vI n]
def D1 (left:Int) (w:Nat):Int:=if A3 (left - w) 0=true then -1 else left - w
theorem bS {left:Int} {w:Nat} (c:A3 (D1 left w) 0=false):(w:Int)≤left∧D1 left w=left - w:=by
 unfold D1 at c ⊢
 split at c
 ·simp[A3] at c
 ·rename_i h;rw[if_neg h];simp[A3] at h;exact⟨by omega,rfl⟩
theorem cS {left:Int} {w:Nat} (_h0:0≤left) (c:A3 (D1 left w) 0=true):left<(w:Int):=by
 unfold D1 at c
 split at c
 ·rename_i h;simp[A3] at h;omega
 ·rename_i h;exact absurd c h
theorem aL {left:Int} {w:Nat} (h:left<(w:Int)):D1 left w=-1:=by unfold D1;rw[if_pos (by simp[A3];omega)]
theorem sL {left:Int} {w:Nat} (h:(w:Int)≤left):D1 left w=left - w:=by unfold D1;rw[if_neg (by simp[A3];omega)]
theorem Tj {left:Int} (h:0≤left):D1 left 0=left:=by rw[sL (by simpa using h)];simp
theorem wD (left:Int) (a b:Nat):D1 left (a+b)=D1 (left - a) b:=by
 have e:left - ((a+b:Nat):Int)=left - a - b:=by omega
 unfold D1;rw[e]
def L5 (x:Step):Nat:=x.name.size+x.cond.length+x.expr.length
def wP (x:Step):Prop:=x.name.size<2 ^ 62∧x.cond.length<2 ^ 62∧x.expr.length<2 ^ 62
def V7:List Step→Nat
 | []=>0
 | x::r=>L5 x+V7 r
def dW (l:List Step):Nat:=l.length+V7 l
theorem Am {x:Step}:∀ {l:List Step},x∈l→L5 x≤V7 l
 | [],h=>by simp at h
 | y::l,h=>by
  unfold V7
  rcases List.mem_cons.1 h with rfl | h
  ·omega
  ·have:=Am h;omega
def N4 (x:List Step):Nat:=dW x
def vH (x:List Step):Prop:=(x.length<2 ^ 62∧∀ y,y∈x→wP y)
def U4:List (List Step)→Nat
 | []=>0
 | x::r=>N4 x+U4 r
def Z9 (l:List (List Step)):Nat:=l.length+U4 l
theorem Az {x:List Step}:∀ {l:List (List Step)},x∈l→N4 x≤U4 l
 | [],h=>by simp at h
 | y::l,h=>by
  unfold U4
  rcases List.mem_cons.1 h with rfl | h
  ·omega
  ·have:=Az h;omega
def M3 (x:Chart):Nat:=x.vars.length+x.acts.length+x.dues.length
def Hf (x:Chart):Prop:=x.vars.length<2 ^ 62∧x.acts.length<2 ^ 62∧x.dues.length<2 ^ 62
def K9 (x:Inst):Nat:=M3 x.chart
def yS (x:Inst):Prop:=Hf x.chart
def N1:List Inst→Nat
 | []=>0
 | x::r=>K9 x+N1 r
def X6 (l:List Inst):Nat:=l.length+N1 l
theorem Aj {x:Inst}:∀ {l:List Inst},x∈l→K9 x≤N1 l
 | [],h=>by simp at h
 | y::l,h=>by
  unfold N1
  rcases List.mem_cons.1 h with rfl | h
  ·omega
  ·have:=Aj h;omega
def H6 (x:Engine):Nat:=Z9 x.procs+X6 x.insts
def Ig (x:Engine):Prop:=(x.procs.length<2 ^ 62∧∀ y,y∈x.procs→vH y)∧(x.insts.length<2 ^ 62∧∀ y,y∈x.insts→yS y)
def P3 (x:Desk):Nat:=H6 x.eng+x.claims.length
def Wa (x:Desk):Prop:=Ig x.eng∧x.claims.length<2 ^ 62
theorem Uu (l:List Int) (left:Int) (h0:0≤left) (h1:left≤1048576) (hl:l.length<2 ^ 62):fo 156 [A (.sl 2 (l.map iV)),A (vI left)]=some (R (vI (D1 left l.length))):=by
 have hw:IntKind.i64.wrap (left - l.length)=left - l.length:=by rw[B6]<;>omega
 refine f0t 1 ?_
 simp (maxSteps:=1000000) +contextual -dsimp [f156,D1,hw]
theorem a0f (l:List Node) (left:Int) (h0:0≤left) (h1:left≤1048576) (hl:l.length<2 ^ 62):fo 155 [A (.sl 267 (l.map nT)),A (vI left)]=some (R (vI (D1 left l.length))):=by
 have hw:IntKind.i64.wrap (left - l.length)=left - l.length:=by rw[B6]<;>omega
 refine d4x 1 ?_
 simp (maxSteps:=1000000) +contextual -dsimp [f155,D1,hw]
theorem e2y (x:Step) (left:Int) (h0:0≤left) (h1:left≤1048576) (hf:wP x):fo 68 [A (.agg (sT 267 x)),A (vI left)]=some (R (vI (D1 left (L5 x)))):=by
 unfold wP at hf
 refine e5d 1 ?_
 have Cy:IntKind.i64.wrap (left - (x.name.size:Nat))=left - (x.name.size:Nat):=by have:=hf.1;rw[B6]<;>omega
 cases c0:A3 (left - (x.name.size:Nat)) 0
 ·have p0:((x.name.size:Nat):Int)≤left:=by simp[A3] at c0;omega
  have g1:=a0f x.cond (left - (x.name.size:Nat)) (by omega) (by omega) hf.2.1
  cases c1:A3 (D1 (left - (x.name.size:Nat)) (x.cond.length)) 0
  ·obtain⟨p1,e1⟩:=bS c1
   rw[e1] at g1 c1
   have g2:=a0f x.expr (left - (x.name.size:Nat) - (x.cond.length:Nat)) (by omega) (by omega) hf.2.2
   cases c2:A3 (D1 (left - (x.name.size:Nat) - (x.cond.length:Nat)) (x.expr.length)) 0
   ·obtain⟨p2,e2⟩:=bS c2
    rw[e2] at g2 c2
    have hm:D1 left (L5 x)=left - (x.name.size:Nat) - (x.cond.length:Nat) - (x.expr.length:Nat):=by
     have:=sL (left:=left) (w:=L5 x) (by simp only[L5];omega)
     simp only[L5] at this ⊢;omega
    rw[hm]
    simp (maxSteps:=1000000) +contextual -dsimp [f68,Cy,g1,g2,c0,c1,c2]
   ·have n2:=cS (by omega) c2
    have hm:D1 left (L5 x)=-1:=aL (by simp only[L5];omega)
    rw[hm]
    simp (maxSteps:=1000000) +contextual -dsimp [f68,Cy,g1,g2,c0,c1,c2]
  ·have n1:=cS (by omega) c1
   have hm:D1 left (L5 x)=-1:=aL (by simp only[L5];omega)
   rw[hm]
   simp (maxSteps:=1000000) +contextual -dsimp [f68,Cy,g1,c0,c1]
 ·have hm:D1 left (L5 x)=-1:=aL (by simp only[L5];simp[A3] at c0;omega)
  rw[hm]
  simp (maxSteps:=1000000) +contextual -dsimp [f68,Cy,c0]
theorem c9p (all:List Step) (B9:all.length≤1048576) (hf:∀ x,x∈all→wP x):∀ (rest:List Step) (i:Nat) (left:Int),all.drop i=rest→0≤left→left≤1048576→
  B7 E (orc E) (13:Nat) (rest.length+1) (C1 f13 0) ⟨27,[(0,.sl 111 (all.map (sT 267))),(1,vI left),(5,vI i)],[],2⟩=
  (if A3 (D1 left (V7 rest)) 0=true then some (.ret,⟨27,[(4,vI (-1))],[],2⟩) else some (.exit 0,⟨27,[(0,.sl 111 (all.map (sT 267))),(1,vI (left - (V7 rest:Nat))),(5,vI (i+rest.length:Nat)),(15,vB false)],[],2⟩))
 | [],i,left,h,h0,h1=>by
  have G5:all.length≤i:=by simpa using h
  have A1:A3 (i:Int) (all.length:Int)=false:=C9 (by omega)
  have hz:D1 left 0=left:=Tj h0
  have hn:A3 left 0=false:=C9 (by omega)
  rw[D5]
  simp +contextual -dsimp [f13,A1,V7,hz,hn]
 | x::rest,i,left,h,h0,h1=>by
  obtain⟨hi,hc,hr⟩:=F6 h
  have A1:A3 (i:Int) (all.length:Int)=true:=F5 (by omega)
  have hw:IntKind.i64.wrap ((i:Int)+1)=((i+1:Nat):Int):=by rw[B6]<;>omega
  have he:i+1+rest.length=i+(rest.length+1):=by omega
  have g:=e2y x left h0 h1 (hf x (by rw[←hc];exact List.getElem_mem _))
  have ha:D1 left (V7 (x::rest))=D1 (left - L5 x) (V7 rest):=wD left (L5 x) (V7 rest)
  have hb:left - ((V7 (x::rest):Nat):Int)=left - L5 x - (V7 rest:Nat):=by simp only[V7];omega
  cases c:A3 (D1 left (L5 x)) 0
  ·obtain⟨p,e⟩:=bS c
   rw[e] at g c
   have ih:=c9p all B9 hf rest (i+1) (left - L5 x) hr (by omega) (by omega)
   rw[he] at ih
   rw[ha,hb]
   refine D6 ?_ (by simpa only[List.length_cons] using ih)
   simp (maxSteps:=1000000) +contextual -dsimp [f13,A1,hi,hc,hw,g,c]
  ·have hn:=cS h0 c
   have hm:A3 (D1 left (V7 (x::rest))) 0=true:=by rw[aL (by simp only[V7];omega)];rfl
   rw[hm,if_pos rfl]
   refine G3 ?_ (by simp)
   simp (maxSteps:=1000000) +contextual -dsimp [f13,A1,hi,hc,g,c]
theorem e2a (l:List Step) (left:Int) (h0:0≤left) (h1:left≤1048576) (hf:l.length<2 ^ 62∧∀ y,y∈l→wP y):fo 13 [A (.sl 111 (l.map (sT 267))),A (vI left)]=some (R (vI (D1 left (dW l)))):=by
 have hl:=hf.1
 unfold dW
 have hw:IntKind.i64.wrap (left - l.length)=left - l.length:=by rw[B6]<;>omega
 refine d1y (l.length+1) ?_
 cases c1:A3 (left - l.length) 0
 ·have p:(l.length:Int)≤left:=by simp[A3] at c1;omega
  have A4:=c9p l (by omega) hf.2 l 0 (left - l.length) rfl (by omega) (by omega)
  have ha:D1 left (l.length+V7 l)=D1 (left - l.length) (V7 l):=wD left l.length (V7 l)
  rw[ha]
  simp -dsimp [f13] at A4
  cases c2:A3 (D1 (left - l.length) (V7 l)) 0
  ·obtain⟨p2,e2⟩:=bS c2
   rw[c2] at A4
   rw[e2]
   simp (maxSteps:=1000000) +contextual -dsimp [f13,hw,c1,A4]
  ·rw[c2] at A4
   have e2:D1 (left - l.length) (V7 l)=-1:=aL (cS (by omega) c2)
   rw[e2]
   simp (maxSteps:=1000000) +contextual -dsimp [f13,hw,c1,A4]
 ·have hm:D1 left (l.length+V7 l)=-1:=aL (by simp[A3] at c1;omega)
  rw[hm]
  simp (maxSteps:=1000000) +contextual -dsimp [f13,hw,c1]
theorem f2s (x:List Step) (left:Int) (h0:0≤left) (h1:left≤1048576) (hf:vH x):fo 179 [A (.agg (pT 111 267 x)),A (vI left)]=some (R (vI (D1 left (N4 x)))):=by
 unfold vH at hf
 refine d2r 1 ?_
 have g0:=e2a x (left) (by omega) (by omega) hf
 cases c0:A3 (D1 (left) (dW x)) 0
 ·obtain⟨p0,e0⟩:=bS c0
  rw[e0] at g0 c0
  have hm:D1 left (N4 x)=left - (dW x:Nat):=by
   have:=sL (left:=left) (w:=N4 x) (by simp only[N4];omega)
   simp only[N4] at this ⊢;omega
  rw[hm]
  simp (maxSteps:=1000000) +contextual -dsimp [f179,g0,c0]
 ·have n0:=cS (by omega) c0
  have hm:D1 left (N4 x)=-1:=aL (by simp only[N4];omega)
  rw[hm]
  simp (maxSteps:=1000000) +contextual -dsimp [f179,g0,c0]
theorem b1s (all:List (List Step)) (B9:all.length≤1048576) (hf:∀ x,x∈all→vH x):∀ (rest:List (List Step)) (i:Nat) (left:Int),all.drop i=rest→0≤left→left≤1048576→
  B7 E (orc E) (105:Nat) (rest.length+1) (C1 f105 0) ⟨27,[(0,.sl 225 (all.map (pT 111 267))),(1,vI left),(5,vI i)],[],2⟩=
  (if A3 (D1 left (U4 rest)) 0=true then some (.ret,⟨27,[(4,vI (-1))],[],2⟩) else some (.exit 0,⟨27,[(0,.sl 225 (all.map (pT 111 267))),(1,vI (left - (U4 rest:Nat))),(5,vI (i+rest.length:Nat)),(15,vB false)],[],2⟩))
 | [],i,left,h,h0,h1=>by
  have G5:all.length≤i:=by simpa using h
  have A1:A3 (i:Int) (all.length:Int)=false:=C9 (by omega)
  have hz:D1 left 0=left:=Tj h0
  have hn:A3 left 0=false:=C9 (by omega)
  rw[D5]
  simp +contextual -dsimp [f105,A1,U4,hz,hn]
 | x::rest,i,left,h,h0,h1=>by
  obtain⟨hi,hc,hr⟩:=F6 h
  have A1:A3 (i:Int) (all.length:Int)=true:=F5 (by omega)
  have hw:IntKind.i64.wrap ((i:Int)+1)=((i+1:Nat):Int):=by rw[B6]<;>omega
  have he:i+1+rest.length=i+(rest.length+1):=by omega
  have g:=f2s x left h0 h1 (hf x (by rw[←hc];exact List.getElem_mem _))
  have ha:D1 left (U4 (x::rest))=D1 (left - N4 x) (U4 rest):=wD left (N4 x) (U4 rest)
  have hb:left - ((U4 (x::rest):Nat):Int)=left - N4 x - (U4 rest:Nat):=by simp only[U4];omega
  cases c:A3 (D1 left (N4 x)) 0
  ·obtain⟨p,e⟩:=bS c
   rw[e] at g c
   have ih:=b1s all B9 hf rest (i+1) (left - N4 x) hr (by omega) (by omega)
   rw[he] at ih
   rw[ha,hb]
   refine D6 ?_ (by simpa only[List.length_cons] using ih)
   simp (maxSteps:=1000000) +contextual -dsimp [f105,A1,hi,hc,hw,g,c]
  ·have hn:=cS h0 c
   have hm:A3 (D1 left (U4 (x::rest))) 0=true:=by rw[aL (by simp only[U4];omega)];rfl
   rw[hm,if_pos rfl]
   refine G3 ?_ (by simp)
   simp (maxSteps:=1000000) +contextual -dsimp [f105,A1,hi,hc,g,c]
theorem e7e (l:List (List Step)) (left:Int) (h0:0≤left) (h1:left≤1048576) (hf:l.length<2 ^ 62∧∀ y,y∈l→vH y):fo 105 [A (.sl 225 (l.map (pT 111 267))),A (vI left)]=some (R (vI (D1 left (Z9 l)))):=by
 have hl:=hf.1
 unfold Z9
 have hw:IntKind.i64.wrap (left - l.length)=left - l.length:=by rw[B6]<;>omega
 refine e7z (l.length+1) ?_
 cases c1:A3 (left - l.length) 0
 ·have p:(l.length:Int)≤left:=by simp[A3] at c1;omega
  have A4:=b1s l (by omega) hf.2 l 0 (left - l.length) rfl (by omega) (by omega)
  have ha:D1 left (l.length+U4 l)=D1 (left - l.length) (U4 l):=wD left l.length (U4 l)
  rw[ha]
  simp -dsimp [f105] at A4
  cases c2:A3 (D1 (left - l.length) (U4 l)) 0
  ·obtain⟨p2,e2⟩:=bS c2
   rw[c2] at A4
   rw[e2]
   simp (maxSteps:=1000000) +contextual -dsimp [f105,hw,c1,A4]
  ·rw[c2] at A4
   have e2:D1 (left - l.length) (U4 l)=-1:=aL (cS (by omega) c2)
   rw[e2]
   simp (maxSteps:=1000000) +contextual -dsimp [f105,hw,c1,A4]
 ·have hm:D1 left (l.length+U4 l)=-1:=aL (by simp[A3] at c1;omega)
  rw[hm]
  simp (maxSteps:=1000000) +contextual -dsimp [f105,hw,c1]
theorem e7u (x:Chart) (left:Int) (h0:0≤left) (h1:left≤1048576) (hf:Hf x):fo 241 [A (.agg (cT x)),A (vI left)]=some (R (vI (D1 left (M3 x)))):=by
 unfold Hf at hf
 refine e1z 1 ?_
 have g0:=Uu x.vars (left) (by omega) (by omega) hf.1
 cases c0:A3 (D1 (left) (x.vars.length)) 0
 ·obtain⟨p0,e0⟩:=bS c0
  rw[e0] at g0 c0
  have g1:=Uu x.acts (left - (x.vars.length:Nat)) (by omega) (by omega) hf.2.1
  cases c1:A3 (D1 (left - (x.vars.length:Nat)) (x.acts.length)) 0
  ·obtain⟨p1,e1⟩:=bS c1
   rw[e1] at g1 c1
   have g2:=Uu x.dues (left - (x.vars.length:Nat) - (x.acts.length:Nat)) (by omega) (by omega) hf.2.2
   cases c2:A3 (D1 (left - (x.vars.length:Nat) - (x.acts.length:Nat)) (x.dues.length)) 0
   ·obtain⟨p2,e2⟩:=bS c2
    rw[e2] at g2 c2
    have hm:D1 left (M3 x)=left - (x.vars.length:Nat) - (x.acts.length:Nat) - (x.dues.length:Nat):=by
     have:=sL (left:=left) (w:=M3 x) (by simp only[M3];omega)
     simp only[M3] at this ⊢;omega
    rw[hm]
    simp (maxSteps:=1000000) +contextual -dsimp [f241,g0,g1,g2,c0,c1,c2]
   ·have n2:=cS (by omega) c2
    have hm:D1 left (M3 x)=-1:=aL (by simp only[M3];omega)
    rw[hm]
    simp (maxSteps:=1000000) +contextual -dsimp [f241,g0,g1,g2,c0,c1,c2]
  ·have n1:=cS (by omega) c1
   have hm:D1 left (M3 x)=-1:=aL (by simp only[M3];omega)
   rw[hm]
   simp (maxSteps:=1000000) +contextual -dsimp [f241,g0,g1,c0,c1]
 ·have n0:=cS (by omega) c0
  have hm:D1 left (M3 x)=-1:=aL (by simp only[M3];omega)
  rw[hm]
  simp (maxSteps:=1000000) +contextual -dsimp [f241,g0,c0]
theorem d1e (x:Inst) (left:Int) (h0:0≤left) (h1:left≤1048576) (hf:yS x):fo 180 [A (.agg (xT x)),A (vI left)]=some (R (vI (D1 left (K9 x)))):=by
 unfold yS at hf
 refine d2e 1 ?_
 have g0:=e7u x.chart (left) (by omega) (by omega) hf
 cases c0:A3 (D1 (left) (M3 x.chart)) 0
 ·obtain⟨p0,e0⟩:=bS c0
  rw[e0] at g0 c0
  have hm:D1 left (K9 x)=left - (M3 x.chart:Nat):=by
   have:=sL (left:=left) (w:=K9 x) (by simp only[K9];omega)
   simp only[K9] at this ⊢;omega
  rw[hm]
  simp (maxSteps:=1000000) +contextual -dsimp [f180,g0,c0]
 ·have n0:=cS (by omega) c0
  have hm:D1 left (K9 x)=-1:=aL (by simp only[K9];omega)
  rw[hm]
  simp (maxSteps:=1000000) +contextual -dsimp [f180,g0,c0]
theorem a9e (all:List Inst) (B9:all.length≤1048576) (hf:∀ x,x∈all→yS x):∀ (rest:List Inst) (i:Nat) (left:Int),all.drop i=rest→0≤left→left≤1048576→
  B7 E (orc E) (106:Nat) (rest.length+1) (C1 f106 0) ⟨27,[(0,.sl 229 (all.map xT)),(1,vI left),(5,vI i)],[],2⟩=
  (if A3 (D1 left (N1 rest)) 0=true then some (.ret,⟨27,[(4,vI (-1))],[],2⟩) else some (.exit 0,⟨27,[(0,.sl 229 (all.map xT)),(1,vI (left - (N1 rest:Nat))),(5,vI (i+rest.length:Nat)),(15,vB false)],[],2⟩))
 | [],i,left,h,h0,h1=>by
  have G5:all.length≤i:=by simpa using h
  have A1:A3 (i:Int) (all.length:Int)=false:=C9 (by omega)
  have hz:D1 left 0=left:=Tj h0
  have hn:A3 left 0=false:=C9 (by omega)
  rw[D5]
  simp +contextual -dsimp [f106,A1,N1,hz,hn]
 | x::rest,i,left,h,h0,h1=>by
  obtain⟨hi,hc,hr⟩:=F6 h
  have A1:A3 (i:Int) (all.length:Int)=true:=F5 (by omega)
  have hw:IntKind.i64.wrap ((i:Int)+1)=((i+1:Nat):Int):=by rw[B6]<;>omega
  have he:i+1+rest.length=i+(rest.length+1):=by omega
  have g:=d1e x left h0 h1 (hf x (by rw[←hc];exact List.getElem_mem _))
  have ha:D1 left (N1 (x::rest))=D1 (left - K9 x) (N1 rest):=wD left (K9 x) (N1 rest)
  have hb:left - ((N1 (x::rest):Nat):Int)=left - K9 x - (N1 rest:Nat):=by simp only[N1];omega
  cases c:A3 (D1 left (K9 x)) 0
  ·obtain⟨p,e⟩:=bS c
   rw[e] at g c
   have ih:=a9e all B9 hf rest (i+1) (left - K9 x) hr (by omega) (by omega)
   rw[he] at ih
   rw[ha,hb]
   refine D6 ?_ (by simpa only[List.length_cons] using ih)
   simp (maxSteps:=1000000) +contextual -dsimp [f106,A1,hi,hc,hw,g,c]
  ·have hn:=cS h0 c
   have hm:A3 (D1 left (N1 (x::rest))) 0=true:=by rw[aL (by simp only[N1];omega)];rfl
   rw[hm,if_pos rfl]
   refine G3 ?_ (by simp)
   simp (maxSteps:=1000000) +contextual -dsimp [f106,A1,hi,hc,g,c]
theorem f1v (l:List Inst) (left:Int) (h0:0≤left) (h1:left≤1048576) (hf:l.length<2 ^ 62∧∀ y,y∈l→yS y):fo 106 [A (.sl 229 (l.map xT)),A (vI left)]=some (R (vI (D1 left (X6 l)))):=by
 have hl:=hf.1
 unfold X6
 have hw:IntKind.i64.wrap (left - l.length)=left - l.length:=by rw[B6]<;>omega
 refine d7x (l.length+1) ?_
 cases c1:A3 (left - l.length) 0
 ·have p:(l.length:Int)≤left:=by simp[A3] at c1;omega
  have A4:=a9e l (by omega) hf.2 l 0 (left - l.length) rfl (by omega) (by omega)
  have ha:D1 left (l.length+N1 l)=D1 (left - l.length) (N1 l):=wD left l.length (N1 l)
  rw[ha]
  simp -dsimp [f106] at A4
  cases c2:A3 (D1 (left - l.length) (N1 l)) 0
  ·obtain⟨p2,e2⟩:=bS c2
   rw[c2] at A4
   rw[e2]
   simp (maxSteps:=1000000) +contextual -dsimp [f106,hw,c1,A4]
  ·rw[c2] at A4
   have e2:D1 (left - l.length) (N1 l)=-1:=aL (cS (by omega) c2)
   rw[e2]
   simp (maxSteps:=1000000) +contextual -dsimp [f106,hw,c1,A4]
 ·have hm:D1 left (l.length+N1 l)=-1:=aL (by simp[A3] at c1;omega)
  rw[hm]
  simp (maxSteps:=1000000) +contextual -dsimp [f106,hw,c1]
theorem d7h (l:List Claim) (left:Int) (h0:0≤left) (h1:left≤1048576) (hl:l.length<2 ^ 62):fo 92 [A (.sl 222 (l.map kT)),A (vI left)]=some (R (vI (D1 left l.length))):=by
 have hw:IntKind.i64.wrap (left - l.length)=left - l.length:=by rw[B6]<;>omega
 refine d7k 1 ?_
 simp (maxSteps:=1000000) +contextual -dsimp [f92,D1,hw]
theorem d3y (x:Engine) (left:Int) (h0:0≤left) (h1:left≤1048576) (hf:Ig x):fo 38 [A (.agg (Jp x)),A (vI left)]=some (R (vI (D1 left (H6 x)))):=by
 unfold Ig at hf
 refine f1x 1 ?_
 have g0:=e7e x.procs (left) (by omega) (by omega) hf.1
 cases c0:A3 (D1 (left) (Z9 x.procs)) 0
 ·obtain⟨p0,e0⟩:=bS c0
  rw[e0] at g0 c0
  have g1:=f1v x.insts (left - (Z9 x.procs:Nat)) (by omega) (by omega) hf.2
  cases c1:A3 (D1 (left - (Z9 x.procs:Nat)) (X6 x.insts)) 0
  ·obtain⟨p1,e1⟩:=bS c1
   rw[e1] at g1 c1
   have hm:D1 left (H6 x)=left - (Z9 x.procs:Nat) - (X6 x.insts:Nat):=by
    have:=sL (left:=left) (w:=H6 x) (by simp only[H6];omega)
    simp only[H6] at this ⊢;omega
   rw[hm]
   simp (maxSteps:=1000000) +contextual -dsimp [f38,g0,g1,c0,c1]
  ·have n1:=cS (by omega) c1
   have hm:D1 left (H6 x)=-1:=aL (by simp only[H6];omega)
   rw[hm]
   simp (maxSteps:=1000000) +contextual -dsimp [f38,g0,g1,c0,c1]
 ·have n0:=cS (by omega) c0
  have hm:D1 left (H6 x)=-1:=aL (by simp only[H6];omega)
  rw[hm]
  simp (maxSteps:=1000000) +contextual -dsimp [f38,g0,c0]
theorem d1c (x:Desk) (left:Int) (h0:0≤left) (h1:left≤1048576) (hf:Wa x):fo 29 [A (.agg (zJ x)),A (vI left)]=some (R (vI (D1 left (P3 x)))):=by
 unfold Wa at hf
 refine d7s 1 ?_
 have g0:=d3y x.eng (left) (by omega) (by omega) hf.1
 cases c0:A3 (D1 (left) (H6 x.eng)) 0
 ·obtain⟨p0,e0⟩:=bS c0
  rw[e0] at g0 c0
  have g1:=d7h x.claims (left - (H6 x.eng:Nat)) (by omega) (by omega) hf.2
  cases c1:A3 (D1 (left - (H6 x.eng:Nat)) (x.claims.length)) 0
  ·obtain⟨p1,e1⟩:=bS c1
   rw[e1] at g1 c1
   have hm:D1 left (P3 x)=left - (H6 x.eng:Nat) - (x.claims.length:Nat):=by
    have:=sL (left:=left) (w:=P3 x) (by simp only[P3];omega)
    simp only[P3] at this ⊢;omega
   rw[hm]
   simp (maxSteps:=1000000) +contextual -dsimp [f29,g0,g1,c0,c1]
  ·have n1:=cS (by omega) c1
   have hm:D1 left (P3 x)=-1:=aL (by simp only[P3];omega)
   rw[hm]
   simp (maxSteps:=1000000) +contextual -dsimp [f29,g0,g1,c0,c1]
 ·have n0:=cS (by omega) c0
  have hm:D1 left (P3 x)=-1:=aL (by simp only[P3];omega)
  rw[hm]
  simp (maxSteps:=1000000) +contextual -dsimp [f29,g0,c0]
theorem c9k (all:List Int) (B9:all.length≤2097152):∀ (rest:List Int) (i:Nat),all.drop i=rest→
  B7 E (orc E) (22:Nat) (rest.length+1) (C1 f22 0) ⟨26,[(0,.sl 2 (all.map iV)),(1,.sl 2 (all.map iV)),(5,vI i)],[],2⟩=
  some (.exit 0,⟨26,[(0,.sl 2 (all.map iV)),(1,.sl 2 (all.map iV)),(5,vI (i+rest.length:Nat)),(14,vB false)],[],2⟩)
 | [],i,h=>by
  have G5:all.length≤i:=by simpa using h
  have A1:A3 (i:Int) (all.length:Int)=false:=C9 (by omega)
  rw[D5]
  simp +contextual -dsimp [f22,A1]
 | x::rest,i,h=>by
  obtain⟨hi,hc,hr⟩:=F6 h
  have A1:A3 (i:Int) (all.length:Int)=true:=F5 (by omega)
  have hw:IntKind.i64.wrap ((i:Int)+1)=((i+1:Nat):Int):=by rw[B6]<;>omega
  have ih:=c9k all B9 rest (i+1) hr
  have he:i+1+rest.length=i+(rest.length+1):=by omega
  rw[he] at ih
  refine D6 ?_ (by simpa only[List.length_cons] using ih)
  simp (maxSteps:=1000000) +contextual -dsimp [f22,A1,hi,hc,hw,D2]
theorem Ly (l:List Int) (hl:l.length≤2097152):fo 22 [A (.sl 2 (l.map iV)),A (.sl 2 (l.map iV))]=some (R (vB true)):=by
 have A4:=c9k l hl l 0 rfl
 refine d7v (l.length+1) ?_
 simp -dsimp [f22] at A4
 simp (maxSteps:=1000000) +contextual -dsimp [f22,A4,D2]
theorem e0c (x:Node):fo 240 [A (.agg (nT x)),A (.agg (nT x))]=some (R (vB true)):=by
 refine d4p 1 ?_
 simp (maxSteps:=1000000) +contextual -dsimp [f240,D2]
theorem c3l (all:List Node) (B9:all.length≤2097152):∀ (rest:List Node) (i:Nat),all.drop i=rest→
  B7 E (orc E) (173:Nat) (rest.length+1) (C1 f173 0) ⟨27,[(0,.sl 219 (all.map nT)),(1,.sl 219 (all.map nT)),(5,vI i)],[],2⟩=
  some (.exit 0,⟨27,[(0,.sl 219 (all.map nT)),(1,.sl 219 (all.map nT)),(5,vI (i+rest.length:Nat)),(14,vB false)],[],2⟩)
 | [],i,h=>by
  have G5:all.length≤i:=by simpa using h
  have A1:A3 (i:Int) (all.length:Int)=false:=C9 (by omega)
  rw[D5]
  simp +contextual -dsimp [f173,A1]
 | x::rest,i,h=>by
  obtain⟨hi,hc,hr⟩:=F6 h
  have A1:A3 (i:Int) (all.length:Int)=true:=F5 (by omega)
  have hw:IntKind.i64.wrap ((i:Int)+1)=((i+1:Nat):Int):=by rw[B6]<;>omega
  have ih:=c3l all B9 rest (i+1) hr
  have he:i+1+rest.length=i+(rest.length+1):=by omega
  rw[he] at ih
  have g:=e0c x
  refine D6 ?_ (by simpa only[List.length_cons] using ih)
  simp (maxSteps:=1000000) +contextual -dsimp [f173,A1,hi,hc,hw,g]
theorem a4h (l:List Node) (hl:l.length≤2097152):fo 173 [A (.sl 219 (l.map nT)),A (.sl 219 (l.map nT))]=some (R (vB true)):=by
 have A4:=c3l l hl l 0 rfl
 refine e8e (l.length+1) ?_
 simp -dsimp [f173] at A4
 simp (maxSteps:=1000000) +contextual -dsimp [f173,A4,D2]
theorem e5y (x:Step) (h:L5 x≤2097152):fo 83 [A (.agg (sT 219 x)),A (.agg (sT 219 x))]=some (R (vB true)):=by
 have g4:=a4h x.cond (by simp only[L5] at h;omega)
 have g5:=a4h x.expr (by simp only[L5] at h;omega)
 refine d2m 1 ?_
 simp (maxSteps:=1000000) +contextual -dsimp [f83,D2,qU,g4,g5]
theorem Yp (all:List Step) (B9:all.length≤2097152) (hf:∀ x,x∈all→L5 x≤2097152):∀ (rest:List Step) (i:Nat),all.drop i=rest→
  B7 E (orc E) (21:Nat) (rest.length+1) (C1 f21 0) ⟨27,[(0,.sl 124 (all.map (sT 219))),(1,.sl 124 (all.map (sT 219))),(5,vI i)],[],2⟩=
  some (.exit 0,⟨27,[(0,.sl 124 (all.map (sT 219))),(1,.sl 124 (all.map (sT 219))),(5,vI (i+rest.length:Nat)),(14,vB false)],[],2⟩)
 | [],i,h=>by
  have G5:all.length≤i:=by simpa using h
  have A1:A3 (i:Int) (all.length:Int)=false:=C9 (by omega)
  rw[D5]
  simp +contextual -dsimp [f21,A1]
 | x::rest,i,h=>by
  obtain⟨hi,hc,hr⟩:=F6 h
  have A1:A3 (i:Int) (all.length:Int)=true:=F5 (by omega)
  have hw:IntKind.i64.wrap ((i:Int)+1)=((i+1:Nat):Int):=by rw[B6]<;>omega
  have ih:=Yp all B9 hf rest (i+1) hr
  have he:i+1+rest.length=i+(rest.length+1):=by omega
  rw[he] at ih
  have g:=e5y x (hf x (by rw[←hc];exact List.getElem_mem _))
  refine D6 ?_ (by simpa only[List.length_cons] using ih)
  simp (maxSteps:=1000000) +contextual -dsimp [f21,A1,hi,hc,hw,g]
theorem d8r (l:List Step) (hl:l.length≤2097152) (hf:∀ x,x∈l→L5 x≤2097152):fo 21 [A (.sl 124 (l.map (sT 219))),A (.sl 124 (l.map (sT 219)))]=some (R (vB true)):=by
 have A4:=Yp l hl hf l 0 rfl
 refine d7n (l.length+1) ?_
 simp -dsimp [f21] at A4
 simp (maxSteps:=1000000) +contextual -dsimp [f21,A4,D2]
theorem e8g (x:List Step) (h:N4 x≤2097152):fo 189 [A (.agg (pT 124 219 x)),A (.agg (pT 124 219 x))]=some (R (vB true)):=by
 have g0:=d8r x (by simp only[N4,dW] at h;omega) (fun y hy=>by have:=Am hy;simp only[N4,dW] at h;omega)
 refine e2h 1 ?_
 simp (maxSteps:=1000000) +contextual -dsimp [f189,g0]
theorem c7w (all:List (List Step)) (B9:all.length≤2097152) (hf:∀ x,x∈all→N4 x≤2097152):∀ (rest:List (List Step)) (i:Nat),all.drop i=rest→
  B7 E (orc E) (117:Nat) (rest.length+1) (C1 f117 0) ⟨27,[(0,.sl 160 (all.map (pT 124 219))),(1,.sl 160 (all.map (pT 124 219))),(5,vI i)],[],2⟩=
  some (.exit 0,⟨27,[(0,.sl 160 (all.map (pT 124 219))),(1,.sl 160 (all.map (pT 124 219))),(5,vI (i+rest.length:Nat)),(14,vB false)],[],2⟩)
 | [],i,h=>by
  have G5:all.length≤i:=by simpa using h
  have A1:A3 (i:Int) (all.length:Int)=false:=C9 (by omega)
  rw[D5]
  simp +contextual -dsimp [f117,A1]
 | x::rest,i,h=>by
  obtain⟨hi,hc,hr⟩:=F6 h
  have A1:A3 (i:Int) (all.length:Int)=true:=F5 (by omega)
  have hw:IntKind.i64.wrap ((i:Int)+1)=((i+1:Nat):Int):=by rw[B6]<;>omega
  have ih:=c7w all B9 hf rest (i+1) hr
  have he:i+1+rest.length=i+(rest.length+1):=by omega
  rw[he] at ih
  have g:=e8g x (hf x (by rw[←hc];exact List.getElem_mem _))
  refine D6 ?_ (by simpa only[List.length_cons] using ih)
  simp (maxSteps:=1000000) +contextual -dsimp [f117,A1,hi,hc,hw,g]
theorem e7n (l:List (List Step)) (hl:l.length≤2097152) (hf:∀ x,x∈l→N4 x≤2097152):fo 117 [A (.sl 160 (l.map (pT 124 219))),A (.sl 160 (l.map (pT 124 219)))]=some (R (vB true)):=by
 have A4:=c7w l hl hf l 0 rfl
 refine d8l (l.length+1) ?_
 simp -dsimp [f117] at A4
 simp (maxSteps:=1000000) +contextual -dsimp [f117,A4,D2]
theorem e0d (x:Chart) (h:M3 x≤2097152):fo 82 [A (.agg (cT x)),A (.agg (cT x))]=some (R (vB true)):=by
 have g2:=Ly x.vars (by simp only[M3] at h;omega)
 have g3:=Ly x.acts (by simp only[M3] at h;omega)
 have g4:=Ly x.dues (by simp only[M3] at h;omega)
 refine d2f 1 ?_
 simp (maxSteps:=1000000) +contextual -dsimp [f82,D2,g2,g3,g4]
theorem f2m (x:Inst) (h:K9 x≤2097152):fo 190 [A (.agg (xT x)),A (.agg (xT x))]=some (R (vB true)):=by
 have g1:=e0d x.chart (by simp only[K9] at h;omega)
 refine d4z 1 ?_
 simp (maxSteps:=1000000) +contextual -dsimp [f190,D2,g1]
theorem Zl (all:List Inst) (B9:all.length≤2097152) (hf:∀ x,x∈all→K9 x≤2097152):∀ (rest:List Inst) (i:Nat),all.drop i=rest→
  B7 E (orc E) (118:Nat) (rest.length+1) (C1 f118 0) ⟨27,[(0,.sl 163 (all.map xT)),(1,.sl 163 (all.map xT)),(5,vI i)],[],2⟩=
  some (.exit 0,⟨27,[(0,.sl 163 (all.map xT)),(1,.sl 163 (all.map xT)),(5,vI (i+rest.length:Nat)),(14,vB false)],[],2⟩)
 | [],i,h=>by
  have G5:all.length≤i:=by simpa using h
  have A1:A3 (i:Int) (all.length:Int)=false:=C9 (by omega)
  rw[D5]
  simp +contextual -dsimp [f118,A1]
 | x::rest,i,h=>by
  obtain⟨hi,hc,hr⟩:=F6 h
  have A1:A3 (i:Int) (all.length:Int)=true:=F5 (by omega)
  have hw:IntKind.i64.wrap ((i:Int)+1)=((i+1:Nat):Int):=by rw[B6]<;>omega
  have ih:=Zl all B9 hf rest (i+1) hr
  have he:i+1+rest.length=i+(rest.length+1):=by omega
  rw[he] at ih
  have g:=f2m x (hf x (by rw[←hc];exact List.getElem_mem _))
  refine D6 ?_ (by simpa only[List.length_cons] using ih)
  simp (maxSteps:=1000000) +contextual -dsimp [f118,A1,hi,hc,hw,g]
theorem e3x (l:List Inst) (hl:l.length≤2097152) (hf:∀ x,x∈l→K9 x≤2097152):fo 118 [A (.sl 163 (l.map xT)),A (.sl 163 (l.map xT))]=some (R (vB true)):=by
 have A4:=Zl l hl hf l 0 rfl
 refine e9r (l.length+1) ?_
 simp -dsimp [f118] at A4
 simp (maxSteps:=1000000) +contextual -dsimp [f118,A4,D2]
theorem e1p (x:Claim):fo 177 [A (.agg (kT x)),A (.agg (kT x))]=some (R (vB true)):=by
 refine d3a 1 ?_
 simp (maxSteps:=1000000) +contextual -dsimp [f177,D2]
theorem a5c (all:List Claim) (B9:all.length≤2097152):∀ (rest:List Claim) (i:Nat),all.drop i=rest→
  B7 E (orc E) (102:Nat) (rest.length+1) (C1 f102 0) ⟨27,[(0,.sl 150 (all.map kT)),(1,.sl 150 (all.map kT)),(5,vI i)],[],2⟩=
  some (.exit 0,⟨27,[(0,.sl 150 (all.map kT)),(1,.sl 150 (all.map kT)),(5,vI (i+rest.length:Nat)),(14,vB false)],[],2⟩)
 | [],i,h=>by
  have G5:all.length≤i:=by simpa using h
  have A1:A3 (i:Int) (all.length:Int)=false:=C9 (by omega)
  rw[D5]
  simp +contextual -dsimp [f102,A1]
 | x::rest,i,h=>by
  obtain⟨hi,hc,hr⟩:=F6 h
  have A1:A3 (i:Int) (all.length:Int)=true:=F5 (by omega)
  have hw:IntKind.i64.wrap ((i:Int)+1)=((i+1:Nat):Int):=by rw[B6]<;>omega
  have ih:=a5c all B9 rest (i+1) hr
  have he:i+1+rest.length=i+(rest.length+1):=by omega
  rw[he] at ih
  have g:=e1p x
  refine D6 ?_ (by simpa only[List.length_cons] using ih)
  simp (maxSteps:=1000000) +contextual -dsimp [f102,A1,hi,hc,hw,g]
theorem e8z (l:List Claim) (hl:l.length≤2097152):fo 102 [A (.sl 150 (l.map kT)),A (.sl 150 (l.map kT))]=some (R (vB true)):=by
 have A4:=a5c l hl l 0 rfl
 refine e4t (l.length+1) ?_
 simp -dsimp [f102] at A4
 simp (maxSteps:=1000000) +contextual -dsimp [f102,A4,D2]
theorem e0m (x:Engine) (h:H6 x≤2097152):fo 43 [A (.agg (eT x)),A (.agg (eT x))]=some (R (vB true)):=by
 have g0:=e7n x.procs (by simp only[H6,Z9] at h;omega) (fun y hy=>by have:=Az hy;simp only[H6,Z9] at h;omega)
 have g1:=e3x x.insts (by simp only[H6,X6] at h;omega) (fun y hy=>by have:=Aj hy;simp only[H6,X6] at h;omega)
 refine e1j 1 ?_
 simp (maxSteps:=1000000) +contextual -dsimp [f43,D2,g0,g1]
theorem a4l (x:Desk) (h:P3 x≤2097152):fo 34 [A (.agg (dT x)),A (.agg (dT x))]=some (R (vB true)):=by
 have g0:=e0m x.eng (by simp only[P3] at h;omega)
 have g1:=e8z x.claims (by simp only[P3] at h;omega)
 refine d0d 1 ?_
 simp (maxSteps:=1000000) +contextual -dsimp [f34,g0,g1]
theorem d2a (l:List Int):Q9 (l.map iV)=l.map iV:=iH (f:=iV) (g:=iV) (fun a=>by simp[V2,R4]) l
theorem dR (l:List Int):K1 (l.map iV)=true:=by
 induction l with
 | nil=>rfl
 | cons x l ih=>simp only[List.map_cons,K1,ih,Bool.and_true];simp[U9,clean]
theorem pM (l:List Node):Q9 (l.map nT)=l.map nT:=iH (f:=nT) (g:=nT) (fun a=>by simp[V2,R4]) l
theorem gX (l:List Node):K1 (l.map nT)=true:=by
 induction l with
 | nil=>rfl
 | cons x l ih=>simp only[List.map_cons,K1,ih,Bool.and_true];simp[U9,clean]
abbrev T6 (x:Step):List T:=[vI x.kind,vI x.parent,vS x.name,vI x.arg,.own 219 (x.cond.map nT),.own 219 (x.expr.map nT)]
theorem Ip (l:List Step):Q9 (l.map T6)=l.map (sT 219):=iH (f:=T6) (g:=(sT 219)) (fun a=>by simp[V2,R4,pM]) l
theorem uX (l:List Step):K1 (l.map T6)=true:=by
 induction l with
 | nil=>rfl
 | cons x l ih=>simp only[List.map_cons,K1,ih,Bool.and_true];simp[U9,clean,gX]
abbrev L1 (x:List Step):List T:=[.own 124 (x.map T6)]
theorem Av (l:List (List Step)):Q9 (l.map L1)=l.map (pT 124 219):=iH (f:=L1) (g:=(pT 124 219)) (fun a=>by simp[V2,R4,Ip]) l
theorem W5 (l:List (List Step)):K1 (l.map L1)=true:=by
 induction l with
 | nil=>rfl
 | cons x l ih=>simp only[List.map_cons,K1,ih,Bool.and_true];simp[U9,clean,uX]
abbrev d4e (x:Chart):List T:=[vI x.status,vI x.now,.own 2 (x.vars.map iV),.own 2 (x.acts.map iV),.own 2 (x.dues.map iV)]
abbrev P8 (x:Inst):List T:=[vI x.proc,vI x.chart.status,vI x.chart.now,.own 2 (x.chart.vars.map iV),.own 2 (x.chart.acts.map iV),.own 2 (x.chart.dues.map iV)]
theorem Be (l:List Inst):Q9 (l.map P8)=l.map xT:=iH (f:=P8) (g:=xT) (fun a=>by simp[V2,R4,d2a]) l
theorem V6 (l:List Inst):K1 (l.map P8)=true:=by
 induction l with
 | nil=>rfl
 | cons x l ih=>simp only[List.map_cons,K1,ih,Bool.and_true];simp[U9,clean,dR]
theorem Su (l:List Claim):Q9 (l.map kT)=l.map kT:=iH (f:=kT) (g:=kT) (fun a=>by simp[V2,R4]) l
theorem hC (l:List Claim):K1 (l.map kT)=true:=by
 induction l with
 | nil=>rfl
 | cons x l ih=>simp only[List.map_cons,K1,ih,Bool.and_true];simp[U9,clean]
abbrev uY (x:Engine):List T:=[.own 160 (x.procs.map L1),.own 163 (x.insts.map P8),vI x.now]
abbrev b8l (x:Desk):List T:=[.own 160 (x.eng.procs.map L1),.own 163 (x.eng.insts.map P8),vI x.eng.now,.own 150 (x.claims.map kT)]
abbrev e8p (x:EngR):List T:=[vI x.code,vI x.value,.own 160 (x.eng.procs.map L1),.own 163 (x.eng.insts.map P8),vI x.eng.now]
abbrev a8v (x:DeskR):List T:=[vI x.code,vI x.value,.own 160 (x.desk.eng.procs.map L1),.own 163 (x.desk.eng.insts.map P8),vI x.desk.eng.now,.own 150 (x.desk.claims.map kT)]
end Go.TM.Ft
