/- What functions of the program come to, by the machine. -/
import Derived.Test.YtlmiemdojgahaaaGreatJL11
set_option linter.unusedSimpArgs false
set_option linter.unusedVariables false
namespace Go.TM.Ft
open Go Go.TM Go.Proofs Go.Proofs.Tryz
set_option maxRecDepth 20000
attribute [local congr] K9
attribute [local simp] J8 K0 J0 J9 H3 J6 H4 G4 H5 G1
abbrev iV (n:Int):List T:=[vI n]
def B8 (left:Int) (w:Nat):Int:=if ltI (left - w) 0=true then -1 else left - w
theorem a1y {left:Int} {w:Nat} (c:ltI (B8 left w) 0=false):(w:Int)≤left∧B8 left w=left - w:=by
 unfold B8 at c ⊢
 split at c
 ·simp [ltI] at c
 ·rename_i h; rw [if_neg h]; simp [ltI] at h; exact ⟨by omega,rfl⟩
theorem a2j {left:Int} {w:Nat} (_h0:0≤left) (c:ltI (B8 left w) 0=true):left < (w:Int):=by
 unfold B8 at c
 split at c
 ·rename_i h; simp [ltI] at h; omega
 ·rename_i h; exact absurd c h
theorem a0g {left:Int} {w:Nat} (h:left < (w:Int)):B8 left w=-1:=by unfold B8; rw [if_pos (by simp [ltI]; omega)]
theorem b2c {left:Int} {w:Nat} (h:(w:Int)≤left):B8 left w=left - w:=by unfold B8; rw [if_neg (by simp [ltI]; omega)]
theorem c5g {left:Int} (h:0≤left):B8 left 0=left:=by rw [b2c (by simpa using h)]; simp
theorem b1p (left:Int) (a b:Nat):B8 left (a+b)=B8 (left - a) b:=by
 have e:left - ((a+b:Nat):Int)=left - a - b:=by omega
 unfold B8; rw [e]
def G8 (x:Step):Nat:=x.name.size+x.cond.length+x.expr.length
def b2d (x:Step):Prop:=x.name.size < 2 ^ 62∧x.cond.length < 2 ^ 62∧x.expr.length < 2 ^ 62
def N3:List Step→Nat
 | []=>0
 | x::r=>G8 x+N3 r
def a1u (l:List Step):Nat:=l.length+N3 l
theorem b3i {x:Step}:∀ {l:List Step},x∈l→G8 x≤N3 l
 | [],h=>by simp at h
 | y::l,h=>by
  unfold N3
  rcases List.mem_cons.1 h with rfl | h
  ·omega
  ·have:=b3i h; omega
def J4 (x:List Step):Nat:=a1u x
def b2e (x:List Step):Prop:=(x.length < 2 ^ 62∧∀ y,y∈x→b2d y)
def N0:List (List Step)→Nat
 | []=>0
 | x::r=>J4 x+N0 r
def P8 (l:List (List Step)):Nat:=l.length+N0 l
theorem b3j {x:List Step}:∀ {l:List (List Step)},x∈l→J4 x≤N0 l
 | [],h=>by simp at h
 | y::l,h=>by
  unfold N0
  rcases List.mem_cons.1 h with rfl | h
  ·omega
  ·have:=b3j h; omega
def K2 (x:Chart):Nat:=x.vars.length+x.acts.length+x.dues.length
def b7h (x:Chart):Prop:=x.vars.length < 2 ^ 62∧x.acts.length < 2 ^ 62∧x.dues.length < 2 ^ 62
def H9 (x:Inst):Nat:=K2 x.chart
def b4p (x:Inst):Prop:=b7h x.chart
def L3:List Inst→Nat
 | []=>0
 | x::r=>H9 x+L3 r
def Q9 (l:List Inst):Nat:=l.length+L3 l
theorem b3k {x:Inst}:∀ {l:List Inst},x∈l→H9 x≤L3 l
 | [],h=>by simp at h
 | y::l,h=>by
  unfold L3
  rcases List.mem_cons.1 h with rfl | h
  ·omega
  ·have:=b3k h; omega
def G7 (x:Engine):Nat:=P8 x.procs+Q9 x.insts
def c3d (x:Engine):Prop:=(x.procs.length < 2 ^ 62∧∀ y,y∈x.procs→b2e y)∧(x.insts.length < 2 ^ 62∧∀ y,y∈x.insts→b4p y)
theorem c3e (l:List Int) (left:Int) (h0:0≤left) (h1:left≤1048576) (hl:l.length < 2 ^ 62):fo 156 [A (.sl 2 (l.map iV)),A (vI left)]=some (R (vI (B8 left l.length))):=by
 have hw:IntKind.i64.wrap (left - l.length)=left - l.length:=by rw [A6] <;> omega
 refine g7t 1 ?_
 simp (maxSteps:=1000000) +contextual -dsimp [f156,B8,hw]
theorem d2y (l:List Node) (left:Int) (h0:0≤left) (h1:left≤1048576) (hl:l.length < 2 ^ 62):fo 155 [A (.sl 267 (l.map nT)),A (vI left)]=some (R (vI (B8 left l.length))):=by
 have hw:IntKind.i64.wrap (left - l.length)=left - l.length:=by rw [A6] <;> omega
 refine g7s 1 ?_
 simp (maxSteps:=1000000) +contextual -dsimp [f155,B8,hw]
theorem g4g (x:Step) (left:Int) (h0:0≤left) (h1:left≤1048576) (hf:b2d x):fo 68 [A (.agg (sT 267 x)),A (vI left)]=some (R (vI (B8 left (G8 x)))):=by
 unfold b2d at hf
 refine h3c 1 ?_
 have hw0:IntKind.i64.wrap (left - (x.name.size:Nat))=left - (x.name.size:Nat):=by have:=hf.1; rw [A6] <;> omega
 cases c0:ltI (left - (x.name.size:Nat)) 0
 ·have p0:((x.name.size:Nat):Int)≤left:=by simp [ltI] at c0; omega
  have g1:=d2y x.cond (left - (x.name.size:Nat)) (by omega) (by omega) hf.2.1
  cases c1:ltI (B8 (left - (x.name.size:Nat)) (x.cond.length)) 0
  ·obtain ⟨p1,e1⟩:=a1y c1
   rw [e1] at g1 c1
   have g2:=d2y x.expr (left - (x.name.size:Nat) - (x.cond.length:Nat)) (by omega) (by omega) hf.2.2
   cases c2:ltI (B8 (left - (x.name.size:Nat) - (x.cond.length:Nat)) (x.expr.length)) 0
   ·obtain ⟨p2,e2⟩:=a1y c2
    rw [e2] at g2 c2
    have hm:B8 left (G8 x)=left - (x.name.size:Nat) - (x.cond.length:Nat) - (x.expr.length:Nat):=by
     have:=b2c (left:=left) (w:=G8 x) (by simp only [G8]; omega)
     simp only [G8] at this ⊢; omega
    rw [hm]
    simp (maxSteps:=1000000) +contextual -dsimp [f68,hw0,g1,g2,c0,c1,c2]
   ·have n2:=a2j (by omega) c2
    have hm:B8 left (G8 x)=-1:=a0g (by simp only [G8]; omega)
    rw [hm]
    simp (maxSteps:=1000000) +contextual -dsimp [f68,hw0,g1,g2,c0,c1,c2]
  ·have n1:=a2j (by omega) c1
   have hm:B8 left (G8 x)=-1:=a0g (by simp only [G8]; omega)
   rw [hm]
   simp (maxSteps:=1000000) +contextual -dsimp [f68,hw0,g1,c0,c1]
 ·have hm:B8 left (G8 x)=-1:=a0g (by simp only [G8]; simp [ltI] at c0; omega)
  rw [hm]
  simp (maxSteps:=1000000) +contextual -dsimp [f68,hw0,c0]
theorem d6n (all:List Step) (hall:all.length≤1048576) (hf:∀ x,x∈all→b2d x):∀ (rest:List Step) (i:Nat) (left:Int),all.drop i=rest→0≤left→left≤1048576→
  A5 E (orc E) (13:Nat) (rest.length+1) (B3 f13 0) ⟨27,[(0,.sl 111 (all.map (sT 267))),(1,vI left),(5,vI i)],[],2⟩=
  (if ltI (B8 left (N3 rest)) 0=true then some (.ret,⟨27,[(4,vI (-1))],[],2⟩) else some (.exit 0,⟨27,[(0,.sl 111 (all.map (sT 267))),(1,vI (left - (N3 rest:Nat))),(5,vI (i+rest.length:Nat)),(15,vB false)],[],2⟩))
 | [],i,left,h,h0,h1=>by
  have hge:all.length≤i:=by simpa using h
  have hlt:ltI (i:Int) (all.length:Int)=false:=B7 (by omega)
  have hz:B8 left 0=left:=c5g h0
  have hn:ltI left 0=false:=B7 (by omega)
  rw [C2]
  simp +contextual -dsimp [f13,hlt,N3,hz,hn]
 | x::rest,i,left,h,h0,h1=>by
  obtain ⟨hi,hc,hr⟩:=C8 h
  have hlt:ltI (i:Int) (all.length:Int)=true:=C5 (by omega)
  have hw:IntKind.i64.wrap ((i:Int)+1)=((i+1:Nat):Int):=by rw [A6] <;> omega
  have he:i+1+rest.length=i+(rest.length+1):=by omega
  have g:=g4g x left h0 h1 (hf x (by rw [← hc]; exact List.getElem_mem _))
  have ha:B8 left (N3 (x::rest))=B8 (left - G8 x) (N3 rest):=b1p left (G8 x) (N3 rest)
  have hb:left - ((N3 (x::rest):Nat):Int)=left - G8 x - (N3 rest:Nat):=by simp only [N3]; omega
  cases c:ltI (B8 left (G8 x)) 0
  ·obtain ⟨p,e⟩:=a1y c
   rw [e] at g c
   have ih:=d6n all hall hf rest (i+1) (left - G8 x) hr (by omega) (by omega)
   rw [he] at ih
   rw [ha,hb]
   refine C0 ?_ (by simpa only [List.length_cons] using ih)
   simp (maxSteps:=1000000) +contextual -dsimp [f13,hlt,hi,hc,hw,g,c]
  ·have hn:=a2j h0 c
   have hm:ltI (B8 left (N3 (x::rest))) 0=true:=by rw [a0g (by simp only [N3]; omega)]; rfl
   rw [hm,if_pos rfl]
   refine D6 ?_ (by simp)
   simp (maxSteps:=1000000) +contextual -dsimp [f13,hlt,hi,hc,g,c]
theorem g1c (l:List Step) (left:Int) (h0:0≤left) (h1:left≤1048576) (hf:l.length < 2 ^ 62∧∀ y,y∈l→b2d y):fo 13 [A (.sl 111 (l.map (sT 267))),A (vI left)]=some (R (vI (B8 left (a1u l)))):=by
 have hl:=hf.1
 unfold a1u
 have hw:IntKind.i64.wrap (left - l.length)=left - l.length:=by rw [A6] <;> omega
 refine h2o (l.length+1) ?_
 cases c1:ltI (left - l.length) 0
 ·have p:(l.length:Int)≤left:=by simp [ltI] at c1; omega
  have hlp:=d6n l (by omega) hf.2 l 0 (left - l.length) rfl (by omega) (by omega)
  have ha:B8 left (l.length+N3 l)=B8 (left - l.length) (N3 l):=b1p left l.length (N3 l)
  rw [ha]
  simp -dsimp [f13] at hlp
  cases c2:ltI (B8 (left - l.length) (N3 l)) 0
  ·obtain ⟨p2,e2⟩:=a1y c2
   rw [c2] at hlp
   rw [e2]
   simp (maxSteps:=1000000) +contextual -dsimp [f13,hw,c1,hlp]
  ·rw [c2] at hlp
   have e2:B8 (left - l.length) (N3 l)=-1:=a0g (a2j (by omega) c2)
   rw [e2]
   simp (maxSteps:=1000000) +contextual -dsimp [f13,hw,c1,hlp]
 ·have hm:B8 left (l.length+N3 l)=-1:=a0g (by simp [ltI] at c1; omega)
  rw [hm]
  simp (maxSteps:=1000000) +contextual -dsimp [f13,hw,c1]
theorem g4h (x:List Step) (left:Int) (h0:0≤left) (h1:left≤1048576) (hf:b2e x):fo 179 [A (.agg (pT 111 267 x)),A (vI left)]=some (R (vI (B8 left (J4 x)))):=by
 unfold b2e at hf
 refine g8b 1 ?_
 have g0:=g1c x (left) (by omega) (by omega) hf
 cases c0:ltI (B8 (left) (a1u x)) 0
 ·obtain ⟨p0,e0⟩:=a1y c0
  rw [e0] at g0 c0
  have hm:B8 left (J4 x)=left - (a1u x:Nat):=by
   have:=b2c (left:=left) (w:=J4 x) (by simp only [J4]; omega)
   simp only [J4] at this ⊢; omega
  rw [hm]
  simp (maxSteps:=1000000) +contextual -dsimp [f179,g0,c0]
 ·have n0:=a2j (by omega) c0
  have hm:B8 left (J4 x)=-1:=a0g (by simp only [J4]; omega)
  rw [hm]
  simp (maxSteps:=1000000) +contextual -dsimp [f179,g0,c0]
theorem d6o (all:List (List Step)) (hall:all.length≤1048576) (hf:∀ x,x∈all→b2e x):∀ (rest:List (List Step)) (i:Nat) (left:Int),all.drop i=rest→0≤left→left≤1048576→
  A5 E (orc E) (105:Nat) (rest.length+1) (B3 f105 0) ⟨27,[(0,.sl 225 (all.map (pT 111 267))),(1,vI left),(5,vI i)],[],2⟩=
  (if ltI (B8 left (N0 rest)) 0=true then some (.ret,⟨27,[(4,vI (-1))],[],2⟩) else some (.exit 0,⟨27,[(0,.sl 225 (all.map (pT 111 267))),(1,vI (left - (N0 rest:Nat))),(5,vI (i+rest.length:Nat)),(15,vB false)],[],2⟩))
 | [],i,left,h,h0,h1=>by
  have hge:all.length≤i:=by simpa using h
  have hlt:ltI (i:Int) (all.length:Int)=false:=B7 (by omega)
  have hz:B8 left 0=left:=c5g h0
  have hn:ltI left 0=false:=B7 (by omega)
  rw [C2]
  simp +contextual -dsimp [f105,hlt,N0,hz,hn]
 | x::rest,i,left,h,h0,h1=>by
  obtain ⟨hi,hc,hr⟩:=C8 h
  have hlt:ltI (i:Int) (all.length:Int)=true:=C5 (by omega)
  have hw:IntKind.i64.wrap ((i:Int)+1)=((i+1:Nat):Int):=by rw [A6] <;> omega
  have he:i+1+rest.length=i+(rest.length+1):=by omega
  have g:=g4h x left h0 h1 (hf x (by rw [← hc]; exact List.getElem_mem _))
  have ha:B8 left (N0 (x::rest))=B8 (left - J4 x) (N0 rest):=b1p left (J4 x) (N0 rest)
  have hb:left - ((N0 (x::rest):Nat):Int)=left - J4 x - (N0 rest:Nat):=by simp only [N0]; omega
  cases c:ltI (B8 left (J4 x)) 0
  ·obtain ⟨p,e⟩:=a1y c
   rw [e] at g c
   have ih:=d6o all hall hf rest (i+1) (left - J4 x) hr (by omega) (by omega)
   rw [he] at ih
   rw [ha,hb]
   refine C0 ?_ (by simpa only [List.length_cons] using ih)
   simp (maxSteps:=1000000) +contextual -dsimp [f105,hlt,hi,hc,hw,g,c]
  ·have hn:=a2j h0 c
   have hm:ltI (B8 left (N0 (x::rest))) 0=true:=by rw [a0g (by simp only [N0]; omega)]; rfl
   rw [hm,if_pos rfl]
   refine D6 ?_ (by simp)
   simp (maxSteps:=1000000) +contextual -dsimp [f105,hlt,hi,hc,g,c]
theorem g1d (l:List (List Step)) (left:Int) (h0:0≤left) (h1:left≤1048576) (hf:l.length < 2 ^ 62∧∀ y,y∈l→b2e y):fo 105 [A (.sl 225 (l.map (pT 111 267))),A (vI left)]=some (R (vI (B8 left (P8 l)))):=by
 have hl:=hf.1
 unfold P8
 have hw:IntKind.i64.wrap (left - l.length)=left - l.length:=by rw [A6] <;> omega
 refine g6x (l.length+1) ?_
 cases c1:ltI (left - l.length) 0
 ·have p:(l.length:Int)≤left:=by simp [ltI] at c1; omega
  have hlp:=d6o l (by omega) hf.2 l 0 (left - l.length) rfl (by omega) (by omega)
  have ha:B8 left (l.length+N0 l)=B8 (left - l.length) (N0 l):=b1p left l.length (N0 l)
  rw [ha]
  simp -dsimp [f105] at hlp
  cases c2:ltI (B8 (left - l.length) (N0 l)) 0
  ·obtain ⟨p2,e2⟩:=a1y c2
   rw [c2] at hlp
   rw [e2]
   simp (maxSteps:=1000000) +contextual -dsimp [f105,hw,c1,hlp]
  ·rw [c2] at hlp
   have e2:B8 (left - l.length) (N0 l)=-1:=a0g (a2j (by omega) c2)
   rw [e2]
   simp (maxSteps:=1000000) +contextual -dsimp [f105,hw,c1,hlp]
 ·have hm:B8 left (l.length+N0 l)=-1:=a0g (by simp [ltI] at c1; omega)
  rw [hm]
  simp (maxSteps:=1000000) +contextual -dsimp [f105,hw,c1]
theorem g1e (x:Chart) (left:Int) (h0:0≤left) (h1:left≤1048576) (hf:b7h x):fo 241 [A (.agg (cT x)),A (vI left)]=some (R (vI (B8 left (K2 x)))):=by
 unfold b7h at hf
 refine g9l 1 ?_
 have g0:=c3e x.vars (left) (by omega) (by omega) hf.1
 cases c0:ltI (B8 (left) (x.vars.length)) 0
 ·obtain ⟨p0,e0⟩:=a1y c0
  rw [e0] at g0 c0
  have g1:=c3e x.acts (left - (x.vars.length:Nat)) (by omega) (by omega) hf.2.1
  cases c1:ltI (B8 (left - (x.vars.length:Nat)) (x.acts.length)) 0
  ·obtain ⟨p1,e1⟩:=a1y c1
   rw [e1] at g1 c1
   have g2:=c3e x.dues (left - (x.vars.length:Nat) - (x.acts.length:Nat)) (by omega) (by omega) hf.2.2
   cases c2:ltI (B8 (left - (x.vars.length:Nat) - (x.acts.length:Nat)) (x.dues.length)) 0
   ·obtain ⟨p2,e2⟩:=a1y c2
    rw [e2] at g2 c2
    have hm:B8 left (K2 x)=left - (x.vars.length:Nat) - (x.acts.length:Nat) - (x.dues.length:Nat):=by
     have:=b2c (left:=left) (w:=K2 x) (by simp only [K2]; omega)
     simp only [K2] at this ⊢; omega
    rw [hm]
    simp (maxSteps:=1000000) +contextual -dsimp [f241,g0,g1,g2,c0,c1,c2]
   ·have n2:=a2j (by omega) c2
    have hm:B8 left (K2 x)=-1:=a0g (by simp only [K2]; omega)
    rw [hm]
    simp (maxSteps:=1000000) +contextual -dsimp [f241,g0,g1,g2,c0,c1,c2]
  ·have n1:=a2j (by omega) c1
   have hm:B8 left (K2 x)=-1:=a0g (by simp only [K2]; omega)
   rw [hm]
   simp (maxSteps:=1000000) +contextual -dsimp [f241,g0,g1,c0,c1]
 ·have n0:=a2j (by omega) c0
  have hm:B8 left (K2 x)=-1:=a0g (by simp only [K2]; omega)
  rw [hm]
  simp (maxSteps:=1000000) +contextual -dsimp [f241,g0,c0]
theorem g4i (x:Inst) (left:Int) (h0:0≤left) (h1:left≤1048576) (hf:b4p x):fo 180 [A (.agg (xT x)),A (vI left)]=some (R (vI (B8 left (H9 x)))):=by
 unfold b4p at hf
 refine g8c 1 ?_
 have g0:=g1e x.chart (left) (by omega) (by omega) hf
 cases c0:ltI (B8 (left) (K2 x.chart)) 0
 ·obtain ⟨p0,e0⟩:=a1y c0
  rw [e0] at g0 c0
  have hm:B8 left (H9 x)=left - (K2 x.chart:Nat):=by
   have:=b2c (left:=left) (w:=H9 x) (by simp only [H9]; omega)
   simp only [H9] at this ⊢; omega
  rw [hm]
  simp (maxSteps:=1000000) +contextual -dsimp [f180,g0,c0]
 ·have n0:=a2j (by omega) c0
  have hm:B8 left (H9 x)=-1:=a0g (by simp only [H9]; omega)
  rw [hm]
  simp (maxSteps:=1000000) +contextual -dsimp [f180,g0,c0]
theorem d6p (all:List Inst) (hall:all.length≤1048576) (hf:∀ x,x∈all→b4p x):∀ (rest:List Inst) (i:Nat) (left:Int),all.drop i=rest→0≤left→left≤1048576→
  A5 E (orc E) (106:Nat) (rest.length+1) (B3 f106 0) ⟨27,[(0,.sl 229 (all.map xT)),(1,vI left),(5,vI i)],[],2⟩=
  (if ltI (B8 left (L3 rest)) 0=true then some (.ret,⟨27,[(4,vI (-1))],[],2⟩) else some (.exit 0,⟨27,[(0,.sl 229 (all.map xT)),(1,vI (left - (L3 rest:Nat))),(5,vI (i+rest.length:Nat)),(15,vB false)],[],2⟩))
 | [],i,left,h,h0,h1=>by
  have hge:all.length≤i:=by simpa using h
  have hlt:ltI (i:Int) (all.length:Int)=false:=B7 (by omega)
  have hz:B8 left 0=left:=c5g h0
  have hn:ltI left 0=false:=B7 (by omega)
  rw [C2]
  simp +contextual -dsimp [f106,hlt,L3,hz,hn]
 | x::rest,i,left,h,h0,h1=>by
  obtain ⟨hi,hc,hr⟩:=C8 h
  have hlt:ltI (i:Int) (all.length:Int)=true:=C5 (by omega)
  have hw:IntKind.i64.wrap ((i:Int)+1)=((i+1:Nat):Int):=by rw [A6] <;> omega
  have he:i+1+rest.length=i+(rest.length+1):=by omega
  have g:=g4i x left h0 h1 (hf x (by rw [← hc]; exact List.getElem_mem _))
  have ha:B8 left (L3 (x::rest))=B8 (left - H9 x) (L3 rest):=b1p left (H9 x) (L3 rest)
  have hb:left - ((L3 (x::rest):Nat):Int)=left - H9 x - (L3 rest:Nat):=by simp only [L3]; omega
  cases c:ltI (B8 left (H9 x)) 0
  ·obtain ⟨p,e⟩:=a1y c
   rw [e] at g c
   have ih:=d6p all hall hf rest (i+1) (left - H9 x) hr (by omega) (by omega)
   rw [he] at ih
   rw [ha,hb]
   refine C0 ?_ (by simpa only [List.length_cons] using ih)
   simp (maxSteps:=1000000) +contextual -dsimp [f106,hlt,hi,hc,hw,g,c]
  ·have hn:=a2j h0 c
   have hm:ltI (B8 left (L3 (x::rest))) 0=true:=by rw [a0g (by simp only [L3]; omega)]; rfl
   rw [hm,if_pos rfl]
   refine D6 ?_ (by simp)
   simp (maxSteps:=1000000) +contextual -dsimp [f106,hlt,hi,hc,g,c]
theorem g1f (l:List Inst) (left:Int) (h0:0≤left) (h1:left≤1048576) (hf:l.length < 2 ^ 62∧∀ y,y∈l→b4p y):fo 106 [A (.sl 229 (l.map xT)),A (vI left)]=some (R (vI (B8 left (Q9 l)))):=by
 have hl:=hf.1
 unfold Q9
 have hw:IntKind.i64.wrap (left - l.length)=left - l.length:=by rw [A6] <;> omega
 refine g6y (l.length+1) ?_
 cases c1:ltI (left - l.length) 0
 ·have p:(l.length:Int)≤left:=by simp [ltI] at c1; omega
  have hlp:=d6p l (by omega) hf.2 l 0 (left - l.length) rfl (by omega) (by omega)
  have ha:B8 left (l.length+L3 l)=B8 (left - l.length) (L3 l):=b1p left l.length (L3 l)
  rw [ha]
  simp -dsimp [f106] at hlp
  cases c2:ltI (B8 (left - l.length) (L3 l)) 0
  ·obtain ⟨p2,e2⟩:=a1y c2
   rw [c2] at hlp
   rw [e2]
   simp (maxSteps:=1000000) +contextual -dsimp [f106,hw,c1,hlp]
  ·rw [c2] at hlp
   have e2:B8 (left - l.length) (L3 l)=-1:=a0g (a2j (by omega) c2)
   rw [e2]
   simp (maxSteps:=1000000) +contextual -dsimp [f106,hw,c1,hlp]
 ·have hm:B8 left (l.length+L3 l)=-1:=a0g (by simp [ltI] at c1; omega)
  rw [hm]
  simp (maxSteps:=1000000) +contextual -dsimp [f106,hw,c1]
theorem f9j (x:Engine) (left:Int) (h0:0≤left) (h1:left≤1048576) (hf:c3d x):fo 38 [A (.agg (eTl x)),A (vI left)]=some (R (vI (B8 left (G7 x)))):=by
 unfold c3d at hf
 refine h2v 1 ?_
 have g0:=g1d x.procs (left) (by omega) (by omega) hf.1
 cases c0:ltI (B8 (left) (P8 x.procs)) 0
 ·obtain ⟨p0,e0⟩:=a1y c0
  rw [e0] at g0 c0
  have g1:=g1f x.insts (left - (P8 x.procs:Nat)) (by omega) (by omega) hf.2
  cases c1:ltI (B8 (left - (P8 x.procs:Nat)) (Q9 x.insts)) 0
  ·obtain ⟨p1,e1⟩:=a1y c1
   rw [e1] at g1 c1
   have hm:B8 left (G7 x)=left - (P8 x.procs:Nat) - (Q9 x.insts:Nat):=by
    have:=b2c (left:=left) (w:=G7 x) (by simp only [G7]; omega)
    simp only [G7] at this ⊢; omega
   rw [hm]
   simp (maxSteps:=1000000) +contextual -dsimp [f38,g0,g1,c0,c1]
  ·have n1:=a2j (by omega) c1
   have hm:B8 left (G7 x)=-1:=a0g (by simp only [G7]; omega)
   rw [hm]
   simp (maxSteps:=1000000) +contextual -dsimp [f38,g0,g1,c0,c1]
 ·have n0:=a2j (by omega) c0
  have hm:B8 left (G7 x)=-1:=a0g (by simp only [G7]; omega)
  rw [hm]
  simp (maxSteps:=1000000) +contextual -dsimp [f38,g0,c0]
theorem e9r (all:List Int) (hall:all.length≤2097152):∀ (rest:List Int) (i:Nat),all.drop i=rest→
  A5 E (orc E) (22:Nat) (rest.length+1) (B3 f22 0) ⟨26,[(0,.sl 2 (all.map iV)),(1,.sl 2 (all.map iV)),(5,vI i)],[],2⟩=
  some (.exit 0,⟨26,[(0,.sl 2 (all.map iV)),(1,.sl 2 (all.map iV)),(5,vI (i+rest.length:Nat)),(14,vB false)],[],2⟩)
 | [],i,h=>by
  have hge:all.length≤i:=by simpa using h
  have hlt:ltI (i:Int) (all.length:Int)=false:=B7 (by omega)
  rw [C2]
  simp +contextual -dsimp [f22,hlt]
 | x::rest,i,h=>by
  obtain ⟨hi,hc,hr⟩:=C8 h
  have hlt:ltI (i:Int) (all.length:Int)=true:=C5 (by omega)
  have hw:IntKind.i64.wrap ((i:Int)+1)=((i+1:Nat):Int):=by rw [A6] <;> omega
  have ih:=e9r all hall rest (i+1) hr
  have he:i+1+rest.length=i+(rest.length+1):=by omega
  rw [he] at ih
  refine C0 ?_ (by simpa only [List.length_cons] using ih)
  simp (maxSteps:=1000000) +contextual -dsimp [f22,hlt,hi,hc,hw,C1]
theorem c3f (l:List Int) (hl:l.length≤2097152):fo 22 [A (.sl 2 (l.map iV)),A (.sl 2 (l.map iV))]=some (R (vB true)):=by
 have hlp:=e9r l hl l 0 rfl
 refine h2s (l.length+1) ?_
 simp -dsimp [f22] at hlp
 simp (maxSteps:=1000000) +contextual -dsimp [f22,hlp,C1]
theorem g4j (x:Node):fo 240 [A (.agg (nT x)),A (.agg (nT x))]=some (R (vB true)):=by
 refine g9k 1 ?_
 simp (maxSteps:=1000000) +contextual -dsimp [f240,C1]
theorem d6q (all:List Node) (hall:all.length≤2097152):∀ (rest:List Node) (i:Nat),all.drop i=rest→
  A5 E (orc E) (173:Nat) (rest.length+1) (B3 f173 0) ⟨27,[(0,.sl 219 (all.map nT)),(1,.sl 219 (all.map nT)),(5,vI i)],[],2⟩=
  some (.exit 0,⟨27,[(0,.sl 219 (all.map nT)),(1,.sl 219 (all.map nT)),(5,vI (i+rest.length:Nat)),(14,vB false)],[],2⟩)
 | [],i,h=>by
  have hge:all.length≤i:=by simpa using h
  have hlt:ltI (i:Int) (all.length:Int)=false:=B7 (by omega)
  rw [C2]
  simp +contextual -dsimp [f173,hlt]
 | x::rest,i,h=>by
  obtain ⟨hi,hc,hr⟩:=C8 h
  have hlt:ltI (i:Int) (all.length:Int)=true:=C5 (by omega)
  have hw:IntKind.i64.wrap ((i:Int)+1)=((i+1:Nat):Int):=by rw [A6] <;> omega
  have ih:=d6q all hall rest (i+1) hr
  have he:i+1+rest.length=i+(rest.length+1):=by omega
  rw [he] at ih
  have g:=g4j x
  refine C0 ?_ (by simpa only [List.length_cons] using ih)
  simp (maxSteps:=1000000) +contextual -dsimp [f173,hlt,hi,hc,hw,g]
theorem d2z (l:List Node) (hl:l.length≤2097152):fo 173 [A (.sl 219 (l.map nT)),A (.sl 219 (l.map nT))]=some (R (vB true)):=by
 have hlp:=d6q l hl l 0 rfl
 refine g8a (l.length+1) ?_
 simp -dsimp [f173] at hlp
 simp (maxSteps:=1000000) +contextual -dsimp [f173,hlp,C1]
theorem g4k (x:Step) (h:G8 x≤2097152):fo 83 [A (.agg (sT 219 x)),A (.agg (sT 219 x))]=some (R (vB true)):=by
 have g4:=d2z x.cond (by simp only [G8] at h; omega)
 have g5:=d2z x.expr (by simp only [G8] at h; omega)
 refine h3f 1 ?_
 simp (maxSteps:=1000000) +contextual -dsimp [f83,C1,a9y,g4,g5]
theorem d6r (all:List Step) (hall:all.length≤2097152) (hf:∀ x,x∈all→G8 x≤2097152):∀ (rest:List Step) (i:Nat),all.drop i=rest→
  A5 E (orc E) (21:Nat) (rest.length+1) (B3 f21 0) ⟨27,[(0,.sl 124 (all.map (sT 219))),(1,.sl 124 (all.map (sT 219))),(5,vI i)],[],2⟩=
  some (.exit 0,⟨27,[(0,.sl 124 (all.map (sT 219))),(1,.sl 124 (all.map (sT 219))),(5,vI (i+rest.length:Nat)),(14,vB false)],[],2⟩)
 | [],i,h=>by
  have hge:all.length≤i:=by simpa using h
  have hlt:ltI (i:Int) (all.length:Int)=false:=B7 (by omega)
  rw [C2]
  simp +contextual -dsimp [f21,hlt]
 | x::rest,i,h=>by
  obtain ⟨hi,hc,hr⟩:=C8 h
  have hlt:ltI (i:Int) (all.length:Int)=true:=C5 (by omega)
  have hw:IntKind.i64.wrap ((i:Int)+1)=((i+1:Nat):Int):=by rw [A6] <;> omega
  have ih:=d6r all hall hf rest (i+1) hr
  have he:i+1+rest.length=i+(rest.length+1):=by omega
  rw [he] at ih
  have g:=g4k x (hf x (by rw [← hc]; exact List.getElem_mem _))
  refine C0 ?_ (by simpa only [List.length_cons] using ih)
  simp (maxSteps:=1000000) +contextual -dsimp [f21,hlt,hi,hc,hw,g]
theorem g1g (l:List Step) (hl:l.length≤2097152) (hf:∀ x,x∈l→G8 x≤2097152):fo 21 [A (.sl 124 (l.map (sT 219))),A (.sl 124 (l.map (sT 219)))]=some (R (vB true)):=by
 have hlp:=d6r l hl hf l 0 rfl
 refine h2r (l.length+1) ?_
 simp -dsimp [f21] at hlp
 simp (maxSteps:=1000000) +contextual -dsimp [f21,hlp,C1]
theorem g4l (x:List Step) (h:J4 x≤2097152):fo 189 [A (.agg (pT 124 219 x)),A (.agg (pT 124 219 x))]=some (R (vB true)):=by
 have g0:=g1g x (by simp only [J4,a1u] at h; omega) (fun y hy=>by have:=b3i hy; simp only [J4,a1u] at h; omega)
 refine g8j 1 ?_
 simp (maxSteps:=1000000) +contextual -dsimp [f189,g0]
theorem d6s (all:List (List Step)) (hall:all.length≤2097152) (hf:∀ x,x∈all→J4 x≤2097152):∀ (rest:List (List Step)) (i:Nat),all.drop i=rest→
  A5 E (orc E) (117:Nat) (rest.length+1) (B3 f117 0) ⟨27,[(0,.sl 160 (all.map (pT 124 219))),(1,.sl 160 (all.map (pT 124 219))),(5,vI i)],[],2⟩=
  some (.exit 0,⟨27,[(0,.sl 160 (all.map (pT 124 219))),(1,.sl 160 (all.map (pT 124 219))),(5,vI (i+rest.length:Nat)),(14,vB false)],[],2⟩)
 | [],i,h=>by
  have hge:all.length≤i:=by simpa using h
  have hlt:ltI (i:Int) (all.length:Int)=false:=B7 (by omega)
  rw [C2]
  simp +contextual -dsimp [f117,hlt]
 | x::rest,i,h=>by
  obtain ⟨hi,hc,hr⟩:=C8 h
  have hlt:ltI (i:Int) (all.length:Int)=true:=C5 (by omega)
  have hw:IntKind.i64.wrap ((i:Int)+1)=((i+1:Nat):Int):=by rw [A6] <;> omega
  have ih:=d6s all hall hf rest (i+1) hr
  have he:i+1+rest.length=i+(rest.length+1):=by omega
  rw [he] at ih
  have g:=g4l x (hf x (by rw [← hc]; exact List.getElem_mem _))
  refine C0 ?_ (by simpa only [List.length_cons] using ih)
  simp (maxSteps:=1000000) +contextual -dsimp [f117,hlt,hi,hc,hw,g]
theorem g1h (l:List (List Step)) (hl:l.length≤2097152) (hf:∀ x,x∈l→J4 x≤2097152):fo 117 [A (.sl 160 (l.map (pT 124 219))),A (.sl 160 (l.map (pT 124 219)))]=some (R (vB true)):=by
 have hlp:=d6s l hl hf l 0 rfl
 refine g7j (l.length+1) ?_
 simp -dsimp [f117] at hlp
 simp (maxSteps:=1000000) +contextual -dsimp [f117,hlp,C1]
theorem g1i (x:Chart) (h:K2 x≤2097152):fo 82 [A (.agg (cT x)),A (.agg (cT x))]=some (R (vB true)):=by
 have g2:=c3f x.vars (by simp only [K2] at h; omega)
 have g3:=c3f x.acts (by simp only [K2] at h; omega)
 have g4:=c3f x.dues (by simp only [K2] at h; omega)
 refine h3e 1 ?_
 simp (maxSteps:=1000000) +contextual -dsimp [f82,C1,g2,g3,g4]
theorem g4m (x:Inst) (h:H9 x≤2097152):fo 190 [A (.agg (xT x)),A (.agg (xT x))]=some (R (vB true)):=by
 have g1:=g1i x.chart (by simp only [H9] at h; omega)
 refine g8k 1 ?_
 simp (maxSteps:=1000000) +contextual -dsimp [f190,C1,g1]
theorem d6t (all:List Inst) (hall:all.length≤2097152) (hf:∀ x,x∈all→H9 x≤2097152):∀ (rest:List Inst) (i:Nat),all.drop i=rest→
  A5 E (orc E) (118:Nat) (rest.length+1) (B3 f118 0) ⟨27,[(0,.sl 163 (all.map xT)),(1,.sl 163 (all.map xT)),(5,vI i)],[],2⟩=
  some (.exit 0,⟨27,[(0,.sl 163 (all.map xT)),(1,.sl 163 (all.map xT)),(5,vI (i+rest.length:Nat)),(14,vB false)],[],2⟩)
 | [],i,h=>by
  have hge:all.length≤i:=by simpa using h
  have hlt:ltI (i:Int) (all.length:Int)=false:=B7 (by omega)
  rw [C2]
  simp +contextual -dsimp [f118,hlt]
 | x::rest,i,h=>by
  obtain ⟨hi,hc,hr⟩:=C8 h
  have hlt:ltI (i:Int) (all.length:Int)=true:=C5 (by omega)
  have hw:IntKind.i64.wrap ((i:Int)+1)=((i+1:Nat):Int):=by rw [A6] <;> omega
  have ih:=d6t all hall hf rest (i+1) hr
  have he:i+1+rest.length=i+(rest.length+1):=by omega
  rw [he] at ih
  have g:=g4m x (hf x (by rw [← hc]; exact List.getElem_mem _))
  refine C0 ?_ (by simpa only [List.length_cons] using ih)
  simp (maxSteps:=1000000) +contextual -dsimp [f118,hlt,hi,hc,hw,g]
theorem g1j (l:List Inst) (hl:l.length≤2097152) (hf:∀ x,x∈l→H9 x≤2097152):fo 118 [A (.sl 163 (l.map xT)),A (.sl 163 (l.map xT))]=some (R (vB true)):=by
 have hlp:=d6t l hl hf l 0 rfl
 refine g7k (l.length+1) ?_
 simp -dsimp [f118] at hlp
 simp (maxSteps:=1000000) +contextual -dsimp [f118,hlp,C1]
theorem d0w (x:Engine) (h:G7 x≤2097152):fo 43 [A (.agg (eT x)),A (.agg (eT x))]=some (R (vB true)):=by
 have g0:=g1h x.procs (by simp only [G7,P8] at h; omega) (fun y hy=>by have:=b3j hy; simp only [G7,P8] at h; omega)
 have g1:=g1j x.insts (by simp only [G7,Q9] at h; omega) (fun y hy=>by have:=b3k hy; simp only [G7,Q9] at h; omega)
 refine h2y 1 ?_
 simp (maxSteps:=1000000) +contextual -dsimp [f43,C1,g0,g1]
theorem f7z (l:List Int):L6 (l.map iV)=l.map iV:=a4y (f:=iV) (g:=iV) (fun a=>by simp [O5,L9]) l
theorem a6a (l:List Int):H7 (l.map iV)=true:=by
 induction l with
 | nil=>rfl
 | cons x l ih=>simp only [List.map_cons,H7,ih,Bool.and_true]; simp [P1,clean]
theorem c8m (l:List Node):L6 (l.map nT)=l.map nT:=a4y (f:=nT) (g:=nT) (fun a=>by simp [O5,L9]) l
theorem a9s (l:List Node):H7 (l.map nT)=true:=by
 induction l with
 | nil=>rfl
 | cons x l ih=>simp only [List.map_cons,H7,ih,Bool.and_true]; simp [P1,clean]
abbrev M5 (x:Step):List T:=[vI x.kind,vI x.parent,vS x.name,vI x.arg,.own 219 (x.cond.map nT),.own 219 (x.expr.map nT)]
theorem b9e (l:List Step):L6 (l.map M5)=l.map (sT 219):=a4y (f:=M5) (g:=(sT 219)) (fun a=>by simp [O5,L9,c8m]) l
theorem b1e (l:List Step):H7 (l.map M5)=true:=by
 induction l with
 | nil=>rfl
 | cons x l ih=>simp only [List.map_cons,H7,ih,Bool.and_true]; simp [P1,clean,a9s]
abbrev J2 (x:List Step):List T:=[.own 124 (x.map M5)]
theorem b9f (l:List (List Step)):L6 (l.map J2)=l.map (pT 124 219):=a4y (f:=J2) (g:=(pT 124 219)) (fun a=>by simp [O5,L9,b9e]) l
theorem a4c (l:List (List Step)):H7 (l.map J2)=true:=by
 induction l with
 | nil=>rfl
 | cons x l ih=>simp only [List.map_cons,H7,ih,Bool.and_true]; simp [P1,clean,b1e]
abbrev h3v (x:Chart):List T:=[vI x.status,vI x.now,.own 2 (x.vars.map iV),.own 2 (x.acts.map iV),.own 2 (x.dues.map iV)]
abbrev L8 (x:Inst):List T:=[vI x.proc,vI x.chart.status,vI x.chart.now,.own 2 (x.chart.vars.map iV),.own 2 (x.chart.acts.map iV),.own 2 (x.chart.dues.map iV)]
theorem b9g (l:List Inst):L6 (l.map L8)=l.map xT:=a4y (f:=L8) (g:=xT) (fun a=>by simp [O5,L9,f7z]) l
theorem a5y (l:List Inst):H7 (l.map L8)=true:=by
 induction l with
 | nil=>rfl
 | cons x l ih=>simp only [List.map_cons,H7,ih,Bool.and_true]; simp [P1,clean,a6a]
abbrev b1w (x:Engine):List T:=[.own 160 (x.procs.map J2),.own 163 (x.insts.map L8),vI x.now]
abbrev c8d (x:EngR):List T:=[vI x.code,vI x.value,.own 160 (x.eng.procs.map J2),.own 163 (x.eng.insts.map L8),vI x.eng.now]
end Go.TM.Ft
