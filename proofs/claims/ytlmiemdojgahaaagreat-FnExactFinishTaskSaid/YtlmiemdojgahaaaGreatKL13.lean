/- What functions of the program come to, by the machine. -/
import Derived.Test.YtlmiemdojgahaaaGreatKL12
import Derived.Test.YtlmiemdojgahaaaGreatKL8
set_option linter.unusedSimpArgs false
set_option linter.unusedVariables false
namespace Go.TM.Ft
open Go Go.TM
structure EngR where
 code:Int
 value:Int
 eng:Engine
abbrev erT (p:EngR):List T:=[vI p.code,vI p.value,.sl 160 (p.eng.procs.map (pT 124 219)),.sl 163 (p.eng.insts.map xT),vI p.eng.now]
structure DeskR where
 code:Int
 value:Int
 desk:Desk
abbrev drT (p:DeskR):List T:=[vI p.code,vI p.value,.sl 160 (p.desk.eng.procs.map (pT 124 219)),.sl 163 (p.desk.eng.insts.map xT),vI p.desk.eng.now,.sl 150 (p.desk.claims.map kT)]
open Go Go.TM Go.Proofs
set_option maxRecDepth 20000
attribute [local congr] M0
attribute [local simp] K2 K6 J4 K3 H7 J9 H8 G9 J1 G3
end Go.TM.Ft
namespace Go.TM.Ft
open Go Go.TM Go.Proofs
abbrev eTl (e:Engine):List T:=[.sl 225 (e.procs.map (pT 111 267)),.sl 229 (e.insts.map xT),vI e.now]
abbrev dTl (d:Desk):List T:=[.sl 225 (d.eng.procs.map (pT 111 267)),.sl 229 (d.eng.insts.map xT),vI d.eng.now,.sl 222 (d.claims.map kT)]
set_option maxRecDepth 20000
attribute [local congr] M0
attribute [local simp] K2 K6 J4 K3 H7 J9 H8 G9 J1 G3
abbrev iV (n:Int):List T:=[vI n]
def B8 (left:Int) (w:Nat):Int:=if ltI (left - w) 0=true then -1 else left - w
theorem a0u {left:Int} {w:Nat} (c:ltI (B8 left w) 0=false):(w:Int)≤left∧B8 left w=left - w:=by
 unfold B8 at c ⊢
 split at c
 ·simp [ltI] at c
 ·rename_i h; rw [if_neg h]; simp [ltI] at h; exact ⟨by omega,rfl⟩
theorem a1j {left:Int} {w:Nat} (_h0:0≤left) (c:ltI (B8 left w) 0=true):left < (w:Int):=by
 unfold B8 at c
 split at c
 ·rename_i h; simp [ltI] at h; omega
 ·rename_i h; exact absurd c h
theorem U7 {left:Int} {w:Nat} (h:left < (w:Int)):B8 left w=-1:=by unfold B8; rw [if_pos (by simp [ltI]; omega)]
theorem b0x {left:Int} {w:Nat} (h:(w:Int)≤left):B8 left w=left - w:=by unfold B8; rw [if_neg (by simp [ltI]; omega)]
theorem c7z {left:Int} (h:0≤left):B8 left 0=left:=by rw [b0x (by simpa using h)]; simp
theorem b2i (left:Int) (a b:Nat):B8 left (a+b)=B8 (left - a) b:=by
 have e:left - ((a+b:Nat):Int)=left - a - b:=by omega
 unfold B8; rw [e]
def H0 (x:Step):Nat:=x.name.size+x.cond.length+x.expr.length
def b2y (x:Step):Prop:=x.name.size < 2 ^ 62∧x.cond.length < 2 ^ 62∧x.expr.length < 2 ^ 62
def O9:List Step→Nat
 | []=>0
 | x::r=>H0 x+O9 r
def a1z (l:List Step):Nat:=l.length+O9 l
theorem b4j {x:Step}:∀ {l:List Step},x∈l→H0 x≤O9 l
 | [],h=>by simp at h
 | y::l,h=>by
  unfold O9
  rcases List.mem_cons.1 h with rfl | h
  ·omega
  ·have:=b4j h; omega
def J5 (x:List Step):Nat:=a1z x
def b2z (x:List Step):Prop:=(x.length < 2 ^ 62∧∀ y,y∈x→b2y y)
def N1:List (List Step)→Nat
 | []=>0
 | x::r=>J5 x+N1 r
def Q7 (l:List (List Step)):Nat:=l.length+N1 l
theorem b4k {x:List Step}:∀ {l:List (List Step)},x∈l→J5 x≤N1 l
 | [],h=>by simp at h
 | y::l,h=>by
  unfold N1
  rcases List.mem_cons.1 h with rfl | h
  ·omega
  ·have:=b4k h; omega
def J2 (x:Chart):Nat:=x.vars.length+x.acts.length+x.dues.length
def b8x (x:Chart):Prop:=x.vars.length < 2 ^ 62∧x.acts.length < 2 ^ 62∧x.dues.length < 2 ^ 62
def H9 (x:Inst):Nat:=J2 x.chart
def b5w (x:Inst):Prop:=b8x x.chart
def L1:List Inst→Nat
 | []=>0
 | x::r=>H9 x+L1 r
def U8 (l:List Inst):Nat:=l.length+L1 l
theorem b4l {x:Inst}:∀ {l:List Inst},x∈l→H9 x≤L1 l
 | [],h=>by simp at h
 | y::l,h=>by
  unfold L1
  rcases List.mem_cons.1 h with rfl | h
  ·omega
  ·have:=b4l h; omega
def D8 (x:Engine):Nat:=Q7 x.procs+U8 x.insts
def b8h (x:Engine):Prop:=(x.procs.length < 2 ^ 62∧∀ y,y∈x.procs→b2z y)∧(x.insts.length < 2 ^ 62∧∀ y,y∈x.insts→b5w y)
def K9 (x:Desk):Nat:=D8 x.eng+x.claims.length
def c8a (x:Desk):Prop:=b8h x.eng∧x.claims.length < 2 ^ 62
theorem c5c (l:List Int) (left:Int) (h0:0≤left) (h1:left≤1048576) (hl:l.length < 2 ^ 62):fo 156 [A (.sl 2 (l.map iV)),A (vI left)]=some (R (vI (B8 left l.length))):=by
 have hw:IntKind.i64.wrap (left - l.length)=left - l.length:=by rw [A5] <;> omega
 refine h6z 1 ?_
 simp (maxSteps:=1000000) +contextual -dsimp [Tryz.f156,B8,hw]
theorem d6u (l:List Node) (left:Int) (h0:0≤left) (h1:left≤1048576) (hl:l.length < 2 ^ 62):fo 155 [A (.sl 267 (l.map nT)),A (vI left)]=some (R (vI (B8 left l.length))):=by
 have hw:IntKind.i64.wrap (left - l.length)=left - l.length:=by rw [A5] <;> omega
 refine h6y 1 ?_
 simp (maxSteps:=1000000) +contextual -dsimp [Tryz.f155,B8,hw]
theorem h2z (x:Step) (left:Int) (h0:0≤left) (h1:left≤1048576) (hf:b2y x):fo 68 [A (.agg (sT 267 x)),A (vI left)]=some (R (vI (B8 left (H0 x)))):=by
 unfold b2y at hf
 refine i3k 1 ?_
 have hw0:IntKind.i64.wrap (left - (x.name.size:Nat))=left - (x.name.size:Nat):=by have:=hf.1; rw [A5] <;> omega
 cases c0:ltI (left - (x.name.size:Nat)) 0
 ·have p0:((x.name.size:Nat):Int)≤left:=by simp [ltI] at c0; omega
  have g1:=d6u x.cond (left - (x.name.size:Nat)) (by omega) (by omega) hf.2.1
  cases c1:ltI (B8 (left - (x.name.size:Nat)) (x.cond.length)) 0
  ·obtain ⟨p1,e1⟩:=a0u c1
   rw [e1] at g1 c1
   have g2:=d6u x.expr (left - (x.name.size:Nat) - (x.cond.length:Nat)) (by omega) (by omega) hf.2.2
   cases c2:ltI (B8 (left - (x.name.size:Nat) - (x.cond.length:Nat)) (x.expr.length)) 0
   ·obtain ⟨p2,e2⟩:=a0u c2
    rw [e2] at g2 c2
    have hm:B8 left (H0 x)=left - (x.name.size:Nat) - (x.cond.length:Nat) - (x.expr.length:Nat):=by
     have:=b0x (left:=left) (w:=H0 x) (by simp only [H0]; omega)
     simp only [H0] at this ⊢; omega
    rw [hm]
    simp (maxSteps:=1000000) +contextual -dsimp [Tryz.f68,hw0,g1,g2,c0,c1,c2]
   ·have n2:=a1j (by omega) c2
    have hm:B8 left (H0 x)=-1:=U7 (by simp only [H0]; omega)
    rw [hm]
    simp (maxSteps:=1000000) +contextual -dsimp [Tryz.f68,hw0,g1,g2,c0,c1,c2]
  ·have n1:=a1j (by omega) c1
   have hm:B8 left (H0 x)=-1:=U7 (by simp only [H0]; omega)
   rw [hm]
   simp (maxSteps:=1000000) +contextual -dsimp [Tryz.f68,hw0,g1,c0,c1]
 ·have hm:B8 left (H0 x)=-1:=U7 (by simp only [H0]; simp [ltI] at c0; omega)
  rw [hm]
  simp (maxSteps:=1000000) +contextual -dsimp [Tryz.f68,hw0,c0]
theorem e0t (all:List Step) (hall:all.length≤1048576) (hf:∀ x,x∈all→b2y x):∀ (rest:List Step) (i:Nat) (left:Int),all.drop i=rest→0≤left→left≤1048576→
  A6 E (orc E) (13:Nat) (rest.length+1) (A8 Tryz.f13 0) ⟨27,[(0,.sl 111 (all.map (sT 267))),(1,vI left),(5,vI i)],[],2⟩=
  (if ltI (B8 left (O9 rest)) 0=true then some (.ret,⟨27,[(4,vI (-1))],[],2⟩) else some (.exit 0,⟨27,[(0,.sl 111 (all.map (sT 267))),(1,vI (left - (O9 rest:Nat))),(5,vI (i+rest.length:Nat)),(15,vB false)],[],2⟩))
 | [],i,left,h,h0,h1=>by
  have hge:all.length≤i:=by simpa using h
  have hlt:ltI (i:Int) (all.length:Int)=false:=B6 (by omega)
  have hz:B8 left 0=left:=c7z h0
  have hn:ltI left 0=false:=B6 (by omega)
  rw [C3]
  simp +contextual -dsimp [Tryz.f13,hlt,O9,hz,hn]
 | x::rest,i,left,h,h0,h1=>by
  obtain ⟨hi,hc,hr⟩:=C6 h
  have hlt:ltI (i:Int) (all.length:Int)=true:=C4 (by omega)
  have hw:IntKind.i64.wrap ((i:Int)+1)=((i+1:Nat):Int):=by rw [A5] <;> omega
  have he:i+1+rest.length=i+(rest.length+1):=by omega
  have g:=h2z x left h0 h1 (hf x (by rw [← hc]; exact List.getElem_mem _))
  have ha:B8 left (O9 (x::rest))=B8 (left - H0 x) (O9 rest):=b2i left (H0 x) (O9 rest)
  have hb:left - ((O9 (x::rest):Nat):Int)=left - H0 x - (O9 rest:Nat):=by simp only [O9]; omega
  cases c:ltI (B8 left (H0 x)) 0
  ·obtain ⟨p,e⟩:=a0u c
   rw [e] at g c
   have ih:=e0t all hall hf rest (i+1) (left - H0 x) hr (by omega) (by omega)
   rw [he] at ih
   rw [ha,hb]
   refine C1 ?_ (by simpa only [List.length_cons] using ih)
   simp (maxSteps:=1000000) +contextual -dsimp [Tryz.f13,hlt,hi,hc,hw,g,c]
  ·have hn:=a1j h0 c
   have hm:ltI (B8 left (O9 (x::rest))) 0=true:=by rw [U7 (by simp only [O9]; omega)]; rfl
   rw [hm,if_pos rfl]
   refine D3 ?_ (by simp)
   simp (maxSteps:=1000000) +contextual -dsimp [Tryz.f13,hlt,hi,hc,g,c]
theorem g9l (l:List Step) (left:Int) (h0:0≤left) (h1:left≤1048576) (hf:l.length < 2 ^ 62∧∀ y,y∈l→b2y y):fo 13 [A (.sl 111 (l.map (sT 267))),A (vI left)]=some (R (vI (B8 left (a1z l)))):=by
 have hl:=hf.1
 unfold a1z
 have hw:IntKind.i64.wrap (left - l.length)=left - l.length:=by rw [A5] <;> omega
 refine i2s (l.length+1) ?_
 cases c1:ltI (left - l.length) 0
 ·have p:(l.length:Int)≤left:=by simp [ltI] at c1; omega
  have hlp:=e0t l (by omega) hf.2 l 0 (left - l.length) rfl (by omega) (by omega)
  have ha:B8 left (l.length+O9 l)=B8 (left - l.length) (O9 l):=b2i left l.length (O9 l)
  rw [ha]
  simp -dsimp [Tryz.f13] at hlp
  cases c2:ltI (B8 (left - l.length) (O9 l)) 0
  ·obtain ⟨p2,e2⟩:=a0u c2
   rw [c2] at hlp
   rw [e2]
   simp (maxSteps:=1000000) +contextual -dsimp [Tryz.f13,hw,c1,hlp]
  ·rw [c2] at hlp
   have e2:B8 (left - l.length) (O9 l)=-1:=U7 (a1j (by omega) c2)
   rw [e2]
   simp (maxSteps:=1000000) +contextual -dsimp [Tryz.f13,hw,c1,hlp]
 ·have hm:B8 left (l.length+O9 l)=-1:=U7 (by simp [ltI] at c1; omega)
  rw [hm]
  simp (maxSteps:=1000000) +contextual -dsimp [Tryz.f13,hw,c1]
theorem h3a (x:List Step) (left:Int) (h0:0≤left) (h1:left≤1048576) (hf:b2z x):fo 179 [A (.agg (pT 111 267 x)),A (vI left)]=some (R (vI (B8 left (J5 x)))):=by
 unfold b2z at hf
 refine h7n 1 ?_
 have g0:=g9l x (left) (by omega) (by omega) hf
 cases c0:ltI (B8 (left) (a1z x)) 0
 ·obtain ⟨p0,e0⟩:=a0u c0
  rw [e0] at g0 c0
  have hm:B8 left (J5 x)=left - (a1z x:Nat):=by
   have:=b0x (left:=left) (w:=J5 x) (by simp only [J5]; omega)
   simp only [J5] at this ⊢; omega
  rw [hm]
  simp (maxSteps:=1000000) +contextual -dsimp [Tryz.f179,g0,c0]
 ·have n0:=a1j (by omega) c0
  have hm:B8 left (J5 x)=-1:=U7 (by simp only [J5]; omega)
  rw [hm]
  simp (maxSteps:=1000000) +contextual -dsimp [Tryz.f179,g0,c0]
theorem e0u (all:List (List Step)) (hall:all.length≤1048576) (hf:∀ x,x∈all→b2z x):∀ (rest:List (List Step)) (i:Nat) (left:Int),all.drop i=rest→0≤left→left≤1048576→
  A6 E (orc E) (105:Nat) (rest.length+1) (A8 Tryz.f105 0) ⟨27,[(0,.sl 225 (all.map (pT 111 267))),(1,vI left),(5,vI i)],[],2⟩=
  (if ltI (B8 left (N1 rest)) 0=true then some (.ret,⟨27,[(4,vI (-1))],[],2⟩) else some (.exit 0,⟨27,[(0,.sl 225 (all.map (pT 111 267))),(1,vI (left - (N1 rest:Nat))),(5,vI (i+rest.length:Nat)),(15,vB false)],[],2⟩))
 | [],i,left,h,h0,h1=>by
  have hge:all.length≤i:=by simpa using h
  have hlt:ltI (i:Int) (all.length:Int)=false:=B6 (by omega)
  have hz:B8 left 0=left:=c7z h0
  have hn:ltI left 0=false:=B6 (by omega)
  rw [C3]
  simp +contextual -dsimp [Tryz.f105,hlt,N1,hz,hn]
 | x::rest,i,left,h,h0,h1=>by
  obtain ⟨hi,hc,hr⟩:=C6 h
  have hlt:ltI (i:Int) (all.length:Int)=true:=C4 (by omega)
  have hw:IntKind.i64.wrap ((i:Int)+1)=((i+1:Nat):Int):=by rw [A5] <;> omega
  have he:i+1+rest.length=i+(rest.length+1):=by omega
  have g:=h3a x left h0 h1 (hf x (by rw [← hc]; exact List.getElem_mem _))
  have ha:B8 left (N1 (x::rest))=B8 (left - J5 x) (N1 rest):=b2i left (J5 x) (N1 rest)
  have hb:left - ((N1 (x::rest):Nat):Int)=left - J5 x - (N1 rest:Nat):=by simp only [N1]; omega
  cases c:ltI (B8 left (J5 x)) 0
  ·obtain ⟨p,e⟩:=a0u c
   rw [e] at g c
   have ih:=e0u all hall hf rest (i+1) (left - J5 x) hr (by omega) (by omega)
   rw [he] at ih
   rw [ha,hb]
   refine C1 ?_ (by simpa only [List.length_cons] using ih)
   simp (maxSteps:=1000000) +contextual -dsimp [Tryz.f105,hlt,hi,hc,hw,g,c]
  ·have hn:=a1j h0 c
   have hm:ltI (B8 left (N1 (x::rest))) 0=true:=by rw [U7 (by simp only [N1]; omega)]; rfl
   rw [hm,if_pos rfl]
   refine D3 ?_ (by simp)
   simp (maxSteps:=1000000) +contextual -dsimp [Tryz.f105,hlt,hi,hc,g,c]
theorem g9m (l:List (List Step)) (left:Int) (h0:0≤left) (h1:left≤1048576) (hf:l.length < 2 ^ 62∧∀ y,y∈l→b2z y):fo 105 [A (.sl 225 (l.map (pT 111 267))),A (vI left)]=some (R (vI (B8 left (Q7 l)))):=by
 have hl:=hf.1
 unfold Q7
 have hw:IntKind.i64.wrap (left - l.length)=left - l.length:=by rw [A5] <;> omega
 refine h5y (l.length+1) ?_
 cases c1:ltI (left - l.length) 0
 ·have p:(l.length:Int)≤left:=by simp [ltI] at c1; omega
  have hlp:=e0u l (by omega) hf.2 l 0 (left - l.length) rfl (by omega) (by omega)
  have ha:B8 left (l.length+N1 l)=B8 (left - l.length) (N1 l):=b2i left l.length (N1 l)
  rw [ha]
  simp -dsimp [Tryz.f105] at hlp
  cases c2:ltI (B8 (left - l.length) (N1 l)) 0
  ·obtain ⟨p2,e2⟩:=a0u c2
   rw [c2] at hlp
   rw [e2]
   simp (maxSteps:=1000000) +contextual -dsimp [Tryz.f105,hw,c1,hlp]
  ·rw [c2] at hlp
   have e2:B8 (left - l.length) (N1 l)=-1:=U7 (a1j (by omega) c2)
   rw [e2]
   simp (maxSteps:=1000000) +contextual -dsimp [Tryz.f105,hw,c1,hlp]
 ·have hm:B8 left (l.length+N1 l)=-1:=U7 (by simp [ltI] at c1; omega)
  rw [hm]
  simp (maxSteps:=1000000) +contextual -dsimp [Tryz.f105,hw,c1]
theorem g9n (x:Chart) (left:Int) (h0:0≤left) (h1:left≤1048576) (hf:b8x x):fo 241 [A (.agg (cT x)),A (vI left)]=some (R (vI (B8 left (J2 x)))):=by
 unfold b8x at hf
 refine h9b 1 ?_
 have g0:=c5c x.vars (left) (by omega) (by omega) hf.1
 cases c0:ltI (B8 (left) (x.vars.length)) 0
 ·obtain ⟨p0,e0⟩:=a0u c0
  rw [e0] at g0 c0
  have g1:=c5c x.acts (left - (x.vars.length:Nat)) (by omega) (by omega) hf.2.1
  cases c1:ltI (B8 (left - (x.vars.length:Nat)) (x.acts.length)) 0
  ·obtain ⟨p1,e1⟩:=a0u c1
   rw [e1] at g1 c1
   have g2:=c5c x.dues (left - (x.vars.length:Nat) - (x.acts.length:Nat)) (by omega) (by omega) hf.2.2
   cases c2:ltI (B8 (left - (x.vars.length:Nat) - (x.acts.length:Nat)) (x.dues.length)) 0
   ·obtain ⟨p2,e2⟩:=a0u c2
    rw [e2] at g2 c2
    have hm:B8 left (J2 x)=left - (x.vars.length:Nat) - (x.acts.length:Nat) - (x.dues.length:Nat):=by
     have:=b0x (left:=left) (w:=J2 x) (by simp only [J2]; omega)
     simp only [J2] at this ⊢; omega
    rw [hm]
    simp (maxSteps:=1000000) +contextual -dsimp [Tryz.f241,g0,g1,g2,c0,c1,c2]
   ·have n2:=a1j (by omega) c2
    have hm:B8 left (J2 x)=-1:=U7 (by simp only [J2]; omega)
    rw [hm]
    simp (maxSteps:=1000000) +contextual -dsimp [Tryz.f241,g0,g1,g2,c0,c1,c2]
  ·have n1:=a1j (by omega) c1
   have hm:B8 left (J2 x)=-1:=U7 (by simp only [J2]; omega)
   rw [hm]
   simp (maxSteps:=1000000) +contextual -dsimp [Tryz.f241,g0,g1,c0,c1]
 ·have n0:=a1j (by omega) c0
  have hm:B8 left (J2 x)=-1:=U7 (by simp only [J2]; omega)
  rw [hm]
  simp (maxSteps:=1000000) +contextual -dsimp [Tryz.f241,g0,c0]
theorem h3b (x:Inst) (left:Int) (h0:0≤left) (h1:left≤1048576) (hf:b5w x):fo 180 [A (.agg (xT x)),A (vI left)]=some (R (vI (B8 left (H9 x)))):=by
 unfold b5w at hf
 refine h7o 1 ?_
 have g0:=g9n x.chart (left) (by omega) (by omega) hf
 cases c0:ltI (B8 (left) (J2 x.chart)) 0
 ·obtain ⟨p0,e0⟩:=a0u c0
  rw [e0] at g0 c0
  have hm:B8 left (H9 x)=left - (J2 x.chart:Nat):=by
   have:=b0x (left:=left) (w:=H9 x) (by simp only [H9]; omega)
   simp only [H9] at this ⊢; omega
  rw [hm]
  simp (maxSteps:=1000000) +contextual -dsimp [Tryz.f180,g0,c0]
 ·have n0:=a1j (by omega) c0
  have hm:B8 left (H9 x)=-1:=U7 (by simp only [H9]; omega)
  rw [hm]
  simp (maxSteps:=1000000) +contextual -dsimp [Tryz.f180,g0,c0]
theorem e0v (all:List Inst) (hall:all.length≤1048576) (hf:∀ x,x∈all→b5w x):∀ (rest:List Inst) (i:Nat) (left:Int),all.drop i=rest→0≤left→left≤1048576→
  A6 E (orc E) (106:Nat) (rest.length+1) (A8 Tryz.f106 0) ⟨27,[(0,.sl 229 (all.map xT)),(1,vI left),(5,vI i)],[],2⟩=
  (if ltI (B8 left (L1 rest)) 0=true then some (.ret,⟨27,[(4,vI (-1))],[],2⟩) else some (.exit 0,⟨27,[(0,.sl 229 (all.map xT)),(1,vI (left - (L1 rest:Nat))),(5,vI (i+rest.length:Nat)),(15,vB false)],[],2⟩))
 | [],i,left,h,h0,h1=>by
  have hge:all.length≤i:=by simpa using h
  have hlt:ltI (i:Int) (all.length:Int)=false:=B6 (by omega)
  have hz:B8 left 0=left:=c7z h0
  have hn:ltI left 0=false:=B6 (by omega)
  rw [C3]
  simp +contextual -dsimp [Tryz.f106,hlt,L1,hz,hn]
 | x::rest,i,left,h,h0,h1=>by
  obtain ⟨hi,hc,hr⟩:=C6 h
  have hlt:ltI (i:Int) (all.length:Int)=true:=C4 (by omega)
  have hw:IntKind.i64.wrap ((i:Int)+1)=((i+1:Nat):Int):=by rw [A5] <;> omega
  have he:i+1+rest.length=i+(rest.length+1):=by omega
  have g:=h3b x left h0 h1 (hf x (by rw [← hc]; exact List.getElem_mem _))
  have ha:B8 left (L1 (x::rest))=B8 (left - H9 x) (L1 rest):=b2i left (H9 x) (L1 rest)
  have hb:left - ((L1 (x::rest):Nat):Int)=left - H9 x - (L1 rest:Nat):=by simp only [L1]; omega
  cases c:ltI (B8 left (H9 x)) 0
  ·obtain ⟨p,e⟩:=a0u c
   rw [e] at g c
   have ih:=e0v all hall hf rest (i+1) (left - H9 x) hr (by omega) (by omega)
   rw [he] at ih
   rw [ha,hb]
   refine C1 ?_ (by simpa only [List.length_cons] using ih)
   simp (maxSteps:=1000000) +contextual -dsimp [Tryz.f106,hlt,hi,hc,hw,g,c]
  ·have hn:=a1j h0 c
   have hm:ltI (B8 left (L1 (x::rest))) 0=true:=by rw [U7 (by simp only [L1]; omega)]; rfl
   rw [hm,if_pos rfl]
   refine D3 ?_ (by simp)
   simp (maxSteps:=1000000) +contextual -dsimp [Tryz.f106,hlt,hi,hc,g,c]
theorem g9o (l:List Inst) (left:Int) (h0:0≤left) (h1:left≤1048576) (hf:l.length < 2 ^ 62∧∀ y,y∈l→b5w y):fo 106 [A (.sl 229 (l.map xT)),A (vI left)]=some (R (vI (B8 left (U8 l)))):=by
 have hl:=hf.1
 unfold U8
 have hw:IntKind.i64.wrap (left - l.length)=left - l.length:=by rw [A5] <;> omega
 refine h5z (l.length+1) ?_
 cases c1:ltI (left - l.length) 0
 ·have p:(l.length:Int)≤left:=by simp [ltI] at c1; omega
  have hlp:=e0v l (by omega) hf.2 l 0 (left - l.length) rfl (by omega) (by omega)
  have ha:B8 left (l.length+L1 l)=B8 (left - l.length) (L1 l):=b2i left l.length (L1 l)
  rw [ha]
  simp -dsimp [Tryz.f106] at hlp
  cases c2:ltI (B8 (left - l.length) (L1 l)) 0
  ·obtain ⟨p2,e2⟩:=a0u c2
   rw [c2] at hlp
   rw [e2]
   simp (maxSteps:=1000000) +contextual -dsimp [Tryz.f106,hw,c1,hlp]
  ·rw [c2] at hlp
   have e2:B8 (left - l.length) (L1 l)=-1:=U7 (a1j (by omega) c2)
   rw [e2]
   simp (maxSteps:=1000000) +contextual -dsimp [Tryz.f106,hw,c1,hlp]
 ·have hm:B8 left (l.length+L1 l)=-1:=U7 (by simp [ltI] at c1; omega)
  rw [hm]
  simp (maxSteps:=1000000) +contextual -dsimp [Tryz.f106,hw,c1]
theorem g7i (l:List Claim) (left:Int) (h0:0≤left) (h1:left≤1048576) (hl:l.length < 2 ^ 62):fo 92 [A (.sl 222 (l.map kT)),A (vI left)]=some (R (vI (B8 left l.length))):=by
 have hw:IntKind.i64.wrap (left - l.length)=left - l.length:=by rw [A5] <;> omega
 refine i3q 1 ?_
 simp (maxSteps:=1000000) +contextual -dsimp [Tryz.f92,B8,hw]
theorem g7j (x:Engine) (left:Int) (h0:0≤left) (h1:left≤1048576) (hf:b8h x):fo 38 [A (.agg (eTl x)),A (vI left)]=some (R (vI (B8 left (D8 x)))):=by
 unfold b8h at hf
 refine i3g 1 ?_
 have g0:=g9m x.procs (left) (by omega) (by omega) hf.1
 cases c0:ltI (B8 (left) (Q7 x.procs)) 0
 ·obtain ⟨p0,e0⟩:=a0u c0
  rw [e0] at g0 c0
  have g1:=g9o x.insts (left - (Q7 x.procs:Nat)) (by omega) (by omega) hf.2
  cases c1:ltI (B8 (left - (Q7 x.procs:Nat)) (U8 x.insts)) 0
  ·obtain ⟨p1,e1⟩:=a0u c1
   rw [e1] at g1 c1
   have hm:B8 left (D8 x)=left - (Q7 x.procs:Nat) - (U8 x.insts:Nat):=by
    have:=b0x (left:=left) (w:=D8 x) (by simp only [D8]; omega)
    simp only [D8] at this ⊢; omega
   rw [hm]
   simp (maxSteps:=1000000) +contextual -dsimp [Tryz.f38,g0,g1,c0,c1]
  ·have n1:=a1j (by omega) c1
   have hm:B8 left (D8 x)=-1:=U7 (by simp only [D8]; omega)
   rw [hm]
   simp (maxSteps:=1000000) +contextual -dsimp [Tryz.f38,g0,g1,c0,c1]
 ·have n0:=a1j (by omega) c0
  have hm:B8 left (D8 x)=-1:=U7 (by simp only [D8]; omega)
  rw [hm]
  simp (maxSteps:=1000000) +contextual -dsimp [Tryz.f38,g0,c0]
theorem h3c (x:Desk) (left:Int) (h0:0≤left) (h1:left≤1048576) (hf:c8a x):fo 29 [A (.agg (dTl x)),A (vI left)]=some (R (vI (B8 left (K9 x)))):=by
 unfold c8a at hf
 refine i2z 1 ?_
 have g0:=g7j x.eng (left) (by omega) (by omega) hf.1
 cases c0:ltI (B8 (left) (D8 x.eng)) 0
 ·obtain ⟨p0,e0⟩:=a0u c0
  rw [e0] at g0 c0
  have g1:=g7i x.claims (left - (D8 x.eng:Nat)) (by omega) (by omega) hf.2
  cases c1:ltI (B8 (left - (D8 x.eng:Nat)) (x.claims.length)) 0
  ·obtain ⟨p1,e1⟩:=a0u c1
   rw [e1] at g1 c1
   have hm:B8 left (K9 x)=left - (D8 x.eng:Nat) - (x.claims.length:Nat):=by
    have:=b0x (left:=left) (w:=K9 x) (by simp only [K9]; omega)
    simp only [K9] at this ⊢; omega
   rw [hm]
   simp (maxSteps:=1000000) +contextual -dsimp [Tryz.f29,g0,g1,c0,c1]
  ·have n1:=a1j (by omega) c1
   have hm:B8 left (K9 x)=-1:=U7 (by simp only [K9]; omega)
   rw [hm]
   simp (maxSteps:=1000000) +contextual -dsimp [Tryz.f29,g0,g1,c0,c1]
 ·have n0:=a1j (by omega) c0
  have hm:B8 left (K9 x)=-1:=U7 (by simp only [K9]; omega)
  rw [hm]
  simp (maxSteps:=1000000) +contextual -dsimp [Tryz.f29,g0,c0]
theorem f5v (all:List Int) (hall:all.length≤2097152):∀ (rest:List Int) (i:Nat),all.drop i=rest→
  A6 E (orc E) (22:Nat) (rest.length+1) (A8 Tryz.f22 0) ⟨26,[(0,.sl 2 (all.map iV)),(1,.sl 2 (all.map iV)),(5,vI i)],[],2⟩=
  some (.exit 0,⟨26,[(0,.sl 2 (all.map iV)),(1,.sl 2 (all.map iV)),(5,vI (i+rest.length:Nat)),(14,vB false)],[],2⟩)
 | [],i,h=>by
  have hge:all.length≤i:=by simpa using h
  have hlt:ltI (i:Int) (all.length:Int)=false:=B6 (by omega)
  rw [C3]
  simp +contextual -dsimp [Tryz.f22,hlt]
 | x::rest,i,h=>by
  obtain ⟨hi,hc,hr⟩:=C6 h
  have hlt:ltI (i:Int) (all.length:Int)=true:=C4 (by omega)
  have hw:IntKind.i64.wrap ((i:Int)+1)=((i+1:Nat):Int):=by rw [A5] <;> omega
  have ih:=f5v all hall rest (i+1) hr
  have he:i+1+rest.length=i+(rest.length+1):=by omega
  rw [he] at ih
  refine C1 ?_ (by simpa only [List.length_cons] using ih)
  simp (maxSteps:=1000000) +contextual -dsimp [Tryz.f22,hlt,hi,hc,hw,B7]
theorem b8i (l:List Int) (hl:l.length≤2097152):fo 22 [A (.sl 2 (l.map iV)),A (.sl 2 (l.map iV))]=some (R (vB true)):=by
 have hlp:=f5v l hl l 0 rfl
 refine i2w (l.length+1) ?_
 simp -dsimp [Tryz.f22] at hlp
 simp (maxSteps:=1000000) +contextual -dsimp [Tryz.f22,hlp,B7]
theorem h3d (x:Node):fo 240 [A (.agg (nT x)),A (.agg (nT x))]=some (R (vB true)):=by
 refine h9a 1 ?_
 simp (maxSteps:=1000000) +contextual -dsimp [Tryz.f240,B7]
theorem e0w (all:List Node) (hall:all.length≤2097152):∀ (rest:List Node) (i:Nat),all.drop i=rest→
  A6 E (orc E) (173:Nat) (rest.length+1) (A8 Tryz.f173 0) ⟨27,[(0,.sl 219 (all.map nT)),(1,.sl 219 (all.map nT)),(5,vI i)],[],2⟩=
  some (.exit 0,⟨27,[(0,.sl 219 (all.map nT)),(1,.sl 219 (all.map nT)),(5,vI (i+rest.length:Nat)),(14,vB false)],[],2⟩)
 | [],i,h=>by
  have hge:all.length≤i:=by simpa using h
  have hlt:ltI (i:Int) (all.length:Int)=false:=B6 (by omega)
  rw [C3]
  simp +contextual -dsimp [Tryz.f173,hlt]
 | x::rest,i,h=>by
  obtain ⟨hi,hc,hr⟩:=C6 h
  have hlt:ltI (i:Int) (all.length:Int)=true:=C4 (by omega)
  have hw:IntKind.i64.wrap ((i:Int)+1)=((i+1:Nat):Int):=by rw [A5] <;> omega
  have ih:=e0w all hall rest (i+1) hr
  have he:i+1+rest.length=i+(rest.length+1):=by omega
  rw [he] at ih
  have g:=h3d x
  refine C1 ?_ (by simpa only [List.length_cons] using ih)
  simp (maxSteps:=1000000) +contextual -dsimp [Tryz.f173,hlt,hi,hc,hw,g]
theorem d6v (l:List Node) (hl:l.length≤2097152):fo 173 [A (.sl 219 (l.map nT)),A (.sl 219 (l.map nT))]=some (R (vB true)):=by
 have hlp:=e0w l hl l 0 rfl
 refine h7h (l.length+1) ?_
 simp -dsimp [Tryz.f173] at hlp
 simp (maxSteps:=1000000) +contextual -dsimp [Tryz.f173,hlp,B7]
theorem h3e (x:Step) (h:H0 x≤2097152):fo 83 [A (.agg (sT 219 x)),A (.agg (sT 219 x))]=some (R (vB true)):=by
 have g4:=d6v x.cond (by simp only [H0] at h; omega)
 have g5:=d6v x.expr (by simp only [H0] at h; omega)
 refine i3n 1 ?_
 simp (maxSteps:=1000000) +contextual -dsimp [Tryz.f83,B7,a8y,g4,g5]
theorem e0x (all:List Step) (hall:all.length≤2097152) (hf:∀ x,x∈all→H0 x≤2097152):∀ (rest:List Step) (i:Nat),all.drop i=rest→
  A6 E (orc E) (21:Nat) (rest.length+1) (A8 Tryz.f21 0) ⟨27,[(0,.sl 124 (all.map (sT 219))),(1,.sl 124 (all.map (sT 219))),(5,vI i)],[],2⟩=
  some (.exit 0,⟨27,[(0,.sl 124 (all.map (sT 219))),(1,.sl 124 (all.map (sT 219))),(5,vI (i+rest.length:Nat)),(14,vB false)],[],2⟩)
 | [],i,h=>by
  have hge:all.length≤i:=by simpa using h
  have hlt:ltI (i:Int) (all.length:Int)=false:=B6 (by omega)
  rw [C3]
  simp +contextual -dsimp [Tryz.f21,hlt]
 | x::rest,i,h=>by
  obtain ⟨hi,hc,hr⟩:=C6 h
  have hlt:ltI (i:Int) (all.length:Int)=true:=C4 (by omega)
  have hw:IntKind.i64.wrap ((i:Int)+1)=((i+1:Nat):Int):=by rw [A5] <;> omega
  have ih:=e0x all hall hf rest (i+1) hr
  have he:i+1+rest.length=i+(rest.length+1):=by omega
  rw [he] at ih
  have g:=h3e x (hf x (by rw [← hc]; exact List.getElem_mem _))
  refine C1 ?_ (by simpa only [List.length_cons] using ih)
  simp (maxSteps:=1000000) +contextual -dsimp [Tryz.f21,hlt,hi,hc,hw,g]
theorem g9p (l:List Step) (hl:l.length≤2097152) (hf:∀ x,x∈l→H0 x≤2097152):fo 21 [A (.sl 124 (l.map (sT 219))),A (.sl 124 (l.map (sT 219)))]=some (R (vB true)):=by
 have hlp:=e0x l hl hf l 0 rfl
 refine i2v (l.length+1) ?_
 simp -dsimp [Tryz.f21] at hlp
 simp (maxSteps:=1000000) +contextual -dsimp [Tryz.f21,hlp,B7]
theorem h3f (x:List Step) (h:J5 x≤2097152):fo 189 [A (.agg (pT 124 219 x)),A (.agg (pT 124 219 x))]=some (R (vB true)):=by
 have g0:=g9p x (by simp only [J5,a1z] at h; omega) (fun y hy=>by have:=b4j hy; simp only [J5,a1z] at h; omega)
 refine h7v 1 ?_
 simp (maxSteps:=1000000) +contextual -dsimp [Tryz.f189,g0]
theorem e0y (all:List (List Step)) (hall:all.length≤2097152) (hf:∀ x,x∈all→J5 x≤2097152):∀ (rest:List (List Step)) (i:Nat),all.drop i=rest→
  A6 E (orc E) (117:Nat) (rest.length+1) (A8 Tryz.f117 0) ⟨27,[(0,.sl 160 (all.map (pT 124 219))),(1,.sl 160 (all.map (pT 124 219))),(5,vI i)],[],2⟩=
  some (.exit 0,⟨27,[(0,.sl 160 (all.map (pT 124 219))),(1,.sl 160 (all.map (pT 124 219))),(5,vI (i+rest.length:Nat)),(14,vB false)],[],2⟩)
 | [],i,h=>by
  have hge:all.length≤i:=by simpa using h
  have hlt:ltI (i:Int) (all.length:Int)=false:=B6 (by omega)
  rw [C3]
  simp +contextual -dsimp [Tryz.f117,hlt]
 | x::rest,i,h=>by
  obtain ⟨hi,hc,hr⟩:=C6 h
  have hlt:ltI (i:Int) (all.length:Int)=true:=C4 (by omega)
  have hw:IntKind.i64.wrap ((i:Int)+1)=((i+1:Nat):Int):=by rw [A5] <;> omega
  have ih:=e0y all hall hf rest (i+1) hr
  have he:i+1+rest.length=i+(rest.length+1):=by omega
  rw [he] at ih
  have g:=h3f x (hf x (by rw [← hc]; exact List.getElem_mem _))
  refine C1 ?_ (by simpa only [List.length_cons] using ih)
  simp (maxSteps:=1000000) +contextual -dsimp [Tryz.f117,hlt,hi,hc,hw,g]
theorem g9q (l:List (List Step)) (hl:l.length≤2097152) (hf:∀ x,x∈l→J5 x≤2097152):fo 117 [A (.sl 160 (l.map (pT 124 219))),A (.sl 160 (l.map (pT 124 219)))]=some (R (vB true)):=by
 have hlp:=e0y l hl hf l 0 rfl
 refine h6k (l.length+1) ?_
 simp -dsimp [Tryz.f117] at hlp
 simp (maxSteps:=1000000) +contextual -dsimp [Tryz.f117,hlp,B7]
theorem g9r (x:Chart) (h:J2 x≤2097152):fo 82 [A (.agg (cT x)),A (.agg (cT x))]=some (R (vB true)):=by
 have g2:=b8i x.vars (by simp only [J2] at h; omega)
 have g3:=b8i x.acts (by simp only [J2] at h; omega)
 have g4:=b8i x.dues (by simp only [J2] at h; omega)
 refine i3m 1 ?_
 simp (maxSteps:=1000000) +contextual -dsimp [Tryz.f82,B7,g2,g3,g4]
theorem h3g (x:Inst) (h:H9 x≤2097152):fo 190 [A (.agg (xT x)),A (.agg (xT x))]=some (R (vB true)):=by
 have g1:=g9r x.chart (by simp only [H9] at h; omega)
 refine h7w 1 ?_
 simp (maxSteps:=1000000) +contextual -dsimp [Tryz.f190,B7,g1]
theorem e0z (all:List Inst) (hall:all.length≤2097152) (hf:∀ x,x∈all→H9 x≤2097152):∀ (rest:List Inst) (i:Nat),all.drop i=rest→
  A6 E (orc E) (118:Nat) (rest.length+1) (A8 Tryz.f118 0) ⟨27,[(0,.sl 163 (all.map xT)),(1,.sl 163 (all.map xT)),(5,vI i)],[],2⟩=
  some (.exit 0,⟨27,[(0,.sl 163 (all.map xT)),(1,.sl 163 (all.map xT)),(5,vI (i+rest.length:Nat)),(14,vB false)],[],2⟩)
 | [],i,h=>by
  have hge:all.length≤i:=by simpa using h
  have hlt:ltI (i:Int) (all.length:Int)=false:=B6 (by omega)
  rw [C3]
  simp +contextual -dsimp [Tryz.f118,hlt]
 | x::rest,i,h=>by
  obtain ⟨hi,hc,hr⟩:=C6 h
  have hlt:ltI (i:Int) (all.length:Int)=true:=C4 (by omega)
  have hw:IntKind.i64.wrap ((i:Int)+1)=((i+1:Nat):Int):=by rw [A5] <;> omega
  have ih:=e0z all hall hf rest (i+1) hr
  have he:i+1+rest.length=i+(rest.length+1):=by omega
  rw [he] at ih
  have g:=h3g x (hf x (by rw [← hc]; exact List.getElem_mem _))
  refine C1 ?_ (by simpa only [List.length_cons] using ih)
  simp (maxSteps:=1000000) +contextual -dsimp [Tryz.f118,hlt,hi,hc,hw,g]
theorem g9s (l:List Inst) (hl:l.length≤2097152) (hf:∀ x,x∈l→H9 x≤2097152):fo 118 [A (.sl 163 (l.map xT)),A (.sl 163 (l.map xT))]=some (R (vB true)):=by
 have hlp:=e0z l hl hf l 0 rfl
 refine h6l (l.length+1) ?_
 simp -dsimp [Tryz.f118] at hlp
 simp (maxSteps:=1000000) +contextual -dsimp [Tryz.f118,hlp,B7]
theorem g9t (x:Claim):fo 177 [A (.agg (kT x)),A (.agg (kT x))]=some (R (vB true)):=by
 refine h7l 1 ?_
 simp (maxSteps:=1000000) +contextual -dsimp [Tryz.f177,B7]
theorem d6w (all:List Claim) (hall:all.length≤2097152):∀ (rest:List Claim) (i:Nat),all.drop i=rest→
  A6 E (orc E) (102:Nat) (rest.length+1) (A8 Tryz.f102 0) ⟨27,[(0,.sl 150 (all.map kT)),(1,.sl 150 (all.map kT)),(5,vI i)],[],2⟩=
  some (.exit 0,⟨27,[(0,.sl 150 (all.map kT)),(1,.sl 150 (all.map kT)),(5,vI (i+rest.length:Nat)),(14,vB false)],[],2⟩)
 | [],i,h=>by
  have hge:all.length≤i:=by simpa using h
  have hlt:ltI (i:Int) (all.length:Int)=false:=B6 (by omega)
  rw [C3]
  simp +contextual -dsimp [Tryz.f102,hlt]
 | x::rest,i,h=>by
  obtain ⟨hi,hc,hr⟩:=C6 h
  have hlt:ltI (i:Int) (all.length:Int)=true:=C4 (by omega)
  have hw:IntKind.i64.wrap ((i:Int)+1)=((i+1:Nat):Int):=by rw [A5] <;> omega
  have ih:=d6w all hall rest (i+1) hr
  have he:i+1+rest.length=i+(rest.length+1):=by omega
  rw [he] at ih
  have g:=g9t x
  refine C1 ?_ (by simpa only [List.length_cons] using ih)
  simp (maxSteps:=1000000) +contextual -dsimp [Tryz.f102,hlt,hi,hc,hw,g]
theorem g7k (l:List Claim) (hl:l.length≤2097152):fo 102 [A (.sl 150 (l.map kT)),A (.sl 150 (l.map kT))]=some (R (vB true)):=by
 have hlp:=d6w l hl l 0 rfl
 refine h5v (l.length+1) ?_
 simp -dsimp [Tryz.f102] at hlp
 simp (maxSteps:=1000000) +contextual -dsimp [Tryz.f102,hlp,B7]
theorem g7l (x:Engine) (h:D8 x≤2097152):fo 43 [A (.agg (eT x)),A (.agg (eT x))]=some (R (vB true)):=by
 have g0:=g9q x.procs (by simp only [D8,Q7] at h; omega) (fun y hy=>by have:=b4k hy; simp only [D8,Q7] at h; omega)
 have g1:=g9s x.insts (by simp only [D8,U8] at h; omega) (fun y hy=>by have:=b4l hy; simp only [D8,U8] at h; omega)
 refine i3i 1 ?_
 simp (maxSteps:=1000000) +contextual -dsimp [Tryz.f43,B7,g0,g1]
theorem e1a (x:Desk) (h:K9 x≤2097152):fo 34 [A (.agg (dT x)),A (.agg (dT x))]=some (R (vB true)):=by
 have g0:=g7l x.eng (by simp only [K9] at h; omega)
 have g1:=g7k x.claims (by simp only [K9] at h; omega)
 refine i3c 1 ?_
 simp (maxSteps:=1000000) +contextual -dsimp [Tryz.f34,g0,g1]
theorem d3a (l:List Int):L5 (l.map iV)=l.map iV:=a3p (f:=iV) (g:=iV) (fun a=>by simp [O5,L9]) l
theorem a4g (l:List Int):D9 (l.map iV)=true:=by
 induction l with
 | nil=>rfl
 | cons x l ih=>simp only [List.map_cons,D9,ih,Bool.and_true]; simp [N5,clean]
theorem b6u (l:List Node):L5 (l.map nT)=l.map nT:=a3p (f:=nT) (g:=nT) (fun a=>by simp [O5,L9]) l
theorem a7j (l:List Node):D9 (l.map nT)=true:=by
 induction l with
 | nil=>rfl
 | cons x l ih=>simp only [List.map_cons,D9,ih,Bool.and_true]; simp [N5,clean]
abbrev N6 (x:Step):List T:=[vI x.kind,vI x.parent,vS x.name,vI x.arg,.own 219 (x.cond.map nT),.own 219 (x.expr.map nT)]
theorem g4s (l:List Step):L5 (l.map N6)=l.map (sT 219):=a3p (f:=N6) (g:=(sT 219)) (fun a=>by simp [O5,L9,b6u]) l
theorem b1s (l:List Step):D9 (l.map N6)=true:=by
 induction l with
 | nil=>rfl
 | cons x l ih=>simp only [List.map_cons,D9,ih,Bool.and_true]; simp [N5,clean,a7j]
abbrev H5 (x:List Step):List T:=[.own 124 (x.map N6)]
theorem b4b (l:List (List Step)):L5 (l.map H5)=l.map (pT 124 219):=a3p (f:=H5) (g:=(pT 124 219)) (fun a=>by simp [O5,L9,g4s]) l
theorem a1q (l:List (List Step)):D9 (l.map H5)=true:=by
 induction l with
 | nil=>rfl
 | cons x l ih=>simp only [List.map_cons,D9,ih,Bool.and_true]; simp [N5,clean,b1s]
abbrev i4m (x:Chart):List T:=[vI x.status,vI x.now,.own 2 (x.vars.map iV),.own 2 (x.acts.map iV),.own 2 (x.dues.map iV)]
abbrev L7 (x:Inst):List T:=[vI x.proc,vI x.chart.status,vI x.chart.now,.own 2 (x.chart.vars.map iV),.own 2 (x.chart.acts.map iV),.own 2 (x.chart.dues.map iV)]
theorem b4c (l:List Inst):L5 (l.map L7)=l.map xT:=a3p (f:=L7) (g:=xT) (fun a=>by simp [O5,L9,d3a]) l
theorem a2t (l:List Inst):D9 (l.map L7)=true:=by
 induction l with
 | nil=>rfl
 | cons x l ih=>simp only [List.map_cons,D9,ih,Bool.and_true]; simp [N5,clean,a4g]
theorem b3x (l:List Claim):L5 (l.map kT)=l.map kT:=a3p (f:=kT) (g:=kT) (fun a=>by simp [O5,L9]) l
theorem a2r (l:List Claim):D9 (l.map kT)=true:=by
 induction l with
 | nil=>rfl
 | cons x l ih=>simp only [List.map_cons,D9,ih,Bool.and_true]; simp [N5,clean]
abbrev b2p (x:Engine):List T:=[.own 160 (x.procs.map H5),.own 163 (x.insts.map L7),vI x.now]
abbrev g2l (x:Desk):List T:=[.own 160 (x.eng.procs.map H5),.own 163 (x.eng.insts.map L7),vI x.eng.now,.own 150 (x.claims.map kT)]
abbrev g4b (x:EngR):List T:=[vI x.code,vI x.value,.own 160 (x.eng.procs.map H5),.own 163 (x.eng.insts.map L7),vI x.eng.now]
abbrev d3b (x:DeskR):List T:=[vI x.code,vI x.value,.own 160 (x.desk.eng.procs.map H5),.own 163 (x.desk.eng.insts.map L7),vI x.desk.eng.now,.own 150 (x.desk.claims.map kT)]
end Go.TM.Ft
