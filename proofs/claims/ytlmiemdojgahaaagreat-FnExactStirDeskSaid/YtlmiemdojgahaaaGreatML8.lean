/- What functions of the program come to, by the machine. -/
import Derived.Test.YtlmiemdojgahaaaGreatML7
set_option linter.unusedSimpArgs false
set_option linter.unusedVariables false
set_option maxHeartbeats 8000000
namespace Go.TM.Ft
open Go Go.TM Go.Proofs Go.Proofs.Tryz
set_option maxRecDepth 20000
attribute [local congr] O3
attribute [local simp] L9 M4 K0 L6 J6 L4 J8 J1 K5 I6
def pV (c:Chart) (i:Nat):Bool:=A7 (A2 (A5 (B4 c.acts i) 0 2)) (A2 (A5 (B4 c.dues i) 0 (c.now+99)))
def eB (c:Chart):Nat→Nat→Bool
 | 0,_=>false
 | f+1,i=>if pV c i=true then true else eB c f (i+1)
def uD (c:Chart) (i:Nat) (s:Bool):Bool:=A7 (A7 s (A2 (A0 (B4 c.acts i) 0))) (A2 (A0 (B4 c.dues i) 0))
def lS (c:Chart):Nat→Nat→Bool→Bool
 | 0,_,s=>s
 | f+1,i,s=>lS c f (i+1) (uD c i s)
theorem c7z (l:List Step) (hl:l.length≤24) (c:Chart) (ha:c.acts.length=l.length) (hd:c.dues.length=l.length) (hn0:0≤c.now) (fA:c.now≤1000000):∀ (f i:Nat) (s:Bool),i+f=l.length→
    B7 E (orc E) (163:Nat) (f+1) (C1 f163 0) ⟨130,[(0,.sl 124 (l.map (sT 219))),(1,.ipt (cT c)),(7,vB s),(8,vI i)],[],2⟩=
    (if eB c f i = true then some (.ret, ⟨130, [(4, vI 3)], [], 2⟩)
     else some (.exit 0,⟨130,[(0,.sl 124 (l.map (sT 219))),(1,.ipt (cT c)),(7,vB (lS c f i s)),(8,vI l.length),(58,vB false)],[],2⟩))
  | 0,i,s,h=>by
    have e:i=l.length:=by omega
    subst e
    have A1:A3 (l.length:Int) (l.length:Int)=false:=C9 (by omega)
    rw[D5]
    simp +contextual -dsimp [f163,A1,eB,lS]
  | f+1,i,s,h=>by
    have hi:i<l.length:=by omega
    have K8:i<c.acts.length:=by omega
    have U8:i<c.dues.length:=by omega
    have rD:B4 c.acts (i:Int)=c.acts[i]:=bF K8
    have sS:B4 c.dues (i:Int)=c.dues[i]:=bF U8
    have A1:A3 (i:Int) (l.length:Int)=true:=F5 (by omega)
    have hw:IntKind.i64.wrap ((i:Int)+1)=((i+1:Nat):Int):=by rw[B6]<;>omega
    have Q2:IntKind.i64.wrap (c.now+99)=c.now+99:=by rw[B6]<;>omega
    cases q:A5 c.acts[i] 0 2
    · have hm : eB c (f + 1) i = true := by simp [eB, pV, rD, q, A2, A7]
      rw[hm,if_pos rfl]
      refine G3 ?_ (by simp)
      simp (maxSteps:=1000000) +contextual -dsimp [f163,A1,K8,G0,q]
    · cases q2 : A5 c.dues[i] 0 (c.now + 99)
      · have hm : eB c (f + 1) i = true := by simp [eB, pV, rD, sS, q, q2, A2, A7]
        rw[hm,if_pos rfl]
        refine G3 ?_ (by simp)
        simp (maxSteps:=1000000) +contextual -dsimp [f163,A1,K8,U8,Q2,G0,q,q2]
      · have ih := c7z l hl c ha hd hn0 fA f (i + 1) (uD c i s) (by omega)
        have hm:eB c (f+1) i=eB c f (i+1):=by simp[eB,pV,rD,sS,q,q2,A2,A7]
        have aO:lS c (f+1) i s=lS c f (i+1) (uD c i s):=rfl
        rw[hm,aO]
        refine D6 ?_ ih
        unfold uD
        rw[rD,sS]
        simp (maxSteps:=1000000) +contextual -dsimp [f163,A1,K8,U8,hw,Q2,G0,q,q2]
def fD (l:List Step) (c:Chart):Nat→Nat→Bool
 | 0,_=>false
 | f+1,i=>if rN l c i=true then true else fD l c f (i+1)
theorem a2c (l:List Step) (hl:l.length≤24) (c:Chart) (ha:c.acts.length=l.length) (hd:c.dues.length=l.length):∀ (f i:Nat),i+f=l.length→
    B7 E (orc E) (163:Nat) (f+1) (C1 f163 1) ⟨130,[(0,.sl 124 (l.map (sT 219))),(1,.ipt (cT c)),(9,vI i)],[],2⟩=
    (if fD l c f i = true then some (.ret, ⟨130, [(4, vI 1)], [], 2⟩)
     else some (.exit 2,⟨130,[(0,.sl 124 (l.map (sT 219))),(1,.ipt (cT c)),(9,vI l.length),(123,vB false)],[],2⟩))
  | 0,i,h=>by
    have e:i=l.length:=by omega
    subst e
    have A1:A3 (l.length:Int) (l.length:Int)=false:=C9 (by omega)
    rw[D5]
    simp +contextual -dsimp [f163,A1,fD]
  | f+1,i,h=>by
    have hi:i<l.length:=by omega
    have A1:A3 (i:Int) (l.length:Int)=true:=F5 (by omega)
    have hw:IntKind.i64.wrap ((i:Int)+1)=((i+1:Nat):Int):=by rw[B6]<;>omega
    have g:=d3l l hl c ha hd i hi
    cases q:rN l c i
    · have ih := a2c l hl c ha hd f (i + 1) (by omega)
      have hm:fD l c (f+1) i=fD l c f (i+1):=by simp[fD,q]
      rw[hm]
      refine D6 ?_ ih
      simp (maxSteps:=1000000) +contextual -dsimp [f163,A1,g,q,hw]
    · have hm : fD l c (f + 1) i = true := by simp [fD, q]
      rw[hm,if_pos rfl]
      refine G3 ?_ (by simp)
      simp (maxSteps:=1000000) +contextual -dsimp [f163,A1,g,q]
def rO (l:List Step) (c:Chart):Int:=
 if A2 (A0 (aN l) 0)=true then aN l
 else if A7 (A2 (A5 c.status 1 3)) (A2 (A5 c.now 0 1000000))=true then 3
 else if A2 (A0 (rK c.vars) 0)=true then rK c.vars
 else if A7 (A2 (A0 c.acts.length l.length)) (A2 (A0 c.dues.length l.length))=true then 2
 else if eB c l.length 0=true then 3
 else if A2 (A0 c.status 1)=true then (if lS c l.length 0 false=true then 1 else 0)
 else if A2 (A0 (B4 c.acts 0) 1)=true then 1
 else if fD l c l.length 0=true then 1 else 0
theorem d7b {l:List Step} (h:aN l=0):1≤l.length∧l.length≤24:=by
 unfold aN at h
 split at h
 ·simp at h
 ·rename_i c;simp[A7,A3] at c;omega
theorem Wu (l:List Step) (hl:l.length<2 ^ 62) (hf:qZ l) (c:Chart):fo 163 [A (.sl 124 (l.map (sT 219))),A (.ipt (cT c))]=some (R (vI (rO l c))):=by
 have g1:=Sw l hl hf
 have g2:=a1r c.vars
 unfold rO
 refine d1q (l.length+1) ?_
 cases q1:A0 (aN l) 0
 ·simp (maxSteps:=1000000) +contextual -dsimp [f163,g1,q1]
 ·have e0:aN l=0:=by simpa[A0] using q1
  obtain⟨p1,p2⟩:=d7b e0
  cases q2:A5 c.status 1 3
  ·simp (maxSteps:=1000000) +contextual -dsimp [f163,g1,e0,D2,G0,q2]
  ·cases q3:A5 c.now 0 1000000
   ·simp (maxSteps:=1000000) +contextual -dsimp [f163,g1,e0,D2,G0,dD,q2,q3]
   ·cases q4:A0 (rK c.vars) 0
    ·simp (maxSteps:=1000000) +contextual -dsimp [f163,g1,g2,e0,D2,G0,dD,q2,q3,q4]
    ·have e1:rK c.vars=0:=by simpa[A0] using q4
     cases q5:A0 c.acts.length l.length
     ·simp (maxSteps:=1000000) +contextual -dsimp [f163,g1,g2,e0,e1,D2,G0,dD,q2,q3,q5]
     ·cases q6:A0 c.dues.length l.length
      ·simp (maxSteps:=1000000) +contextual -dsimp [f163,g1,g2,e0,e1,D2,G0,dD,q2,q3,q5,q6]
      ·have ha:c.acts.length=l.length:=by simp[A0] at q5;omega
       have hd:c.dues.length=l.length:=by simp[A0] at q6;omega
       have hn:0≤c.now∧c.now≤1000000:=by simp[A5,A6,B5] at q3;omega
       have A4:=c7z l p2 c ha hd hn.1 hn.2 l.length 0 false (by omega)
       have zL:=a2c l p2 c ha hd l.length 0 (by omega)
       have eV:0<c.acts.length:=by omega
       have hs:B4 c.acts 0=c.acts[0]:=bF eV
       simp -dsimp [f163] at A4 zL
       cases q7:eB c l.length 0
       ·rw[q7] at A4
        cases q8:A0 c.status 1
        ·cases q9:lS c l.length 0 false
         ·rw[q9] at A4
          simp (maxSteps:=1000000) +contextual -dsimp [f163,g1,g2,e0,e1,D2,G0,dD,q2,q3,q5,q6,q8,A4]
         ·rw[q9] at A4
          simp (maxSteps:=1000000) +contextual -dsimp [f163,g1,g2,e0,e1,D2,G0,dD,q2,q3,q5,q6,q8,A4]
        ·rw[hs]
         cases q10:A0 c.acts[0] 1
         ·simp (maxSteps:=1000000) +contextual -dsimp [f163,g1,g2,e0,e1,D2,G0,dD,q2,q3,q5,q6,q8,q10,eV,A4]
         ·cases q11:fD l c l.length 0
          ·rw[q11] at zL
           simp (maxSteps:=1000000) +contextual -dsimp [f163,g1,g2,e0,e1,D2,G0,dD,q2,q3,q5,q6,q8,q10,eV,A4,zL]
          ·rw[q11] at zL
           simp (maxSteps:=1000000) +contextual -dsimp [f163,g1,g2,e0,e1,D2,G0,dD,q2,q3,q5,q6,q8,q10,eV,A4,zL]
       ·rw[q7] at A4
        simp (maxSteps:=1000000) +contextual -dsimp [f163,g1,g2,e0,e1,D2,G0,dD,q2,q3,q5,q6,A4]
theorem FitP.x {p:List Step} (h:FitP p):qZ p:=fun s hs=>⟨(h.steps s hs).name,(h.steps s hs).cond,(h.steps s hs).expr⟩
def fR:List (List Step)→Int
 | []=>0
 | p::r=>if A2 (A0 (aN p) 0)=true then aN p else fR r
theorem a5i (all:List (List Step)) (B9:all.length≤1000) (hf:∀ p,p∈all→FitP p):∀ (rest:List (List Step)) (i:Nat),all.drop i=rest→
    B7 E (orc E) (181:Nat) (rest.length+1) (C1 f181 0) ⟨28,[(0,.sl 160 (all.map (pT 124 219))),(3,vI i)],[],2⟩=
    (if A0 (fR rest) 0 = true then some (.exit 0, ⟨28, [(0, .sl 160 (all.map (pT 124 219))), (3, vI (i + rest.length : Nat)), (16, vB false)], [], 2⟩)
     else some (.ret,⟨28,[(2,vI (fR rest))],[],2⟩))
  | [],i,h=>by
    have G5:all.length≤i:=by simpa using h
    have A1:A3 (i:Int) (all.length:Int)=false:=C9 (by omega)
    rw[D5]
    simp +contextual -dsimp [f181,A1,fR,D2]
  | s::rest,i,h=>by
    obtain⟨hi,hc,hr⟩:=F6 h
    have A1:A3 (i:Int) (all.length:Int)=true:=F5 (by omega)
    have hw:IntKind.i64.wrap ((i:Int)+1)=((i+1:Nat):Int):=by rw[B6]<;>omega
    have he:i+1+rest.length=i+(rest.length+1):=by omega
    have hs:=hf s (by rw[←hc];exact List.getElem_mem _)
    have g:=Sw s hs.len hs.x
    cases q:A0 (aN s) 0
    · have hm : fR (s :: rest) = aN s := by simp [fR, q, A2]
      rw[hm,q,if_neg (by simp)]
      refine G3 ?_ (by simp)
      simp (maxSteps:=1000000) +contextual -dsimp [f181,A1,hi,hc,g,q]
    · have ih := a5i all B9 hf rest (i + 1) hr
      rw[he] at ih
      have hm:fR (s::rest)=fR rest:=by simp[fR,q,A2]
      rw[hm]
      refine D6 ?_ (by simpa only[List.length_cons] using ih)
      simp (maxSteps:=1000000) +contextual -dsimp [f181,A1,hi,hc,hw,g,q]
def qQ (ps:List (List Step)):Int:=if A7 (A3 ps.length 1) (A3 3 ps.length)=true then 2 else fR ps
theorem d3x (ps:List (List Step)) (Do:ps.length<2 ^ 62) (hf:∀ p,p∈ps→FitP p):fo 181 [A (.sl 160 (ps.map (pT 124 219)))]=some (R (vI (qQ ps))):=by
 unfold qQ
 cases c1:A7 (A3 ps.length 1) (A3 3 ps.length)
 ·have hl:ps.length≤1000:=by simp[A7,A3] at c1;omega
  have A4:=a5i ps hl hf ps 0 rfl
  refine Zr (ps.length+1) ?_
  simp -dsimp [f181] at A4
  cases c2:A0 (fR ps) 0
  ·rw[c2] at A4
   simp (maxSteps:=1000000) +contextual -dsimp [f181,c1,A4]
  ·rw[c2] at A4
   have e0:fR ps=0:=by simpa[A0] using c2
   simp (maxSteps:=1000000) +contextual -dsimp [f181,c1,e0,A4]
 ·refine Zr 1 ?_
  simp (maxSteps:=1000000) +contextual -dsimp [f181,c1]
def nD (e:Engine) (x:Inst):Int:=
 if A2 (A5 x.proc 0 ((e.procs.length:Int) - 1))=true then 3
 else if A2 (A0 (rO (stepsOf e x) x.chart) 0)=true then rO (stepsOf e x) x.chart
 else if A2 (A0 x.chart.now e.now)=true then 9 else 0
def gI (e:Engine):List Inst→Int
 | []=>0
 | x::r=>if A0 (nD e x) 0=true then gI e r else nD e x
theorem a9f (e:Engine) (tl:List T) (hf:FitE e):∀ (rest:List Inst) (i:Nat),e.insts.drop i=rest→
    B7 E (orc E) (107:Nat) (rest.length+1) (C1 f107 0) ⟨82,[(0,.ipt (.sl 160 (e.procs.map (pT 124 219))::.sl 163 (e.insts.map xT)::vI e.now::tl)),(4,vI i)],[],2⟩=
    (if A0 (gI e rest) 0 = true then some (.exit 0, ⟨82, [(0, .ipt (.sl 160 (e.procs.map (pT 124 219)) :: .sl 163 (e.insts.map xT) :: vI e.now :: tl)), (4, vI (i + rest.length : Nat)), (33, vB false)], [], 2⟩)
     else some (.ret,⟨82,[(2,vI (gI e rest))],[],2⟩))
  | [],i,h=>by
    have G5:e.insts.length≤i:=by simpa using h
    have A1:A3 (i:Int) (e.insts.length:Int)=false:=C9 (by omega)
    rw[D5]
    simp +contextual -dsimp [f107,A1,gI,D2]
  | x::rest,i,h=>by
    obtain⟨hi,hc,hr⟩:=F6 h
    have Pr:=hf.ni
    have hnp:=hf.np
    have A1:A3 (i:Int) (e.insts.length:Int)=true:=F5 (by omega)
    have hw:IntKind.i64.wrap ((i:Int)+1)=((i+1:Nat):Int):=by rw[B6]<;>omega
    have Q2:IntKind.i64.wrap ((e.procs.length:Int) - 1)=(e.procs.length:Int) - 1:=by rw[B6]<;>omega
    have he:i+1+rest.length=i+(rest.length+1):=by omega
    have out:∀ k:Int,nD e x=k→A0 k 0=false→gI e (x::rest)=k:=fun k h1 h2=>by simp[gI,h1,h2]
    cases q1:A5 x.proc 0 ((e.procs.length:Int) - 1)
    · have hm := out 3 (by simp [nD, q1, A2]) rfl
      have Z1:A0 (3:Int) 0=false:=rfl
      rw[hm,Z1,if_neg (by simp)]
      refine G3 ?_ (by simp)
      simp (maxSteps:=1000000) +contextual -dsimp [f107,A1,hi,hc,Q2,G0,q1]
    · obtain ⟨a, hx, ha⟩ : ∃ a : Nat, x.proc = a ∧ a < e.procs.length := by
        simp[A5,A6,B5] at q1
        obtain⟨k,hk⟩:=Int.eq_ofNat_of_zero_le q1.1
        exact⟨k,hk,by omega⟩
      have q1':=q1
      rw[hx] at q1'
      have hp:=hf.procs (e.procs[a]) (List.getElem_mem _)
      have e2:stepsOf e x=e.procs[a]:=by simp[stepsOf,hx,ha]
      have g2:=Wu (e.procs[a]) hp.len hp.x x.chart
      cases q2:A0 (rO (e.procs[a]) x.chart) 0
      · have hm := out (rO (e.procs[a]) x.chart) (by simp [nD, q1, e2, q2, A2]) q2
        rw[hm,q2,if_neg (by simp)]
        refine G3 ?_ (by simp)
        simp (maxSteps:=1000000) +contextual -dsimp [f107,A1,hi,hc,Q2,G0,hx,ha,q1',g2,q2]
      · cases q3 : A0 x.chart.now e.now
        · have hm := out 9 (by simp [nD, q1, e2, q2, q3, A2]) rfl
          have Z1:A0 (9:Int) 0=false:=rfl
          rw[hm,Z1,if_neg (by simp)]
          refine G3 ?_ (by simp)
          simp (maxSteps:=1000000) +contextual -dsimp [f107,A1,hi,hc,Q2,G0,hx,ha,q1',g2,q2,q3]
        · have h3 : nD e x = 0 := by simp [nD, q1, e2, q2, q3, A2]
          have ih:=a9f e tl hf rest (i+1) hr
          rw[he] at ih
          have hm:gI e (x::rest)=gI e rest:=by simp[gI,h3,D2]
          rw[hm]
          refine D6 ?_ (by simpa only[List.length_cons] using ih)
          simp (maxSteps:=1000000) +contextual -dsimp [f107,A1,hi,hc,hw,Q2,G0,hx,ha,q1',g2,q2,q3]
def Dq (e:Engine):Int:=
 if A3 6 e.insts.length=true then 2
 else if A2 (A0 (qQ e.procs) 0)=true then qQ e.procs
 else if A2 (A5 e.now 0 1000000)=true then 3
 else gI e e.insts
theorem Gk (e:Engine) (tl:List T) (hf:FitE e):fo 107 [A (.ipt (.sl 160 (e.procs.map (pT 124 219))::.sl 163 (e.insts.map xT)::vI e.now::tl))]=some (R (vI (Dq e))):=by
 have g1:=d3x e.procs hf.np hf.procs
 have A4:=a9f e tl hf e.insts 0 rfl
 simp -dsimp [f107] at A4
 unfold Dq
 refine e3b (e.insts.length+1) ?_
 cases q1:A3 6 e.insts.length
 ·cases q2:A0 (qQ e.procs) 0
  ·simp (maxSteps:=1000000) +contextual -dsimp [f107,g1,q1,q2]
  ·have e0:qQ e.procs=0:=by simpa[A0] using q2
   cases q3:A5 e.now 0 1000000
   ·simp (maxSteps:=1000000) +contextual -dsimp [f107,dD,g1,q1,e0,D2,q3]
   ·cases q4:A0 (gI e e.insts) 0
    ·rw[q4] at A4
     simp (maxSteps:=1000000) +contextual -dsimp [f107,dD,g1,q1,e0,D2,q3,A4]
    ·rw[q4] at A4
     have e1:gI e e.insts=0:=by simpa[A0] using q4
     simp (maxSteps:=1000000) +contextual -dsimp [f107,dD,g1,q1,e0,D2,q3,e1,A4]
 ·simp (maxSteps:=1000000) +contextual -dsimp [f107,q1]
theorem yL (n:Int):fo 174 [A (vI n)]=some (R (vB (A5 n 1 9))):=by
 refine e1k 1 ?_
 simp (maxSteps:=1000000) +contextual -dsimp [f174,G0]
def Bv (a b:Claim):Bool:=A7 (A3 a.inst b.inst) (A6 (A0 a.inst b.inst) (A3 a.step b.step))
theorem e4l (a b:Claim):fo 133 [A (.agg (kT a)),A (.agg (kT b))]=some (R (vB (Bv a b))):=by
 unfold Bv
 refine e0p 1 ?_
 simp (maxSteps:=1000000) +contextual -dsimp [f133]
theorem Yi (e:Engine) (tl:List T) (i:Nat) (hi:i<e.insts.length) (a:Nat) (hx:(e.insts[i]).proc=a) (ha:a<e.procs.length) (hl:(e.procs[a]).length<2 ^ 62)
  (hc:(e.insts[i]).chart.acts.length=(e.procs[a]).length) (step:Int):
  fo 175 [A (.ipt (.sl 160 (e.procs.map (pT 124 219))::.sl 163 (e.insts.map xT)::vI e.now::tl)),A (vI i),A (vI step)]=some (R (vB (eQ e i step))):=by
 have e1:X4 e i=e.insts[i]:=by simp[X4,hi]
 have e2:stepsOf e (e.insts[i])=e.procs[a]:=by simp[stepsOf,hx,ha]
 have hw:IntKind.i64.wrap (((e.procs[a]).length:Int) - 1)=((e.procs[a]).length:Int) - 1:=by rw[B6]<;>omega
 unfold eQ
 rw[e1,e2]
 unfold qN
 refine d8z 1 ?_
 cases q:A5 step 0 (((e.procs[a]).length:Int) - 1)
 ·simp (maxSteps:=1000000) +contextual -dsimp [f175,G0,hi,hx,ha,hw,q]
 ·obtain⟨k,rfl,hk⟩:∃ k:Nat,step=k∧k<(e.procs[a]).length:=by
   simp[A5,A6,B5] at q
   obtain⟨k,rfl⟩:=Int.eq_ofNat_of_zero_le q.1
   exact⟨k,rfl,by omega⟩
  have P1:k<(e.insts[i]).chart.acts.length:=by omega
  have hs:B4 (e.insts[i]).chart.acts (k:Int)=(e.insts[i]).chart.acts[k]:=bF P1
  have mV:C2 (e.procs[a]) k=((e.procs[a])[k]).kind:=by simp[C2,hk]
  simp (maxSteps:=1000000) +contextual -dsimp [f175,G0,hi,hx,ha,hw,q,hk,P1,hs,mV]
end Go.TM.Ft
namespace Go.TM.Ft
open Go Go.TM Go.Proofs Go.Proofs.Tryz
set_option maxRecDepth 20000
theorem a1m (p:Int→Bool):∀ (l:List Int) (i:Nat),B5 0 (G8 p i l)=l.any p
 | [],i=>by simp[G8,B5]
 | x::l,i=>by
  have ih:=a1m p l (i+1)
  unfold G8
  cases h:p x
  ·simp[ih,h]
  ·simp[h,B5]
theorem rY (p:Int→Bool) (l:List Int):aH p l=l.any p:=a1m p l 0
theorem c9y:∀ (l:List Int),jV l=l.any badV
 | []=>rfl
 | x::l=>by
  unfold jV
  rw[c9y l]
  cases h:badV x<;>simp[h]
theorem c4z (l:List Int):rK l=W6 l:=by
 unfold rK W6
 rw[c9y,rY]
 cases A0 l.length 4<;>cases l.any badV<;>rfl
theorem f0f {l:List Int} {p:Int→Bool}:l.any p=true↔∃ i,i<l.length∧p (B4 l i)=true:=by
 rw[List.any_eq_true]
 constructor
 ·rintro⟨x,hx,hp⟩
  obtain⟨i,hi,he⟩:=List.getElem_of_mem hx
  exact⟨i,hi,by rw[bF hi,he];exact hp⟩
 ·rintro⟨i,hi,hp⟩
  rw[bF hi] at hp
  exact⟨_,List.getElem_mem hi,hp⟩
theorem a1b (c:Chart):∀ (f i:Nat),eB c f i=true↔∃ k,i≤k∧k<i+f∧pV c k=true
 | 0,i=>by simp[eB];omega
 | f+1,i=>by
  unfold eB
  have ih:=a1b c f (i+1)
  cases h:pV c i
  ·simp only[Bool.false_eq_true,if_false]
   rw[ih]
   constructor
   ·rintro⟨k,h1,h2,h3⟩;exact⟨k,by omega,by omega,h3⟩
   ·rintro⟨k,h1,h2,h3⟩
    rcases Nat.lt_or_ge i k with h' | h'
    ·exact⟨k,h',by omega,h3⟩
    ·have e:k=i:=by omega
     subst e;rw[h] at h3;simp at h3
  ·simp only[if_true,true_iff]
   exact⟨i,Nat.le_refl _,by omega,h⟩
theorem Ym (c:Chart):∀ (f i:Nat) (s:Bool),lS c f i s=true↔s=true∨∃ k,i≤k∧k<i+f∧(B4 c.acts k≠0∨B4 c.dues k≠0)
 | 0,i,s=>by
  simp only[lS]
  constructor
  ·exact .inl
  ·rintro (h | ⟨k,h1,h2,_⟩)
   ·exact h
   ·omega
 | f+1,i,s=>by
  have ih:=Ym c f (i+1) (uD c i s)
  unfold lS
  rw[ih]
  have h1:uD c i s=true↔s=true∨B4 c.acts i≠0∨B4 c.dues i≠0:=by
   simp[uD,A7,A2,A0,or_assoc]
  rw[h1]
  constructor
  ·rintro ((h | h) | ⟨k,a,b,h⟩)
   ·exact .inl h
   ·exact .inr ⟨i,Nat.le_refl _,by omega,h⟩
   ·exact .inr ⟨k,by omega,by omega,h⟩
  ·rintro (h | ⟨k,a,b,h⟩)
   ·exact .inl (.inl h)
   ·rcases Nat.lt_or_ge i k with h' | h'
    ·exact .inr ⟨k,h',by omega,h⟩
    ·have e:k=i:=by omega
     subst e;exact .inl (.inr h)
theorem Co {m:Int} {l:List Int}:R9 m l=false↔∃ i,i<l.length∧A5 (B4 l i) 0 m=false:=by
 unfold R9
 rw[rY]
 have:A2 (l.any (cR m))=false↔l.any (cR m)=true:=by simp[A2]
 rw[this,f0f]
 simp[cR,A2]
theorem e5b {c:Chart} {n:Nat} (ha:c.acts.length=n) (hd:c.dues.length=n):eB c n 0=A7 (A2 (R9 2 c.acts)) (A2 (R9 (c.now+99) c.dues)):=by
 rw[Bool.eq_iff_iff,a1b]
 have e1:A7 (A2 (R9 2 c.acts)) (A2 (R9 (c.now+99) c.dues))=true↔R9 2 c.acts=false∨R9 (c.now+99) c.dues=false:=by simp[A7,A2]
 rw[e1,Co,Co]
 have e2:∀ k,pV c k=true↔A5 (B4 c.acts k) 0 2=false∨A5 (B4 c.dues k) 0 (c.now+99)=false:=fun k=>by simp[pV,A7,A2]
 constructor
 ·rintro⟨k,_,h2,h3⟩
  rcases (e2 k).1 h3 with h | h
  ·exact .inl ⟨k,by omega,h⟩
  ·exact .inr ⟨k,by omega,h⟩
 ·rintro (⟨k,h2,h3⟩ | ⟨k,h2,h3⟩)
  ·exact⟨k,Nat.zero_le _,by omega,(e2 k).2 (.inl h3)⟩
  ·exact⟨k,Nat.zero_le _,by omega,(e2 k).2 (.inr h3)⟩
theorem e6r {c:Chart} {n:Nat} (ha:c.acts.length=n) (hd:c.dues.length=n):lS c n 0 false=A2 (A6 (R9 0 c.acts) (R9 0 c.dues)):=by
 rw[Bool.eq_iff_iff,Ym]
 have e1:A2 (A6 (R9 0 c.acts) (R9 0 c.dues))=true↔R9 0 c.acts=false∨R9 0 c.dues=false:=by
  cases R9 0 c.acts<;>cases R9 0 c.dues<;>simp[A2,A6]
 have e2:∀ x:Int,A5 x 0 0=false↔x≠0:=fun x=>by
  by_cases h:x=0
  ·simp[A5,A6,B5,h]
  ·have:¬ (0≤x∧x≤0):=by omega
   simp[A5,A6,B5,h];omega
 rw[e1,Co,Co]
 simp only[e2,Bool.false_eq_true,false_or]
 constructor
 ·rintro⟨k,_,h2,h | h⟩
  ·exact .inl ⟨k,by omega,h⟩
  ·exact .inr ⟨k,by omega,h⟩
 ·rintro (⟨k,h2,h3⟩ | ⟨k,h2,h3⟩)
  ·exact⟨k,Nat.zero_le _,by omega,.inl h3⟩
  ·exact⟨k,Nat.zero_le _,by omega,.inr h3⟩
theorem Hh (acts:List Int) (act:Int):∀ (l:List Int) (n:Nat),n<G1 acts act l n↔∃ k,k∈l∧B4 acts k=act
 | [],n=>by simp[G1]
 | x::l,n=>by
  unfold G1
  cases h:A0 (B4 acts x) act
  ·simp only[Bool.false_eq_true,if_false]
   rw[Hh acts act l n]
   have hx:B4 acts x≠act:=by simpa[A0] using h
   simp[hx]
  ·simp only[if_true]
   have hx:B4 acts x=act:=by simpa[A0] using h
   have h1:=Hh acts act l (n+1)
   have h2:n+1≤G1 acts act l (n+1):=by
    clear h1 h hx
    have:∀ (l:List Int) (m:Nat),m≤G1 acts act l m:=by
     intro l
     induction l with
     | nil=>intro m;simp[G1]
     | cons y l ih=>
      intro m
      unfold G1
      split
      ·have:=ih (m+1);omega
      ·exact ih m
    exact this l (n+1)
   constructor
   ·intro _;exact⟨x,by simp,hx⟩
   ·intro _;omega
theorem Bw {p:Int}:∀ {l:List Step} {i:Nat} {k:Int},k∈D4 p i l↔∃ (a:Nat) (h:a<l.length),k=(i+a:Nat)∧(l[a]).parent=p
 | [],i,k=>by simp[D4]
 | x::l,i,k=>by
  have ih:=Bw (p:=p) (l:=l) (i:=i+1) (k:=k)
  have tl:(∃ (a:Nat) (h:a<l.length),k=(i+1+a:Nat)∧(l[a]).parent=p)↔∃ (a:Nat) (h:a<(x::l).length),k=(i+a:Nat)∧((x::l)[a]).parent=p∧0<a:=by
   constructor
   ·rintro⟨a,h,h1,h2⟩
    exact⟨a+1,by simp;omega,by omega,by simpa using h2,by omega⟩
   ·rintro⟨a,h,h1,h2,h3⟩
    cases a with
    | zero=>omega
    | succ a=>exact⟨a,by simpa using h,by omega,by simpa using h2⟩
  unfold D4
  cases h:A0 x.parent p
  ·simp only[Bool.false_eq_true,if_false]
   rw[ih,tl]
   constructor
   ·rintro⟨a,h,h1,h2,_⟩;exact⟨a,h,h1,h2⟩
   ·rintro⟨a,ha,h1,h2⟩
    refine⟨a,ha,h1,h2,?_⟩
    cases a with
    | zero=>simp[A0] at h;simp at h2;exact absurd h2 h
    | succ a=>omega
  ·simp only[if_true,List.mem_cons]
   rw[ih,tl]
   constructor
   ·rintro (h1 | ⟨a,h,h1,h2,_⟩)
    ·exact⟨0,by simp,by simpa using h1,by simpa[A0] using h⟩
    ·exact⟨a,h,h1,h2⟩
   ·rintro⟨a,ha,h1,h2⟩
    cases a with
    | zero=>exact .inl (by simpa using h1)
    | succ a=>exact .inr ⟨a+1,ha,h1,h2,by omega⟩
def gS (l:List Step) (c:Chart) (i:Nat):Nat:=G1 c.acts 1 (D4 i 0 l) 0
def gY (l:List Step) (c:Chart) (i:Nat):Nat:=G1 c.acts 2 (D4 i 0 l) 0
theorem Od {l:List Step} {c:Chart} {i:Nat}:rN l c i=false ↔
    (B4 c.acts i≠1∧gS l c i+gY l c i=0∧B4 c.dues i=0)∨
    (B4 c.acts i=1∧
      (((C2 l i = 1 ∨ C2 l i = 3) ∧ gS l c i = 1 ∧ gY l c i = 0 ∧ B4 c.dues i = 0) ∨
       (C2 l i=4∧gS l c i≠0∧gS l c i+gY l c i=(D4 i 0 l).length∧B4 c.dues i=0)∨
       (C2 l i=8∧gS l c i=1∧gY l c i=0∧(B4 c.dues i≠0↔B4 c.acts (B4 (D4 i 0 l) 0)=1))∨
       (C2 l i=6∧B4 c.dues i≠0)∨
       (C2 l i≠1∧C2 l i≠3∧C2 l i≠4∧C2 l i≠8∧C2 l i≠6∧C2 l i≠7∧B4 c.dues i=0))):=by
  unfold rN kO
  rw[show G1 c.acts 1 (D4 i 0 l) 0=gS l c i from rfl,show G1 c.acts 2 (D4 i 0 l) 0=gY l c i from rfl]
  generalize gS l c i=on
  generalize gY l c i=ov
  generalize C2 l i=k
  generalize B4 c.acts i=ac
  generalize B4 c.dues i=du
  generalize H8:D4 i 0 l=ks
  generalize B4 c.acts (B4 ks 0)=fa
  by_cases h1:ac=1
  · by_cases k1 : k = 1
    · simp[h1,k1,A2,A0,A7,A3];omega
    by_cases k3:k=3
    · simp[h1,k3,A2,A0,A7,A3];omega
    by_cases k4:k=4
    · simp[h1,k4,A2,A0,A7,A3];omega
    by_cases k8:k=8
    · by_cases d0:du=0<;>by_cases f0:fa=1<;>simp[h1,k8,A2,A0,A7,A3,W4,d0,f0]<;>first | omega | (intro _ _;rw[show (du==0)=false by simp[d0],show (fa==1)=false by simp[f0]])
    by_cases k6:k=6
    · simp[h1,k6,A2,A0,A7]
    by_cases k7:k=7
    · simp[h1,k7,A2,A0,A7]
    · simp[h1,k1,k3,k4,k8,k6,k7,A2,A0,A7]
  · simp[h1,A2,A0,A7,A3];omega
theorem Rv {l:List Step} {c:Chart} {i:Nat} (hk:C0 i 0 l=D4 i 0 l):lZ l c i=true ↔
    ¬ (B4 c.acts i=2∧(i=0∨C2 l (parOf l i)≠4))∧
    ((B4 c.acts i ≠ 1 ∧ gS l c i + gY l c i = 0 ∧ B4 c.dues i = 0) ∨
     (B4 c.acts i = 1 ∧
      (((C2 l i = 1 ∨ C2 l i = 3) ∧ gS l c i = 1 ∧ B4 c.dues i = 0) ∨
       (C2 l i=4∧gS l c i≠0∧gS l c i+gY l c i=(D4 i 0 l).length∧B4 c.dues i=0)∨
       (C2 l i=8∧gS l c i=1∧(B4 c.dues i≠0↔B4 c.acts (B4 (D4 i 0 l) 0)=1))∨
       (C2 l i=6∧B4 c.dues i≠0)∨
       (C2 l i≠1∧C2 l i≠3∧C2 l i≠4∧C2 l i≠8∧C2 l i≠6∧C2 l i≠7∧B4 c.dues i=0)))):=by
  unfold lZ eN
  rw[hk]
  rw[show G1 c.acts 1 (D4 i 0 l) 0=gS l c i from rfl,show G1 c.acts 2 (D4 i 0 l) 0=gY l c i from rfl]
  generalize gS l c i=on
  generalize gY l c i=ov
  generalize C2 l i=k
  generalize B4 c.acts i=ac
  generalize B4 c.dues i=du
  generalize H8:D4 i 0 l=ks
  generalize B4 c.acts (B4 ks 0)=fa
  generalize C2 l (parOf l i)=pk
  have hb:A6 (A0 ac 2) (A7 (A0 i 0) (A2 (A0 pk 4)))=true↔ac=2∧(i=0∨pk≠4):=by
    simp[A6,A7,A2,A0]
  by_cases q:ac=2∧(i=0∨pk≠4)
  · rw [if_pos (hb.2 q)]
    simp[q]
  · rw [if_neg (fun h => q (hb.1 h))]
    simp only[q,not_false_eq_true,true_and]
    by_cases h1:ac=1
    · by_cases k1 : k = 1
      · by_cases o1:on=1<;>by_cases d0:du=0<;>simp[h1,k1,A2,A0,A7,W4,o1,d0]<;>omega
      by_cases k3:k=3
      · by_cases o1:on=1<;>by_cases d0:du=0<;>simp[h1,k3,A2,A0,A7,W4,o1,d0]<;>omega
      by_cases k4:k=4
      · by_cases o1:on=0<;>by_cases o2:on+ov=ks.length<;>by_cases d0:du=0<;>simp[h1,k4,A2,A0,A7,W4,o1,o2,d0]<;>omega
      by_cases k8:k=8
      · by_cases o1:on=1<;>by_cases d0:du=0<;>by_cases f0:fa=1<;>simp[h1,k8,A2,A0,A7,W4,o1,d0,f0]<;>first | omega | (rw[show (du==0)=false by simp[d0],show (fa==1)=false by simp[f0]])
      by_cases k6:k=6
      · by_cases d0:du=0<;>simp[h1,k6,A2,A0,A7,W4,d0]
      by_cases k7:k=7
      · simp[h1,k7,A2,A0,A7]
      · by_cases d0:du=0<;>simp[h1,k1,k3,k4,k8,k6,k7,A2,A0,A7,W4,d0]
    · by_cases d0:du=0<;>simp[h1,A2,A0,A6,d0]<;>omega
theorem Zu (l:List Step) (c:Chart):∀ (f i:Nat),fD l c f i=false↔∀ k,i≤k→k<i+f→rN l c k=false
 | 0,i=>by simp[fD];intro k h1 h2;omega
 | f+1,i=>by
  unfold fD
  have ih:=Zu l c f (i+1)
  cases h:rN l c i
  ·simp only[Bool.false_eq_true,if_false]
   rw[ih]
   constructor
   ·intro hh k h1 h2
    rcases Nat.lt_or_ge i k with h' | h'
    ·exact hh k h' (by omega)
    ·have e:k=i:=by omega
     subst e;exact h
   ·intro hh k h1 h2;exact hh k (by omega) (by omega)
  ·simp only[if_true]
   constructor
   ·intro h';simp at h'
   ·intro hh;have:=hh i (Nat.le_refl _) (by omega);rw[h] at this;simp at this
theorem a2i (l:List Step) (c:Chart):∀ (f i:Nat),cG l c f i=true↔∀ k,i≤k→k<i+f→lZ l c k=true
 | 0,i=>by simp[cG];intro k h1 h2;omega
 | f+1,i=>by
  unfold cG
  have ih:=a2i l c f (i+1)
  cases h:lZ l c i
  ·simp only[Bool.false_eq_true,if_false]
   constructor
   ·intro h';simp at h'
   ·intro hh;have:=hh i (Nat.le_refl _) (by omega);rw[h] at this;simp at this
  ·simp only[if_true]
   rw[ih]
   constructor
   ·intro hh k h1 h2
    rcases Nat.lt_or_ge i k with h' | h'
    ·exact hh k h' (by omega)
    ·have e:k=i:=by omega
     subst e;exact h
   ·intro hh k h1 h2;exact hh k (by omega) (by omega)
theorem jK {l:List Step} (ok:ProcOk l) (i:Nat):C0 i 0 l=D4 i 0 l:=Nx l 0 fun _ s hs=>by
 have:=ok.par0 (by have:=ok.pos;omega)
 have h0:0<l.length:=by have:=ok.pos;omega
 have e:l[0]?=some l[0]:=by simp
 rw[e] at hs
 have:=Option.some.inj hs
 subst this
 omega
theorem b7j {l:List Step} (ok:ProcOk l) {i:Nat} (hi:i<l.length) (h1:C2 l i≠1) (h3:C2 l i≠3) (h4:C2 l i≠4) (h8:C2 l i≠8):D4 i 0 l=[]:=by
 have hc:=ok.cond i hi
 unfold condFaultM at hc
 have zH:uG l i=0:=by
  split at hc
  ·exact hc
  ·rename_i c
   simp[A7,A2,A0] at c
   exact c.1
 have:=(P9 zH).1
 have hb:T3 (C2 l i)=(0,0):=by
  unfold T3
  simp[A0,h1,h3,h4,h8]
 rw[hb] at this
 have hn:A2 (A5 (C0 i 0 l).length 0 0)=false:=by
  cases h:A2 (A5 (C0 i 0 l).length 0 0)
  ·rfl
  ·rw[h] at this;simp at this
 rw[jK ok] at hn
 simp[A2,A5,A6,B5] at hn
 exact List.length_eq_zero_iff.1 (by simpa using hn)
theorem f2d {l:List Step} (ok:ProcOk l) {c:Chart} (h0:B4 c.acts 0=1):cG l c l.length 0=true↔fD l c l.length 0=false:=by
 rw[a2i,Zu]
 constructor
 ·intro hf k _ hk
  have hk:k<l.length:=by omega
  obtain⟨_,h2⟩:=(Rv (jK ok k)).1 (hf k (Nat.zero_le _) (by omega))
  have Bo:C2 l k≠4→gY l c k=0:=fun hk4=>by
   rcases Nat.eq_zero_or_pos (gY l c k) with h | h
   ·exact h
   ·exfalso
    obtain⟨x,hx,ha⟩:=(Hh _ _ _ _).1 h
    obtain⟨a,S2,rfl,hp⟩:=Bw.1 hx
    rw[Nat.zero_add] at ha
    have eV:a≠0:=fun h=>by subst h;simp at ha;rw[h0] at ha;omega
    obtain⟨h1,_⟩:=(Rv (jK ok a)).1 (hf a (Nat.zero_le _) (by omega))
    have yU:parOf l a=k:=by simp[parOf,S2,hp]
    exact h1 ⟨ha,.inr (by rw[yU];exact hk4)⟩
  rw[Od]
  rcases h2 with h | ⟨ha,h⟩
  ·exact .inl h
  ·right
   refine⟨ha,?_⟩
   rcases h with⟨iA,h⟩ | h | ⟨Ju,h⟩ | h | h
   ·exact .inl ⟨iA,h.1,Bo (by omega),h.2⟩
   ·exact .inr (.inl h)
   ·exact .inr (.inr (.inl ⟨Ju,h.1,Bo (by omega),h.2⟩))
   ·exact .inr (.inr (.inr (.inl h)))
   ·exact .inr (.inr (.inr (.inr h)))
 ·intro hw k _ hk
  have hk:k<l.length:=by omega
  have h2:=Od.1 (hw k (Nat.zero_le _) (by omega))
  rw[Rv (jK ok k)]
  refine⟨fun ⟨ha,qI⟩=>?_,?_⟩
  ·have mQ:k≠0:=fun h=>by subst h;simp at ha;rw[h0] at ha;omega
   obtain⟨a,hp,hak⟩:=ok.par k hk (by omega)
   have S2:a<l.length:=by omega
   have R7:(k:Int)∈D4 a 0 l:=Bw.2 ⟨k,hk,by simp,hp⟩
   have yU:parOf l k=a:=by simp[parOf,hk,hp]
   have Bo:0<gY l c a:=(Hh _ _ _ _).2 ⟨k,R7,ha⟩
   have Q2:=Od.1 (hw a (Nat.zero_le _) (by omega))
   rw[yU] at qI
   have hnk:∀ h:D4 a 0 l=[],False:=fun h=>by rw[h] at R7;simp at R7
   rcases Q2 with h | ⟨_,⟨_,h⟩ | h | ⟨_,h⟩ | h | h⟩
   ·omega
   ·omega
   ·rcases qI with h' | h'
    ·omega
    ·exact h' h.1
   ·omega
   ·exact hnk (b7j ok S2 (by omega) (by omega) (by omega) (by omega))
   ·exact hnk (b7j ok S2 h.1 h.2.1 h.2.2.1 h.2.2.2.1)
  ·rcases h2 with h | ⟨ha,h⟩
   ·exact .inl h
   ·right
    refine⟨ha,?_⟩
    rcases h with⟨iA,h⟩ | h | ⟨Ju,h⟩ | h | h
    ·exact .inl ⟨iA,h.1,h.2.2⟩
    ·exact .inr (.inl h)
    ·exact .inr (.inr (.inl ⟨Ju,h.1,h.2.2⟩))
    ·exact .inr (.inr (.inr (.inl h)))
    ·exact .inr (.inr (.inr (.inr h)))
theorem a8p (l:List Step) (c:Chart):rO l c=chartM l c:=by
 have hq:¬ (A2 (A0 (0:Int) 0)=true):=by simp[A2,A0]
 have Gi:¬ (false=true):=by simp
 unfold rO chartM kP
 rw[Gg,c4z]
 by_cases h1:Q4 l=0
 ·have ok:=Gz h1
  rw[h1,if_neg hq]
  cases q2:A7 (A2 (A5 c.status 1 3)) (A2 (A5 c.now 0 1000000))
  ·rw[if_neg Gi]
   by_cases h3:W6 c.vars=0
   ·rw[h3,if_neg hq]
    cases q4:A7 (A2 (A0 c.acts.length l.length)) (A2 (A0 c.dues.length l.length))
    ·have hl:c.acts.length=l.length∧c.dues.length=l.length:=by
      simp[A7,A2,A0] at q4;omega
     have e0:C5 0 (C5 (ci false 3) (C5 0 (ci false 2)))=0:=by rfl
     rw[if_neg Gi,e5b hl.1 hl.2,e6r hl.1 hl.2,e0,if_neg hq]
     cases A7 (A2 (R9 2 c.acts)) (A2 (R9 (c.now+99) c.dues))
     ·rw[if_neg Gi,if_neg Gi]
      unfold tQ
      by_cases h5:c.status=1
      ·have hs:¬ (A2 (A0 c.status 1)=true):=by simp[A2,A0,h5]
       rw[if_neg hs,if_neg hs]
       by_cases h6:B4 c.acts 0=1
       ·have zN:¬ (A2 (A0 (B4 c.acts 0) 1)=true):=by simp[A2,A0,h6]
        have uQ:A0 (B4 c.acts 0) 1=true:=by simp[A0,h6]
        rw[if_neg zN,uQ]
        have hfw:=f2d ok h6
        cases q6:fD l c l.length 0
        ·rw[hfw.2 q6];rfl
        ·cases q7:cG l c l.length 0
         ·rfl
         ·rw[hfw.1 q7] at q6;simp at q6
       ·have zN:A2 (A0 (B4 c.acts 0) 1)=true:=by simp[A2,A0,h6]
        have:A0 (B4 c.acts 0) 1=false:=by simp[A0,h6]
        rw[if_pos zN,this]
        cases cG l c l.length 0<;>rfl
      ·have hs:A2 (A0 c.status 1)=true:=by simp[A2,A0,h5]
       rw[if_pos hs,if_pos hs]
       cases A6 (R9 0 c.acts) (R9 0 c.dues)<;>rfl
     ·rfl
    ·rfl
   ·have e1:C5 0 (C5 (ci false 3) (C5 (W6 c.vars) (ci (A7 (A2 (A0 c.acts.length l.length)) (A2 (A0 c.dues.length l.length))) 2)))=W6 c.vars:=by
     have:A0 (W6 c.vars) 0=false:=by simp[A0,h3]
     simp[C5,ci,D2,this]
    have hs:A2 (A0 (W6 c.vars) 0)=true:=by simp[A2,A0,h3]
    rw[e1,if_pos hs,if_pos hs]
  ·have e1:C5 0 (C5 (ci true 3) (C5 (W6 c.vars) (ci (A7 (A2 (A0 c.acts.length l.length)) (A2 (A0 c.dues.length l.length))) 2)))=3:=by rfl
   rw[e1];rfl
 ·have e1:∀ b,C5 (Q4 l) b=Q4 l:=fun b=>by
   have:A0 (Q4 l) 0=false:=by simp[A0,h1]
   simp[C5,this]
  have hs:A2 (A0 (Q4 l) 0)=true:=by simp[A2,A0,h1]
  rw[e1,if_pos hs,if_pos hs]
end Go.TM.Ft
