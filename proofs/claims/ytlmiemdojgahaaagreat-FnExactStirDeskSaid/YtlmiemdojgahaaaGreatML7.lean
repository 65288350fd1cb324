/- What functions of the program come to, by the machine. -/
import Derived.Test.YtlmiemdojgahaaaGreatML6
import Derived.Test.YtlmiemdojgahaaaGreatML4
set_option linter.unusedSimpArgs false
set_option linter.unusedVariables false
set_option maxHeartbeats 8000000
namespace Go.TM.Ft
open Go Go.TM Go.Proofs Go.Proofs.Tryz
set_option maxRecDepth 20000
attribute [local congr] O3
attribute [local simp] L9 M4 K0 L6 J6 L4 J8 J1 K5 I6
abbrev bO (l:List Step) (c:Chart):List T:=[.sl 124 (l.map (sT 219)),vI c.status,vI c.now,.own 2 (iE c.vars),.own 2 (iE c.acts),.own 2 (iE c.dues)]
abbrev aB (l:List Step) (c:Chart):Arg:=⟨.ptr 0 0 [] 0,some ⟨0,1,true,bO l c⟩⟩
abbrev RB (l:List Step) (c:Chart):Res:=⟨.tup [],[(0,bO l c)],true⟩
def aU (l:List Step) (st:Int) (c:Chart):Chart:={ c with status:=st,acts:=List.replicate l.length 0,dues:=List.replicate l.length 0 }
def jJ (ks:List Int) (xs:List Int):List Int:=ks.foldl (fun xs k=>xs.set k.toNat 0) xs
def bM (ks:List Int) (c:Chart):Chart:={ c with acts:=jJ ks c.acts,dues:=jJ ks c.dues }
theorem Nr:∀ (ks xs:List Int),(jJ ks xs).length=xs.length
 | [],_=>rfl
 | k::ks,xs=>by
  have:=Nr ks (xs.set k.toNat 0)
  simpa[jJ] using this
theorem Tg (l:List Step) (hl:l.length≤1000) (c:Chart) (st:Int):fo 239 [aB l c,A (vI st)]=some (RB l (aU l st c)):=by
 have hm:((l.length:Nat):Int)≤(D0:Nat):=by unfold D0;omega
 refine b9z 1 ?_
 simp (maxSteps:=1000000) +contextual -dsimp [f239,hm,aU,List.set]
theorem Li:∀ (ks:List Int) (i:Nat) (c:Chart),S8 (fun (_:Nat) (c:Chart) (k:Int)=>{ c with acts:=c.acts.set k.toNat 0,dues:=c.dues.set k.toNat 0 }) i c ks=bM ks c
 | [],_,c=>rfl
 | k::ks,i,c=>by
  simp only[S8]
  rw[Li ks]
  simp[bM,jJ]
theorem d7j (l:List Step) (c:Chart) (ks:List Int) (hk:ks.length<2 ^ 62) (I5:∀ k,k∈ks→∃ x:Nat,k=x∧x<c.acts.length∧x<c.dues.length):
  B7 E (orc E) (200:Nat) (ks.length+1) (C1 f200 0) ⟨32,[(0,.ptr 0 0 [] 0),(11,iS ks),(12,vI ks.length),(13,vI (0:Nat))],[(0,⟨0,1,true,bO l c⟩)],2⟩=
  some (.exit 0,⟨32,[(0,.ptr 0 0 [] 0),(11,iS ks),(12,vI ks.length),(13,vI ks.length),(14,vB false)],[(0,⟨0,1,true,bO l (bM ks c)⟩)],2⟩):=by
 have h:=iJ (f:=200) (id:=0) (code:=C1 f200 0) ks (fun _ c'=>c'.acts.length=c.acts.length∧c'.dues.length=c.dues.length)
  (fun i c'=>⟨32,[(0,.ptr 0 0 [] 0),(11,iS ks),(12,vI ks.length),(13,vI i)],[(0,⟨0,1,true,bO l c'⟩)],2⟩) (fun (_:Nat) (c:Chart) (k:Int)=>{ c with acts:=c.acts.set k.toNat 0,dues:=c.dues.set k.toNat 0 })
  (fun c'=>⟨32,[(0,.ptr 0 0 [] 0),(11,iS ks),(12,vI ks.length),(13,vI ks.length),(14,vB false)],[(0,⟨0,1,true,bO l c'⟩)],2⟩)
 have h2:=h ?_ ?_ c ⟨rfl,rfl⟩
 ·rw[Li] at h2;exact h2
 ·intro k c' _
  have A1:=cF ks.length
  simp +contextual -dsimp [f200,A1]
 ·intro k i c' hi hI
  obtain⟨x,hx,h1,h2⟩:=I5 ks[i] (List.getElem_mem hi)
  have A1:=U2 hi
  have hw:=S6 hi hk
  have e1:x<c'.acts.length:=by omega
  have e2:x<c'.dues.length:=by omega
  refine⟨?_,by simp;exact hI⟩
  simp (maxSteps:=1000000) +contextual -dsimp [f200,A1,hi,hw,hx,e1,e2,List.set]
theorem Ze {l:List Step} (w:Wf l) (c:Chart) (ha:c.acts.length=l.length) (hd:c.dues.length=l.length) (k:Nat) (hk:k<l.length):
  fo 200 [aB l c,A (vI k)]=some (RB l (bM (O7 l k) c)):=by
 have g:=f3j w k hk
 have D8:=c6u l k
 have hl:=w.ok.le
 have N2:=Y3 (O7 l k)
 have A4:=d7j l c (O7 l k) (by omega) (fun k hk=>by
  obtain⟨x,h1,h2,h3,h4⟩:=c8z hk
  exact⟨x,h1,by omega,by omega⟩)
 refine d3b ((O7 l k).length+1) ?_
 simp -dsimp [f200] at A4
 simp (maxSteps:=1000000) +contextual -dsimp [f200,g,N2,A4]
def eC (acts:List Int) (k:Int):Bool:=A2 (A0 (B4 acts k) 2)
theorem e6m (l:List Step) (c:Chart) (k:Nat) (hk:k<c.acts.length):fo 249 [A (vI k),A (.ipt [.ipt (bT l c)])]=some (R (vB (eC c.acts k))):=by
 have hs:=O1 hk
 refine e4v 1 ?_
 simp (maxSteps:=1000000) +contextual -dsimp [f249,hk,eC,hs]
theorem b6v {g:Nat} {cap:List T} (tL:E.mode (g:Nat)=[]) (p:Int→Bool) (all:List Int) (B9:all.length<2 ^ 62) (hg:∀ x,x∈all→fo g [A (vI x),A (.ipt cap)]=some (R (vB (p x)))) (hv:¬ g=127:=by decide):
    ∀ (rest:List Int) (i:Nat),all.drop i=rest→
    B7 E (orc E) (280:Nat) (rest.length+1) (C1 f280 0) ⟨19,[(0,iS all),(1,.clo g [.ipt cap]),(7,vI all.length),(8,vI i)],[],2⟩=
    (if A3 (G8 p i rest) 0 = true then some (.exit 0, ⟨19, [(0, iS all), (1, .clo g [.ipt cap]), (7, vI all.length), (8, vI (i + rest.length : Nat)), (9, vB false)], [], 2⟩)
     else some (.ret,⟨19,[(4,vI (G8 p i rest))],[],2⟩))
  | [],i,h=>by
    have G5:all.length≤i:=by simpa using h
    have A1:A3 (i:Int) (all.length:Int)=false:=C9 (by omega)
    have h1:A3 (-1) 0=true:=rfl
    rw[D5]
    simp +contextual -dsimp [f280,A1,G8,h1]
  | x::rest,i,h=>by
    obtain⟨hi,hc,hr⟩:=F6 h
    have A1:A3 (i:Int) (all.length:Int)=true:=F5 (by omega)
    have hw:IntKind.i64.wrap ((i:Int)+1)=((i+1:Nat):Int):=by rw[B6]<;>omega
    have he:i+1+rest.length=i+(rest.length+1):=by omega
    have h0:A3 (i:Int) 0=false:=C9 (by omega)
    have g:=hg x (by rw[←hc];exact List.getElem_mem _)
    cases c:p x
    · have ih := b6v tL p all B9 hg hv rest (i + 1) hr
      rw[he] at ih
      have hm:G8 p i (x::rest)=G8 p (i+1) rest:=by simp[G8,c]
      rw[hm]
      rw[c] at g
      refine D6 ?_ (by simpa only[List.length_cons] using ih)
      simp (maxSteps:=1000000) +contextual -dsimp [f280,A1,hi,hc,hw,tL,hv,g]
    · have hm : G8 p i (x :: rest) = i := by simp [G8, c]
      rw[hm,h0,if_neg (by simp)]
      rw[c] at g
      refine G3 ?_ (by simp)
      simp (maxSteps:=1000000) +contextual -dsimp [f280,A1,hi,hc,tL,hv,g]
theorem e3h {g:Nat} {cap:List T} (tL:E.mode (g:Nat)=[]) (p:Int→Bool) (l:List Int) (hl:l.length<2 ^ 62) (hg:∀ x,x∈l→fo g [A (vI x),A (.ipt cap)]=some (R (vB (p x)))) (hv:¬ g=127:=by decide):
  fo 280 [A (iS l),A (.clo g [.ipt cap])]=some (R (vI (G8 p 0 l))):=by
 have A4:=b6v tL p l hl hg hv l 0 rfl
 refine Jk (l.length+1) ?_
 simp -dsimp [f280] at A4
 cases c:A3 (G8 p 0 l) 0
 ·simp (maxSteps:=1000000) +contextual -dsimp [f280,A4,c]
 ·have e:G8 p 0 l=-1:=zW c
  rw[e] at A4 ⊢
  simp (maxSteps:=1000000) +contextual -dsimp [f280,A4]
theorem d8e {g:Nat} {cap:List T} (tL:E.mode (g:Nat)=[]) (p:Int→Bool) (l:List Int) (hl:l.length<2 ^ 62) (hg:∀ x,x∈l→fo g [A (vI x),A (.ipt cap)]=some (R (vB (p x)))) (hv:¬ g=127:=by decide):
  fo 235 [A (iS l),A (.clo g [.ipt cap])]=some (R (vB (aH p l))):=by
 have g:=e3h tL p l hl hg hv
 refine Qf 1 ?_
 simp (maxSteps:=1000000) +contextual -dsimp [f235,g,aH]
attribute [local simp] Y3
def kU (o:Option Int) (k d:Int):Int:=match o with | none=>-1 | some v=>if A0 v 1=true then k else d
def H3 (l:List Step) (vars:List Int):List Int→Int
 | []=>-2
 | k::r=>if A3 0 (condOf l k.toNat).length=true then kU (gM (condOf l k.toNat) vars) k (H3 l vars r) else k
theorem Wf.condOf {l:List Step} (w:Wf l) {k:Nat} (hk:k<l.length) (h:A3 0 (Ft.condOf l k).length=true):ExprOk (Ft.condOf l k):=by
 have e:Ft.condOf l k=(l[k]).cond:=by simp[Ft.condOf,hk]
 rw[e] at h ⊢
 refine w.cond (List.getElem_mem hk) fun hn=>?_
 rw[hn] at h;simp[A3] at h
structure Inv (l:List Step) (c:Chart):Prop where
 vars:c.vars.length=4
 acts:c.acts.length=l.length
 dues:c.dues.length=l.length
 now0:0≤c.now
 now1:c.now≤1000000
 rng:∀ x,x∈c.vars→badV x=false
theorem b3y {l:List Step} (w:Wf l) (c:Chart) (hv:c.vars.length=4) (all:List Int) (B9:all.length≤24) (H8:∀ k,k∈all→∃ x:Nat,k=x∧x<l.length) (c':Chart):∀ (rest:List Int) (i:Nat),all.drop i=rest→
    (H3 l c.vars rest=-1→c'=aU l 3 c)→(0≤H3 l c.vars rest→fo 171 [aB l c,A (vI (H3 l c.vars rest))]=some (RB l c'))→
    B7 E (orc E) (237:Nat) (rest.length+1) (C1 f237 0) ⟨46,[(0,.ptr 0 0 [] 0),(9,iS all),(10,vI all.length),(11,vI i)],[(0,⟨0,1,true,bO l c⟩)],2⟩=
    (if A0 (H3 l c.vars rest) (-2) = true then some (.exit 0, ⟨46, [(0, .ptr 0 0 [] 0), (9, iS all), (10, vI all.length), (11, vI (i + rest.length : Nat)), (12, vB false)], [(0, ⟨0, 1, true, bO l c⟩)], 2⟩)
     else some (.ret,⟨46,[(0,.ptr 0 0 [] 0)],[(0,⟨0,1,true,bO l c'⟩)],2⟩))
  | [],i,h,_,_=>by
    have G5:all.length≤i:=by simpa using h
    have A1:A3 (i:Int) (all.length:Int)=false:=C9 (by omega)
    rw[D5]
    simp +contextual -dsimp [f237,A1,H3,D2]
  | k::rest,i,h,h1,h2=>by
    obtain⟨hi,hc,hr⟩:=F6 h
    obtain⟨x,hx,Z8⟩:=H8 k (by rw[←hc];exact List.getElem_mem _)
    have A1:=U2 hi
    have hw:=S6 hi (by omega)
    have he:i+1+rest.length=i+(rest.length+1):=by omega
    have ec:(l[x]).cond=condOf l x:=by simp[condOf,Z8]
    have tU:=w.ok.le
    have hm:H3 l c.vars (k::rest)=(if A3 0 (condOf l x).length=true then kU (gM (condOf l x) c.vars) k (H3 l c.vars rest) else k):=by
      conv=>lhs;unfold H3
      rw[hx,Int.toNat_natCast]
    have e11:A0 1 1=true:=rfl
    have taken:H3 l c.vars (k::rest)=k→A0 (H3 l c.vars (k::rest)) (-2)=false∧fo 171 [aB l c,A (vI k)]=some (RB l c'):=fun e=>by
      rw[e]
      rw[e] at h2
      exact⟨by simp[A0];omega,h2 (by omega)⟩
    cases q:A3 0 (condOf l x).length
    · rw [q, if_neg (by simp)] at hm
      obtain⟨t1,t2⟩:=taken hm
      rw[t1,if_neg (by simp)]
      refine G3 ?_ (by simp)
      rw[hx] at hc t2
      simp (maxSteps:=1000000) +contextual -dsimp [f237,A1,hi,hc,Z8,ec,q,e11,t2]
    · have g := c4y (condOf l x) (w.condOf Z8 q) c.vars hv
      rw[q,if_pos rfl] at hm
      cases ev:gM (condOf l x) c.vars with
      | none=>
        rw[ev] at hm g
        simp only[RE] at g
        have t1:A0 (H3 l c.vars (k::rest)) (-2)=false:=by rw[hm];rfl
        have t2:=h1 hm
        have g2:=Tg l (by omega) c 3
        rw[←t2] at g2
        rw[t1,if_neg (by simp)]
        refine G3 ?_ (by simp)
        rw[hx] at hc
        simp (maxSteps:=1000000) +contextual -dsimp [f237,A1,hi,hc,Z8,ec,q,g,g2]
      | some v=>
        rw[ev] at hm g
        simp only[RE] at g
        cases q1:A0 v 1
        · have hm : H3 l c.vars (k :: rest) = H3 l c.vars rest := by simpa [q1, kU] using hm
          rw[hm] at h1 h2 ⊢
          have ih:=b3y w c hv all B9 H8 c' rest (i+1) hr h1 h2
          rw[he] at ih
          refine D6 ?_ (by simpa only[List.length_cons] using ih)
          rw[hx] at hc
          simp (maxSteps:=1000000) +contextual -dsimp [f237,A1,hi,hc,hw,Z8,ec,q,g,q1]
        · have hm : H3 l c.vars (k :: rest) = k := by simpa [q1, kU] using hm
          obtain⟨t1,t2⟩:=taken hm
          rw[t1,if_neg (by simp)]
          refine G3 ?_ (by simp)
          rw[hx] at hc t2
          simp (maxSteps:=1000000) +contextual -dsimp [f237,A1,hi,hc,Z8,ec,q,g,q1,t2]
theorem e7h {l:List Step} (w:Wf l) (c:Chart) (hv:c.vars.length=4) (ks:List Int) (B9:ks.length≤24) (H8:∀ k,k∈ks→∃ x:Nat,k=x∧x<l.length) (c':Chart)
  (h0:H3 l c.vars ks=-2→c'=c) (h1:H3 l c.vars ks=-1→c'=aU l 3 c) (h2:0≤H3 l c.vars ks→fo 171 [aB l c,A (vI (H3 l c.vars ks))]=some (RB l c')):
  fo 237 [aB l c,A (iS ks)]=some (RB l c'):=by
 have A4:=b3y w c hv ks B9 H8 c' ks 0 rfl h1 h2
 refine e5k (ks.length+1) ?_
 simp -dsimp [f237] at A4
 cases q:A0 (H3 l c.vars ks) (-2)
 ·rw[q] at A4
  simp (maxSteps:=1000000) +contextual -dsimp [f237,A4]
 ·rw[q] at A4
  have e:=h0 (by simpa[A0] using q)
  subst e
  simp (maxSteps:=1000000) +contextual -dsimp [f237,A4]
end Go.TM.Ft
namespace Go.TM.Ft
open Go Go.TM Go.Proofs Go.Proofs.Tryz
set_option maxRecDepth 20000
attribute [local congr] O3
attribute [local simp] L9 M4 K0 L6 J6 L4 J8 J1 K5 I6
abbrev eT (e:Engine):List T:=[.sl 160 (e.procs.map (pT 124 219)),.sl 163 (e.insts.map xT),vI e.now]
theorem Gv (e:Engine) (x:Inst) (a:Nat) (hx:x.proc=a) (ha:a<e.procs.length):fo 127 [A (.agg (eT e)),A (.agg (xT x))]=some ⟨.sl 124 ((e.procs[a]).map (sT 219)),[],false⟩:=by
 refine d3k 1 ?_
 simp (maxSteps:=1000000) +contextual -dsimp [f127,hx,ha]
def qN (l:List Step) (acts:List Int) (step:Int):Bool:=A6 (A6 (A5 step 0 ((l.length:Int) - 1)) (A0 (C2 l step) 2)) (A0 (B4 acts step) 1)
theorem e2s (l:List Step) (hl:l.length<2 ^ 62) (c:Chart) (ha:c.acts.length=l.length) (step:Int):
  fo 194 [A (.sl 124 (l.map (sT 219))),A (.agg (cT c)),A (vI step)]=some (R (vB (qN l c.acts step))):=by
 have g:=Bi step l.length hl
 unfold qN
 refine e4d 1 ?_
 cases q:A5 step 0 ((l.length:Int) - 1)
 ·simp (maxSteps:=1000000) +contextual -dsimp [f194,g,q]
 ·obtain⟨k,rfl,hk⟩:∃ k:Nat,step=k∧k<l.length:=by
   simp[A5,A6,B5] at q
   obtain⟨k,rfl⟩:=Int.eq_ofNat_of_zero_le q.1
   exact⟨k,rfl,by omega⟩
  have P1:k<c.acts.length:=by omega
  have hs:B4 c.acts (k:Int)=c.acts[k]:=bF P1
  have mV:C2 l k=(l[k]).kind:=by simp[C2,hk]
  simp (maxSteps:=1000000) +contextual -dsimp [f194,g,q,hk,P1,hs,mV]
def X4 (e:Engine) (i:Int):Inst:=e.insts.getD i.toNat ⟨0,⟨0,0,[],[],[]⟩⟩
def stepsOf (e:Engine) (x:Inst):List Step:=e.procs.getD x.proc.toNat []
def eQ (e:Engine) (i:Int) (step:Int):Bool:=qN (stepsOf e (X4 e i)) (X4 e i).chart.acts step
theorem a0r (e:Engine) (i:Nat) (hi:i<e.insts.length) (a:Nat) (hx:(e.insts[i]).proc=a) (ha:a<e.procs.length) (hl:(e.procs[a]).length<2 ^ 62)
  (hc:(e.insts[i]).chart.acts.length=(e.procs[a]).length) (step:Int):fo 202 [A (.agg (eT e)),A (vI i),A (vI step)]=some (R (vB (eQ e i step))):=by
 have g1:=Gv e (e.insts[i]) a hx ha
 have g2:=e2s (e.procs[a]) hl (e.insts[i]).chart hc step
 have e1:X4 e i=e.insts[i]:=by simp[X4,hi]
 have e2:stepsOf e (e.insts[i])=e.procs[a]:=by simp[stepsOf,hx,ha]
 unfold eQ
 rw[e1,e2]
 refine f0h 1 ?_
 simp (maxSteps:=1000000) +contextual -dsimp [f202,g1,g2,hi,List.set]
def fK:List (List Step)→Int
 | []=>0
 | p::r=>if A2 (A0 (Q4 p) 0)=true then Q4 p else fK r
structure FitP (p:List Step):Prop where
 len:p.length<2 ^ 62
 steps:∀ s,s∈p→FitS s
theorem c1a (all:List (List Step)) (B9:all.length≤1000) (hf:∀ p,p∈all→FitP p):∀ (rest:List (List Step)) (i:Nat),all.drop i=rest→
    B7 E (orc E) (185:Nat) (rest.length+1) (C1 f185 0) ⟨23,[(10,.sl 160 (all.map (pT 124 219))),(11,vI all.length),(12,vI i)],[],2⟩=
    (if A0 (fK rest) 0 = true then some (.exit 0, ⟨23, [(10, .sl 160 (all.map (pT 124 219))), (11, vI all.length), (12, vI (i + rest.length : Nat)), (13, vB false)], [], 2⟩)
     else some (.ret,⟨23,[(2,vI (fK rest))],[],2⟩))
  | [],i,h=>by
    have G5:all.length≤i:=by simpa using h
    have A1:A3 (i:Int) (all.length:Int)=false:=C9 (by omega)
    rw[D5]
    simp +contextual -dsimp [f185,A1,fK,D2]
  | s::rest,i,h=>by
    obtain⟨hi,hc,hr⟩:=F6 h
    have A1:A3 (i:Int) (all.length:Int)=true:=F5 (by omega)
    have hw:IntKind.i64.wrap ((i:Int)+1)=((i+1:Nat):Int):=by rw[B6]<;>omega
    have he:i+1+rest.length=i+(rest.length+1):=by omega
    have hs:=hf s (by rw[←hc];exact List.getElem_mem _)
    have g:=Vr s hs.len hs.steps
    cases q:A0 (Q4 s) 0
    · have hm : fK (s :: rest) = Q4 s := by simp [fK, q, A2]
      rw[hm,q,if_neg (by simp)]
      refine G3 ?_ (by simp)
      simp (maxSteps:=1000000) +contextual -dsimp [f185,A1,hi,hc,g,q,List.set]
    · have ih := c1a all B9 hf rest (i + 1) hr
      rw[he] at ih
      have hm:fK (s::rest)=fK rest:=by simp[fK,q,A2]
      rw[hm]
      refine D6 ?_ (by simpa only[List.length_cons] using ih)
      simp (maxSteps:=1000000) +contextual -dsimp [f185,A1,hi,hc,hw,g,q,List.set]
def jW (ps:List (List Step)):Int:=if A2 (A5 ps.length 1 3)=true then 2 else fK ps
theorem d7t (ps:List (List Step)) (Do:ps.length<2 ^ 62) (hf:∀ p,p∈ps→FitP p):fo 185 [A (.sl 160 (ps.map (pT 124 219)))]=some (R (vI (jW ps))):=by
 unfold jW
 cases c1:A5 ps.length 1 3
 ·refine b6s 1 ?_
  simp (maxSteps:=1000000) +contextual -dsimp [f185,H5,c1]
 ·have hl:ps.length≤1000:=by simp[A5,A6,B5] at c1;omega
  have A4:=c1a ps hl hf ps 0 rfl
  refine b6s (ps.length+1) ?_
  simp -dsimp [f185] at A4
  cases c2:A0 (fK ps) 0
  ·rw[c2] at A4
   simp (maxSteps:=1000000) +contextual -dsimp [f185,H5,c1,A4]
  ·rw[c2] at A4
   have e0:fK ps=0:=by simpa[A0] using c2
   simp (maxSteps:=1000000) +contextual -dsimp [f185,H5,c1,e0,A4]
def sK (e:Engine) (x:Inst):Int:=C5 (chartM (stepsOf e x) x.chart) (ci (A2 (A0 x.chart.now e.now)) 9)
def jX (e:Engine) (x:Inst):Int:=if A2 (A5 x.proc 0 ((e.procs.length:Int) - 1))=true then 3 else sK e x
def aW (e:Engine):List Inst→Int
 | []=>0
 | x::r=>if A0 (jX e x) 0=true then aW e r else jX e x
structure FitE (e:Engine):Prop where
 np:e.procs.length<2 ^ 62
 ni:e.insts.length<2 ^ 62
 procs:∀ p,p∈e.procs→FitP p
 insts:∀ x,x∈e.insts→FitC x.chart
theorem b7w (e:Engine) (hf:FitE e):∀ (rest:List Inst) (i:Nat),e.insts.drop i=rest→
    B7 E (orc E) (113:Nat) (rest.length+1) (C1 f113 0) ⟨64,[(1,.ptr 1 1 [] 0),(32,.sl 163 (e.insts.map xT)),(33,vI e.insts.length),(34,vI i)],[(1,⟨1,1,true,eT e⟩)],2⟩=
    (if A0 (aW e rest) 0 = true then some (.exit 0, ⟨64, [(1, .ptr 1 1 [] 0), (32, .sl 163 (e.insts.map xT)), (33, vI e.insts.length), (34, vI (i + rest.length : Nat)), (35, vB false)], [(1, ⟨1, 1, true, eT e⟩)], 2⟩)
     else some (.ret,⟨64,[(2,vI (aW e rest))],[],2⟩))
  | [],i,h=>by
    have G5:e.insts.length≤i:=by simpa using h
    have A1:A3 (i:Int) (e.insts.length:Int)=false:=C9 (by omega)
    rw[D5]
    simp +contextual -dsimp [f113,A1,aW,D2]
  | x::rest,i,h=>by
    obtain⟨hi,hc,hr⟩:=F6 h
    have Pr:=hf.ni
    have A1:A3 (i:Int) (e.insts.length:Int)=true:=F5 (by omega)
    have hw:IntKind.i64.wrap ((i:Int)+1)=((i+1:Nat):Int):=by rw[B6]<;>omega
    have he:i+1+rest.length=i+(rest.length+1):=by omega
    have g0:=Bi x.proc e.procs.length hf.np
    have hxc:=hf.insts x (by rw[←hc];exact List.getElem_mem _)
    cases q1:A5 x.proc 0 ((e.procs.length:Int) - 1)
    · have h3 : jX e x = 3 := by simp [jX, q1, A2]
      have Z1:A0 (3:Int) 0=false:=rfl
      have hm:aW e (x::rest)=3:=by simp[aW,h3,Z1]
      rw[hm,Z1,if_neg (by simp)]
      refine G3 ?_ (by simp)
      simp (maxSteps:=1000000) +contextual -dsimp [f113,A1,hi,hc,g0,q1,List.set]
    · obtain ⟨a, hx, ha⟩ : ∃ a : Nat, x.proc = a ∧ a < e.procs.length := by
        simp[A5,A6,B5] at q1
        obtain⟨k,hk⟩:=Int.eq_ofNat_of_zero_le q1.1
        exact⟨k,hk,by omega⟩
      have h3:jX e x=sK e x:=by simp[jX,q1,A2]
      have hp:=hf.procs (e.procs[a]) (List.getElem_mem _)
      have g1:=Gv e x a hx ha
      have e2:stepsOf e x=e.procs[a]:=by simp[stepsOf,hx,ha]
      have g2:=Ud (e.procs[a]) hp.len hp.steps x.chart hxc
      have g3:=Y8 (chartM (e.procs[a]) x.chart) (ci (A2 (A0 x.chart.now e.now)) 9)
      cases q2:A0 (sK e x) 0
      · have hm : aW e (x :: rest) = sK e x := by simp [aW, h3, q2]
        rw[hm,q2,if_neg (by simp)]
        unfold sK at q2 ⊢
        rw[e2] at q2 ⊢
        refine G3 ?_ (by simp)
        simp (maxSteps:=1000000) +contextual -dsimp [f113,A1,hi,hc,g0,g1,g2,g3,O4,q1,q2,List.set]
      · have ih := b7w e hf rest (i + 1) hr
        rw[he] at ih
        have hm:aW e (x::rest)=aW e rest:=by simp[aW,h3,q2]
        rw[hm]
        unfold sK at q2
        rw[e2] at q2
        refine D6 ?_ (by simpa only[List.length_cons] using ih)
        simp (maxSteps:=1000000) +contextual -dsimp [f113,A1,hi,hc,hw,g0,g1,g2,g3,O4,q1,q2,List.set]
def pZ (e:Engine):Int:=C5 (jW e.procs) (ci (A2 (A5 e.now 0 1000000)) 3)
def K2 (e:Engine):Int:=
 if A7 (A2 (A5 e.procs.length 1 3)) (A3 6 e.insts.length)=true then 2
 else if A2 (A0 (pZ e) 0)=true then pZ e
 else aW e e.insts
theorem Fo (e:Engine) (hf:FitE e):fo 113 [A (.agg (eT e))]=some (R (vI (K2 e))):=by
 have g1:=d7t e.procs hf.np hf.procs
 have g3:=Y8 (jW e.procs) (ci (A2 (A5 e.now 0 1000000)) 3)
 have A4:=b7w e hf e.insts 0 rfl
 simp -dsimp [f113] at A4
 unfold K2
 refine e9s (e.insts.length+1) ?_
 cases q1:A5 e.procs.length 1 3
 ·simp (maxSteps:=1000000) +contextual -dsimp [f113,H5,q1]
 ·cases q2:A3 6 e.insts.length
  ·cases q3:A0 (pZ e) 0
   ·unfold pZ at q3 ⊢
    simp (maxSteps:=1000000) +contextual -dsimp [f113,H5,oJ,O4,g1,g3,q1,q2,q3,List.set]
   ·have q3':=q3
    unfold pZ at q3'
    cases q4:A0 (aW e e.insts) 0
    ·rw[q4] at A4
     simp (maxSteps:=1000000) +contextual -dsimp [f113,H5,oJ,O4,g1,g3,q1,q2,q3',A4,List.set]
    ·rw[q4] at A4
     have e0:aW e e.insts=0:=by simpa[A0] using q4
     simp (maxSteps:=1000000) +contextual -dsimp [f113,H5,oJ,O4,g1,g3,q1,q2,q3',e0,A4,List.set]
  ·simp (maxSteps:=1000000) +contextual -dsimp [f113,H5,q1,q2]
abbrev dT (d:Desk):List T:=[.sl 160 (d.eng.procs.map (pT 124 219)),.sl 163 (d.eng.insts.map xT),vI d.eng.now,.sl 150 (d.claims.map kT)]
structure InstOk (e:Engine) (x:Inst):Prop where
 ex:∃ (a:Nat) (_:a<e.procs.length),x.proc=a
 chart:chartM (stepsOf e x) x.chart=0
theorem e6h {e:Engine} {x:Inst} (h:jX e x=0):InstOk e x:=by
 unfold jX at h
 split at h
 ·simp at h
 ·rename_i c
  have c:A5 x.proc 0 ((e.procs.length:Int) - 1)=true:=by simpa[A2] using c
  refine⟨?_,(P9 h).1⟩
  simp[A5,A6,B5] at c
  obtain⟨k,hk⟩:=Int.eq_ofNat_of_zero_le c.1
  exact⟨k,by omega,hk⟩
theorem b3k {e:Engine}:∀ {l:List Inst},aW e l=0→∀ x,x∈l→InstOk e x
 | [],_,x,hx=>by simp at hx
 | y::l,h,x,hx=>by
  unfold aW at h
  split at h
  ·rename_i c
   rcases List.mem_cons.1 hx with rfl | hx
   ·exact e6h (by simpa[A0] using c)
   ·exact b3k h x hx
  ·rename_i c;rw[h] at c;exact absurd rfl c
theorem iD {e:Engine} (h:K2 e=0):e.procs.length≤3∧e.insts.length≤6∧(∀ x,x∈e.insts→InstOk e x):=by
 unfold K2 at h
 split at h
 ·simp at h
 ·rename_i c
  split at h
  ·rename_i c2;rw[h] at c2;simp[A2,A0] at c2
  ·simp[A7,A2,A5,A6,B5,A3] at c
   exact⟨by omega,by omega,b3k h⟩
theorem Qy {l:List Step} {c:Chart} (h:chartM l c=0):kP l c=0:=by
 unfold chartM at h
 split at h
 ·exact h
 ·rename_i c;simpa[A2,A0] using c
theorem InstOk.at_ {e:Engine} {x:Inst} (h:InstOk e x):∃ (a:Nat) (ha:a<e.procs.length),x.proc=a∧stepsOf e x=e.procs[a]∧ProcOk (e.procs[a])∧x.chart.acts.length=(e.procs[a]).length:=by
 obtain⟨⟨a,ha,hx⟩,hc⟩:=h
 have e2:stepsOf e x=e.procs[a]:=by simp[stepsOf,hx,ha]
 rw[e2] at hc
 obtain⟨z1,_,_,_,z5,_⟩:=Dc (Qy hc)
 exact⟨a,ha,hx,e2,Gz z1,z5⟩
def yY (a b:Claim):Int:=C5 (tX a.inst b.inst) (tX a.step b.step)
theorem d6o (a b:Claim):fo 204 [A (.agg (kT a)),A (.agg (kT b))]=some (R (vI (yY a b))):=e6l a b
def sJ (l:List Claim) (k:Nat):Claim:=l.getD k ⟨0,0,0⟩
def P6 (d:Desk) (i:Nat) (c:Claim):Int:=
 if A7 (A2 (A5 c.inst 0 ((d.eng.insts.length:Int) - 1))) (A2 (A5 c.user 1 9))=true then 3
 else if A2 (eQ d.eng c.inst c.step)=true then 4
 else if A6 (A3 0 (i:Int)) (B5 0 (yY (sJ d.claims (i - 1)) c))=true then 1 else 0
def P4 (d:Desk):Nat→List Claim→Int
 | _,[]=>0
 | i,c::r=>if A0 (P6 d i c) 0=true then P4 d (i+1) r else P6 d i c
theorem Jc (d:Desk) (hf:FitE d.eng) (h0:K2 d.eng=0) (F4:d.claims.length≤60):∀ (rest:List Claim) (i:Nat),d.claims.drop i=rest→
    B7 E (orc E) (153:Nat) (rest.length+1) (C1 f153 0) ⟨66,[(1,.ptr 1 1 [] 0),(20,.sl 150 (d.claims.map kT)),(21,vI d.claims.length),(22,vI i)],[(1,⟨1,1,true,dT d⟩)],2⟩=
    (if A0 (P4 d i rest) 0 = true then some (.exit 0, ⟨66, [(1, .ptr 1 1 [] 0), (20, .sl 150 (d.claims.map kT)), (21, vI d.claims.length), (22, vI (i + rest.length : Nat)), (23, vB false)], [(1, ⟨1, 1, true, dT d⟩)], 2⟩)
     else some (.ret,⟨66,[(2,vI (P4 d i rest))],[],2⟩))
  | [],i,h=>by
    have G5:d.claims.length≤i:=by simpa using h
    have A1:A3 (i:Int) (d.claims.length:Int)=false:=C9 (by omega)
    rw[D5]
    simp +contextual -dsimp [f153,A1,P4,D2]
  | x::rest,i,h=>by
    obtain⟨hi,hc,hr⟩:=F6 h
    obtain⟨n1,n2,n3⟩:=iD h0
    have A1:A3 (i:Int) (d.claims.length:Int)=true:=F5 (by omega)
    have hw:IntKind.i64.wrap ((i:Int)+1)=((i+1:Nat):Int):=by rw[B6]<;>omega
    have he:i+1+rest.length=i+(rest.length+1):=by omega
    have g0:=Bi x.inst d.eng.insts.length (by omega)
    have out:∀ k:Int,P6 d i x=k→A0 k 0=false→P4 d i (x::rest)=k:=fun k h1 h2=>by simp[P4,h1,h2]
    have hE:eT d.eng=[.sl 160 (d.eng.procs.map (pT 124 219)),.sl 163 (d.eng.insts.map xT),vI d.eng.now]:=rfl
    cases q1:A5 x.inst 0 ((d.eng.insts.length:Int) - 1)
    · have h3 : P6 d i x = 3 := by simp [P6, q1, A2, A7]
      have hm:=out 3 h3 rfl
      have Z1:A0 (3:Int) 0=false:=rfl
      rw[hm,Z1,if_neg (by simp)]
      refine G3 ?_ (by simp)
      simp (maxSteps:=1000000) +contextual -dsimp [f153,A1,hi,hc,g0,q1,List.set]
    cases q2:A5 x.user 1 9
    · have h3 : P6 d i x = 3 := by simp [P6, q1, q2, A2, A7]
      have hm:=out 3 h3 rfl
      have Z1:A0 (3:Int) 0=false:=rfl
      rw[hm,Z1,if_neg (by simp)]
      refine G3 ?_ (by simp)
      simp (maxSteps:=1000000) +contextual -dsimp [f153,A1,hi,hc,g0,yK,q1,q2,List.set]
    obtain⟨b,hb,Lv⟩:∃ b:Nat,x.inst=b∧b<d.eng.insts.length:=by
      simp[A5,A6,B5] at q1
      obtain⟨k,hk⟩:=Int.eq_ofNat_of_zero_le q1.1
      exact⟨k,hk,by omega⟩
    obtain⟨a,ha,hx,e2,ok,D7⟩:=(n3 (d.eng.insts[b]) (List.getElem_mem _)).at_
    have g1:=a0r d.eng b Lv a hx ha (by have:=ok.le;omega) D7 x.step
    rw[←hb] at g1
    have g2:=d6o (sJ d.claims (i - 1)) x
    cases q3:eQ d.eng x.inst x.step
    · have h3 : P6 d i x = 4 := by simp [P6, q1, q2, q3, A2, A7]
      have hm:=out 4 h3 rfl
      have Z1:A0 (4:Int) 0=false:=rfl
      rw[hm,Z1,if_neg (by simp)]
      refine G3 ?_ (by simp)
      simp (maxSteps:=1000000) +contextual -dsimp [f153,A1,hi,hc,g0,g1,yK,q1,q2,q3,List.set]
    rcases Nat.eq_zero_or_pos i with yM | yM
    · have G2 : A3 0 (i : Int) = false := C9 (by omega)
      have h3:P6 d i x=0:=by simp[P6,q1,q2,q3,G2,A2,A7,A6]
      have ih:=Jc d hf h0 F4 rest (i+1) hr
      rw[he] at ih
      have hm:P4 d i (x::rest)=P4 d (i+1) rest:=by simp[P4,h3,D2]
      rw[hm]
      refine D6 ?_ (by simpa only[List.length_cons] using ih)
      simp (maxSteps:=1000000) +contextual -dsimp [f153,A1,hi,hc,hw,g0,g1,yK,q1,q2,q3,G2,List.set]
    · have G2 : A3 0 (i : Int) = true := F5 (by omega)
      have eX:i - 1<d.claims.length:=by omega
      have T7:IntKind.i64.wrap ((i:Int) - 1)=((i - 1:Nat):Int):=by rw[B6]<;>omega
      have tB:sJ d.claims (i - 1)=d.claims[i - 1]:=by simp[sJ,eX]
      rw[tB] at g2
      cases q4:B5 0 (yY (d.claims[i - 1]) x)
      · have h3 : P6 d i x = 0 := by simp [P6, q1, q2, q3, G2, tB, q4, A2, A7, A6]
        have ih:=Jc d hf h0 F4 rest (i+1) hr
        rw[he] at ih
        have hm:P4 d i (x::rest)=P4 d (i+1) rest:=by simp[P4,h3,D2]
        rw[hm]
        refine D6 ?_ (by simpa only[List.length_cons] using ih)
        simp (maxSteps:=1000000) +contextual -dsimp [f153,A1,hi,hc,hw,g0,g1,g2,yK,q1,q2,q3,q4,G2,eX,T7,List.set]
      · have h3 : P6 d i x = 1 := by simp [P6, q1, q2, q3, G2, tB, q4, A2, A7, A6]
        have hm:=out 1 h3 rfl
        have Z1:A0 (1:Int) 0=false:=rfl
        rw[hm,Z1,if_neg (by simp)]
        refine G3 ?_ (by simp)
        simp (maxSteps:=1000000) +contextual -dsimp [f153,A1,hi,hc,g0,g1,g2,yK,q1,q2,q3,q4,G2,eX,T7,List.set]
def pC (d:Desk):Int:=C5 (K2 d.eng) (ci (A3 60 d.claims.length) 2)
def dE (d:Desk):Int:=if A2 (A0 (pC d) 0)=true then pC d else P4 d 0 d.claims
theorem e4e (d:Desk) (hf:FitE d.eng) (hc:d.claims.length<2 ^ 62):fo 153 [A (.agg (dT d))]=some (R (vI (dE d))):=by
 have g1:=Fo d.eng hf
 have g3:=Y8 (K2 d.eng) (ci (A3 60 d.claims.length) 2)
 unfold dE
 refine d3e (d.claims.length+1) ?_
 cases q1:A0 (pC d) 0
 ·unfold pC at q1 ⊢
  simp (maxSteps:=1000000) +contextual -dsimp [f153,O4,g1,g3,q1,List.set]
 ·have e0:pC d=0:=by simpa[A0] using q1
  have z:=P9 e0
  have z2:=jT (by omega) z.2
  have A4:=Jc d hf z.1 (by simp[A3] at z2;omega) d.claims 0 rfl
  simp -dsimp [f153] at A4
  have q1':=q1
  unfold pC at q1'
  cases q4:A0 (P4 d 0 d.claims) 0
  ·rw[q4] at A4
   simp (maxSteps:=1000000) +contextual -dsimp [f153,O4,g1,g3,q1',A4,List.set]
  ·rw[q4] at A4
   have e1:P4 d 0 d.claims=0:=by simpa[A0] using q4
   simp (maxSteps:=1000000) +contextual -dsimp [f153,O4,g1,g3,q1',e1,A4,List.set]
theorem dD (n:Int):fo 129 [A (vI n)]=some (R (vB (A5 n 0 1000000))):=by
 refine e5g 1 ?_
 simp (maxSteps:=1000000) +contextual -dsimp [f129,G0]
def jV:List Int→Bool
 | []=>false
 | x::r=>if badV x=true then true else jV r
theorem a2e (all:List Int) (B9:all.length≤1000):∀ (rest:List Int) (i:Nat),all.drop i=rest→
  B7 E (orc E) (159:Nat) (rest.length+1) (C1 f159 0) ⟨19,[(0,iS all),(3,vI i)],[],2⟩=
  (if jV rest=true then some (.ret,⟨19,[(2,vI 3)],[],2⟩) else some (.exit 0,⟨19,[(0,iS all),(3,vI (i+rest.length:Nat)),(10,vB false)],[],2⟩))
 | [],i,h=>by
  have G5:all.length≤i:=by simpa using h
  have A1:A3 (i:Int) (all.length:Int)=false:=C9 (by omega)
  rw[D5]
  simp +contextual -dsimp [f159,A1,jV]
 | x::rest,i,h=>by
  obtain⟨hi,hc,hr⟩:=F6 h
  have A1:A3 (i:Int) (all.length:Int)=true:=F5 (by omega)
  have hw:IntKind.i64.wrap ((i:Int)+1)=((i+1:Nat):Int):=by rw[B6]<;>omega
  have he:i+1+rest.length=i+(rest.length+1):=by omega
  cases q:A5 x (-1000000) 1000000
  ·have hm:jV (x::rest)=true:=by simp[jV,badV,q,A2]
   rw[hm,if_pos rfl]
   refine G3 ?_ (by simp)
   simp (maxSteps:=1000000) +contextual -dsimp [f159,A1,hi,hc,G0,q]
  ·have hm:jV (x::rest)=jV rest:=by simp[jV,badV,q,A2]
   have ih:=a2e all B9 rest (i+1) hr
   rw[he] at ih
   rw[hm]
   refine D6 ?_ (by simpa only[List.length_cons] using ih)
   simp (maxSteps:=1000000) +contextual -dsimp [f159,A1,hi,hc,hw,G0,q]
def rK (l:List Int):Int:=if A2 (A0 l.length 4)=true then 2 else if jV l=true then 3 else 0
theorem a1r (l:List Int):fo 159 [A (iS l)]=some (R (vI (rK l))):=by
 unfold rK
 cases q:A0 l.length 4
 ·refine c0p 1 ?_
  simp (maxSteps:=1000000) +contextual -dsimp [f159,q]
 ·have hl:l.length≤1000:=by simp[A0] at q;omega
  have A4:=a2e l hl l 0 rfl
  refine c0p (l.length+1) ?_
  simp -dsimp [f159] at A4
  cases q2:jV l
  ·rw[q2] at A4
   simp (maxSteps:=1000000) +contextual -dsimp [f159,q,A4]
  ·rw[q2] at A4
   simp (maxSteps:=1000000) +contextual -dsimp [f159,q,A4]
theorem Cd (l:List Step) (c:Chart) (at_:Int) (hb:c.acts.length<2 ^ 62) (all:List Int) (B9:all.length≤1000) (hk:∀ k,k∈all→∃ a:Nat,k=a∧a<c.acts.length):∀ (rest:List Int) (i n m:Nat),all.drop i=rest→n≤i→m≤i→
  B7 E (orc E) (228:Nat) (rest.length+1) (C1 f228 0) ⟨130,[(0,.sl 124 (l.map (sT 219))),(1,.ipt (cT c)),(2,vI at_),(7,iS all),(8,vI n),(9,vI m),(10,vI i)],[],2⟩=
  some (.exit 0,⟨130,[(0,.sl 124 (l.map (sT 219))),(1,.ipt (cT c)),(2,vI at_),(7,iS all),(8,vI (G1 c.acts 1 rest n)),(9,vI (G1 c.acts 2 rest m)),(10,vI (i+rest.length:Nat)),(18,vB false)],[],2⟩)
 | [],i,n,m,h,hn,hm=>by
  have G5:all.length≤i:=by simpa using h
  have A1:A3 (i:Int) (all.length:Int)=false:=C9 (by omega)
  rw[D5]
  simp +contextual -dsimp [f228,A1,G1]
 | x::rest,i,n,m,h,hn,qB=>by
  obtain⟨hi,hc,hr⟩:=F6 h
  obtain⟨a,rfl,ha⟩:=hk x (by rw[←hc];exact List.getElem_mem _)
  have A1:A3 (i:Int) (all.length:Int)=true:=F5 (by omega)
  have hw:IntKind.i64.wrap ((i:Int)+1)=((i+1:Nat):Int):=by rw[B6]<;>omega
  have Q2:IntKind.i64.wrap ((n:Int)+1)=((n+1:Nat):Int):=by rw[B6]<;>omega
  have Bk:IntKind.i64.wrap ((m:Int)+1)=((m+1:Nat):Int):=by rw[B6]<;>omega
  have he:i+1+rest.length=i+(rest.length+1):=by omega
  have hs:=bF ha
  cases q:A0 (c.acts[a]) 1
  ·cases q2:A0 (c.acts[a]) 2
   ·have ih:=Cd l c at_ hb all B9 hk rest (i+1) n m hr (by omega) (by omega)
    rw[he] at ih
    have H9:G1 c.acts 1 ((a:Int)::rest) n=G1 c.acts 1 rest n:=by simp[G1,hs,q]
    have aO:G1 c.acts 2 ((a:Int)::rest) m=G1 c.acts 2 rest m:=by simp[G1,hs,q2]
    rw[H9,aO]
    refine D6 ?_ (by simpa only[List.length_cons] using ih)
    simp (maxSteps:=1000000) +contextual -dsimp [f228,A1,hi,hc,hw,ha,q,q2]
   ·have ih:=Cd l c at_ hb all B9 hk rest (i+1) n (m+1) hr (by omega) (by omega)
    rw[he] at ih
    have H9:G1 c.acts 1 ((a:Int)::rest) n=G1 c.acts 1 rest n:=by simp[G1,hs,q]
    have aO:G1 c.acts 2 ((a:Int)::rest) m=G1 c.acts 2 rest (m+1):=by simp[G1,hs,q2]
    rw[H9,aO]
    refine D6 ?_ (by simpa only[List.length_cons] using ih)
    simp (maxSteps:=1000000) +contextual -dsimp [f228,A1,hi,hc,hw,Bk,ha,q,q2]
  ·have q2:A0 (c.acts[a]) 2=false:=by simp[A0] at q ⊢;omega
   have ih:=Cd l c at_ hb all B9 hk rest (i+1) (n+1) m hr (by omega) (by omega)
   rw[he] at ih
   have H9:G1 c.acts 1 ((a:Int)::rest) n=G1 c.acts 1 rest (n+1):=by simp[G1,hs,q]
   have aO:G1 c.acts 2 ((a:Int)::rest) m=G1 c.acts 2 rest m:=by simp[G1,hs,q2]
   rw[H9,aO]
   refine D6 ?_ (by simpa only[List.length_cons] using ih)
   simp (maxSteps:=1000000) +contextual -dsimp [f228,A1,hi,hc,hw,Q2,ha,q]
theorem a1g {p:Int}:∀ {l:List Step} {i:Nat} {k:Int},k∈D4 p i l→∃ a:Nat,k=a∧a<i+l.length
 | [],i,k,h=>by simp[D4] at h
 | x::l,i,k,h=>by
  unfold D4 at h
  have tl:k∈D4 p (i+1) l→∃ a:Nat,k=a∧a<i+(x::l).length:=fun h=>by
   obtain⟨a,h1,h2⟩:=a1g h
   exact⟨a,h1,by simp;omega⟩
  split at h
  ·rcases List.mem_cons.1 h with rfl | h
   ·exact⟨i,rfl,by simp⟩
   ·exact tl h
  ·exact tl h
def kO (k:Int) (c:Chart) (on over:Int) (list:List Int) (due:Bool):Bool:=
 if A7 (A0 k 1) (A0 k 3)=true then A7 (A7 (A2 (A0 on 1)) (A3 0 over)) due
 else if A0 k 4=true then A7 (A7 (A3 on 1) (A2 (A0 (on+over) list.length))) due
 else if A0 k 8=true then A7 (A7 (A2 (A0 on 1)) (A3 0 over)) (A2 (W4 due (A0 (B4 c.acts (B4 list 0)) 1)))
 else if A0 k 6=true then A2 due
 else if A0 k 7=true then true
 else due
def rN (l:List Step) (c:Chart) (i:Nat):Bool:=
 if A2 (A0 (B4 c.acts i) 1)=true then A7 (A3 0 ((G1 c.acts 1 (D4 i 0 l) 0:Nat)+(G1 c.acts 2 (D4 i 0 l) 0:Nat))) (A2 (A0 (B4 c.dues i) 0))
 else kO (C2 l i) c (G1 c.acts 1 (D4 i 0 l) 0:Nat) (G1 c.acts 2 (D4 i 0 l) 0:Nat) (D4 i 0 l) (A2 (A0 (B4 c.dues i) 0))
theorem d3l (l:List Step) (hl:l.length≤24) (c:Chart) (ha:c.acts.length=l.length) (hd:c.dues.length=l.length) (i:Nat) (hi:i<l.length):
  fo 228 [A (.sl 124 (l.map (sT 219))),A (.ipt (cT c)),A (vI i)]=some (R (vB (rN l c i))):=by
 have g1:=qK l (by omega) i
 have hk:∀ k,k∈D4 i 0 l→∃ a:Nat,k=a∧a<c.acts.length:=fun k h=>by
  obtain⟨a,h1,h2⟩:=a1g h
  exact⟨a,h1,by omega⟩
 have hfew:=Vx i l 0
 have K8:i<c.acts.length:=by omega
 have U8:i<c.dues.length:=by omega
 have rD:B4 c.acts (i:Int)=c.acts[i]:=bF K8
 have sS:B4 c.dues (i:Int)=c.dues[i]:=bF U8
 have mV:C2 l i=(l[i]).kind:=by simp[C2,hi]
 have b1:=pB c.acts 1 (D4 i 0 l) 0
 have b2:=pB c.acts 2 (D4 i 0 l) 0
 have A4:=Cd l c i (by omega) (D4 i 0 l) (by omega) hk (D4 i 0 l) 0 0 0 rfl (by omega) (by omega)
 unfold rN
 rw[rD,sS,mV]
 have G2:G1 c.acts 1 (D4 i 0 l) 0=1→0<(D4 i 0 l).length:=fun h=>by omega
 generalize hon:G1 c.acts 1 (D4 i 0 l) 0=on at *
 generalize Bo:G1 c.acts 2 (D4 i 0 l) 0=ov at *
 have hw:IntKind.i64.wrap ((on:Int)+ov)=(on:Int)+ov:=by rw[B6]<;>omega
 generalize D4 i 0 l=ks at *
 have N2:=Y3 ks
 refine e3a (ks.length+1) ?_
 simp -dsimp [f228] at A4
 cases q2:A0 c.acts[i] 1
 ·simp (maxSteps:=1000000) +contextual -dsimp [f228,g1,N2,A4,K8,U8,q2,hw]
 ·cases e1:A0 (l[i].kind) 1
  ·cases e3:A0 (l[i].kind) 3
   ·cases e4:A0 (l[i].kind) 4
    ·cases e8:A0 (l[i].kind) 8
     ·cases e6:A0 (l[i].kind) 6
      ·cases e7:A0 (l[i].kind) 7
       ·simp (maxSteps:=1000000) +contextual -dsimp [f228,g1,N2,A4,K8,U8,hi,q2,kO,e1,e3,e4,e8,e6,e7]
       ·simp (maxSteps:=1000000) +contextual -dsimp [f228,g1,N2,A4,K8,U8,hi,q2,kO,e1,e3,e4,e8,e6,e7]
      ·simp (maxSteps:=1000000) +contextual -dsimp [f228,g1,N2,A4,K8,U8,hi,q2,kO,e1,e3,e4,e8,e6]
     ·cases o1:A0 (on:Int) 1
      ·simp (maxSteps:=1000000) +contextual -dsimp [f228,g1,N2,A4,K8,U8,hi,q2,kO,e1,e3,e4,e8,o1]
      ·have dO:0<ks.length:=G2 (by simp[A0] at o1;omega)
       obtain⟨a,ka,cI⟩:=hk (ks[0]) (List.getElem_mem _)
       have vJ:B4 ks 0=ks[0]:=bF dO
       have aA:B4 c.acts (a:Int)=c.acts[a]:=bF cI
       cases o2:A3 0 (ov:Int)
       ·simp (maxSteps:=1000000) +contextual -dsimp [f228,g1,N2,A4,K8,U8,hi,q2,kO,e1,e3,e4,e8,o1,o2,dO,vJ,ka,aA,cI]
       ·simp (maxSteps:=1000000) +contextual -dsimp [f228,g1,N2,A4,K8,U8,hi,q2,kO,e1,e3,e4,e8,o1,o2,vJ,ka,aA]
    ·simp (maxSteps:=1000000) +contextual -dsimp [f228,g1,N2,A4,K8,U8,hi,q2,hw,kO,e1,e3,e4]
   ·simp (maxSteps:=1000000) +contextual -dsimp [f228,g1,N2,A4,K8,U8,hi,q2,kO,e1,e3]
  ·simp (maxSteps:=1000000) +contextual -dsimp [f228,g1,N2,A4,K8,U8,hi,q2,kO,e1]
end Go.TM.Ft
