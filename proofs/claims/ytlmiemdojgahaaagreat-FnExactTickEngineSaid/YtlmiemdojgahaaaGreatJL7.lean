/- What functions of the program come to, by the machine. -/
import Derived.Test.YtlmiemdojgahaaaGreatJL6
import Derived.Test.YtlmiemdojgahaaaGreatJL4
set_option linter.unusedSimpArgs false
set_option linter.unusedVariables false
set_option maxHeartbeats 8000000
namespace Go.TM.Ft
open Go Go.TM Go.Proofs Go.Proofs.Tryz
set_option maxRecDepth 20000
attribute [local congr] K9
attribute [local simp] J8 K0 J0 J9 H3 J6 H4 G4 H5 G1
abbrev bO (l:List Step) (c:Chart):List T:=[.sl 124 (l.map (sT 219)),vI c.status,vI c.now,.own 2 (iE c.vars),.own 2 (iE c.acts),.own 2 (iE c.dues)]
abbrev aB (l:List Step) (c:Chart):Arg:=⟨.ptr 0 0 [] 0,some ⟨0,1,true,bO l c⟩⟩
abbrev RB (l:List Step) (c:Chart):Res:=⟨.tup [],[(0,bO l c)],true⟩
def a0k (l:List Step) (st:Int) (c:Chart):Chart:={ c with status:=st,acts:=List.replicate l.length 0,dues:=List.replicate l.length 0 }
def zap (ks:List Int) (xs:List Int):List Int:=ks.foldl (fun xs k=>xs.set k.toNat 0) xs
def a0l (ks:List Int) (c:Chart):Chart:={ c with acts:=zap ks c.acts,dues:=zap ks c.dues }
theorem c4z:∀ (ks xs:List Int),(zap ks xs).length=xs.length
 | [],_=>rfl
 | k::ks,xs=>by
  have:=c4z ks (xs.set k.toNat 0)
  simpa [zap] using this
theorem c5o (l:List Step) (hl:l.length≤1000) (c:Chart) (st:Int):fo 239 [aB l c,A (vI st)]=some (RB l (a0k l st c)):=by
 have hm:((l.length:Nat):Int)≤(B9:Nat):=by unfold B9; omega
 refine g9j 1 ?_
 simp (maxSteps:=1000000) +contextual -dsimp [f239,hm,a0k,List.set]
theorem c1x:∀ (ks:List Int) (i:Nat) (c:Chart),N5 (fun (_:Nat) (c:Chart) (k:Int)=>{ c with acts:=c.acts.set k.toNat 0,dues:=c.dues.set k.toNat 0 }) i c ks=a0l ks c
 | [],_,c=>rfl
 | k::ks,i,c=>by
  simp only [N5]
  rw [c1x ks]
  simp [a0l,zap]
theorem h5r (l:List Step) (c:Chart) (ks:List Int) (hk:ks.length < 2 ^ 62) (hin:∀ k,k∈ks→∃ x:Nat,k=x∧x < c.acts.length∧x < c.dues.length):
  A5 E (orc E) (200:Nat) (ks.length+1) (B3 f200 0) ⟨32,[(0,.ptr 0 0 [] 0),(11,iS ks),(12,vI ks.length),(13,vI (0:Nat))],[(0,⟨0,1,true,bO l c⟩)],2⟩=
  some (.exit 0,⟨32,[(0,.ptr 0 0 [] 0),(11,iS ks),(12,vI ks.length),(13,vI ks.length),(14,vB false)],[(0,⟨0,1,true,bO l (a0l ks c)⟩)],2⟩):=by
 have h:=a4e (f:=200) (id:=0) (code:=B3 f200 0) ks (fun _ c'=>c'.acts.length=c.acts.length∧c'.dues.length=c.dues.length)
  (fun i c'=>⟨32,[(0,.ptr 0 0 [] 0),(11,iS ks),(12,vI ks.length),(13,vI i)],[(0,⟨0,1,true,bO l c'⟩)],2⟩) (fun (_:Nat) (c:Chart) (k:Int)=>{ c with acts:=c.acts.set k.toNat 0,dues:=c.dues.set k.toNat 0 })
  (fun c'=>⟨32,[(0,.ptr 0 0 [] 0),(11,iS ks),(12,vI ks.length),(13,vI ks.length),(14,vB false)],[(0,⟨0,1,true,bO l c'⟩)],2⟩)
 have h2:=h ?_ ?_ c ⟨rfl,rfl⟩
 ·rw [c1x] at h2; exact h2
 ·intro k c' _
  have hlt:=a2m ks.length
  simp +contextual -dsimp [f200,hlt]
 ·intro k i c' hi hI
  obtain ⟨x,hx,h1,h2⟩:=hin ks[i] (List.getElem_mem hi)
  have hlt:=O4 hi
  have hw:=N6 hi hk
  have e1:x < c'.acts.length:=by omega
  have e2:x < c'.dues.length:=by omega
  refine ⟨?_,by simp; exact hI⟩
  simp (maxSteps:=1000000) +contextual -dsimp [f200,hlt,hi,hw,hx,e1,e2,List.set]
theorem f4c {l:List Step} (w:Wf l) (c:Chart) (ha:c.acts.length=l.length) (hd:c.dues.length=l.length) (k:Nat) (hk:k < l.length):
  fo 200 [aB l c,A (vI k)]=some (RB l (a0l (K3 l k) c)):=by
 have g:=h1q w k hk
 have hle:=d7o l k
 have hl:=w.ok.le
 have hse:=a1r (K3 l k)
 have hlp:=h5r l c (K3 l k) (by omega) (fun k hk=>by
  obtain ⟨x,h1,h2,h3,h4⟩:=d3q hk
  exact ⟨x,h1,by omega,by omega⟩)
 refine g8s ((K3 l k).length+1) ?_
 simp -dsimp [f200] at hlp
 simp (maxSteps:=1000000) +contextual -dsimp [f200,g,hse,hlp]
def a1s (acts:List Int) (k:Int):Bool:=A0 (eqI (A3 acts k) 2)
theorem g2m (l:List Step) (c:Chart) (k:Nat) (hk:k < c.acts.length):fo 249 [A (vI k),A (.ipt [.ipt (bT l c)])]=some (R (vB (a1s c.acts k))):=by
 have hs:=K4 hk
 refine g9t 1 ?_
 simp (maxSteps:=1000000) +contextual -dsimp [f249,hk,a1s,hs]
theorem f5b {g:Nat} {cap:List T} (hmode:E.mode (g:Nat)=[]) (p:Int→Bool) (all:List Int) (hall:all.length < 2 ^ 62) (hg:∀ x,x∈all→fo g [A (vI x),A (.ipt cap)]=some (R (vB (p x)))) (hv:¬ g=127:=by decide):
    ∀ (rest:List Int) (i:Nat),all.drop i=rest→
    A5 E (orc E) (280:Nat) (rest.length+1) (B3 f280 0) ⟨19,[(0,iS all),(1,.clo g [.ipt cap]),(7,vI all.length),(8,vI i)],[],2⟩=
    (if ltI (D1 p i rest) 0 = true then some (.exit 0, ⟨19, [(0, iS all), (1, .clo g [.ipt cap]), (7, vI all.length), (8, vI (i + rest.length : Nat)), (9, vB false)], [], 2⟩)
     else some (.ret,⟨19,[(4,vI (D1 p i rest))],[],2⟩))
  | [],i,h=>by
    have hge:all.length≤i:=by simpa using h
    have hlt:ltI (i:Int) (all.length:Int)=false:=B7 (by omega)
    have h1:ltI (-1) 0=true:=rfl
    rw [C2]
    simp +contextual -dsimp [f280,hlt,D1,h1]
  | x::rest,i,h=>by
    obtain ⟨hi,hc,hr⟩:=C8 h
    have hlt:ltI (i:Int) (all.length:Int)=true:=C5 (by omega)
    have hw:IntKind.i64.wrap ((i:Int)+1)=((i+1:Nat):Int):=by rw [A6] <;> omega
    have he:i+1+rest.length=i+(rest.length+1):=by omega
    have h0:ltI (i:Int) 0=false:=B7 (by omega)
    have g:=hg x (by rw [← hc]; exact List.getElem_mem _)
    cases c:p x
    · have ih := f5b hmode p all hall hg hv rest (i + 1) hr
      rw [he] at ih
      have hm:D1 p i (x::rest)=D1 p (i+1) rest:=by simp [D1,c]
      rw [hm]
      rw [c] at g
      refine C0 ?_ (by simpa only [List.length_cons] using ih)
      simp (maxSteps:=1000000) +contextual -dsimp [f280,hlt,hi,hc,hw,hmode,hv,g]
    · have hm : D1 p i (x :: rest) = i := by simp [D1, c]
      rw [hm,h0,if_neg (by simp)]
      rw [c] at g
      refine D6 ?_ (by simp)
      simp (maxSteps:=1000000) +contextual -dsimp [f280,hlt,hi,hc,hmode,hv,g]
theorem f9r {g:Nat} {cap:List T} (hmode:E.mode (g:Nat)=[]) (p:Int→Bool) (l:List Int) (hl:l.length < 2 ^ 62) (hg:∀ x,x∈l→fo g [A (vI x),A (.ipt cap)]=some (R (vB (p x)))) (hv:¬ g=127:=by decide):
  fo 280 [A (iS l),A (.clo g [.ipt cap])]=some (R (vI (D1 p 0 l))):=by
 have hlp:=f5b hmode p l hl hg hv l 0 rfl
 refine c4e (l.length+1) ?_
 simp -dsimp [f280] at hlp
 cases c:ltI (D1 p 0 l) 0
 ·simp (maxSteps:=1000000) +contextual -dsimp [f280,hlp,c]
 ·have e:D1 p 0 l=-1:=b3w c
  rw [e] at hlp ⊢
  simp (maxSteps:=1000000) +contextual -dsimp [f280,hlp]
theorem g2n {g:Nat} {cap:List T} (hmode:E.mode (g:Nat)=[]) (p:Int→Bool) (l:List Int) (hl:l.length < 2 ^ 62) (hg:∀ x,x∈l→fo g [A (vI x),A (.ipt cap)]=some (R (vB (p x)))) (hv:¬ g=127:=by decide):
  fo 235 [A (iS l),A (.clo g [.ipt cap])]=some (R (vB (Q4 p l))):=by
 have g:=f9r hmode p l hl hg hv
 refine c4c 1 ?_
 simp (maxSteps:=1000000) +contextual -dsimp [f235,g,Q4]
attribute [local simp] a1r
def a5p (o:Option Int) (k d:Int):Int:=match o with | none=>-1 | some v=>if eqI v 1=true then k else d
def D3 (l:List Step) (vars:List Int):List Int→Int
 | []=>-2
 | k::r=>if ltI 0 (condOf l k.toNat).length=true then a5p (a3e (condOf l k.toNat) vars) k (D3 l vars r) else k
theorem Wf.condOf {l:List Step} (w:Wf l) {k:Nat} (hk:k < l.length) (h:ltI 0 (Ft.condOf l k).length=true):ExprOk (Ft.condOf l k):=by
 have e:Ft.condOf l k=(l[k]).cond:=by simp [Ft.condOf,hk]
 rw [e] at h ⊢
 refine w.cond (List.getElem_mem hk) fun hn=>?_
 rw [hn] at h; simp [ltI] at h
structure Inv (l:List Step) (c:Chart):Prop where
 vars:c.vars.length=4
 acts:c.acts.length=l.length
 dues:c.dues.length=l.length
 now0:0≤c.now
 now1:c.now≤1000000
 rng:∀ x,x∈c.vars→badV x=false
theorem f5c {l:List Step} (w:Wf l) (c:Chart) (hv:c.vars.length=4) (all:List Int) (hall:all.length≤24) (hks:∀ k,k∈all→∃ x:Nat,k=x∧x < l.length) (c':Chart):∀ (rest:List Int) (i:Nat),all.drop i=rest→
    (D3 l c.vars rest=-1→c'=a0k l 3 c)→(0≤D3 l c.vars rest→fo 171 [aB l c,A (vI (D3 l c.vars rest))]=some (RB l c'))→
    A5 E (orc E) (237:Nat) (rest.length+1) (B3 f237 0) ⟨46,[(0,.ptr 0 0 [] 0),(9,iS all),(10,vI all.length),(11,vI i)],[(0,⟨0,1,true,bO l c⟩)],2⟩=
    (if eqI (D3 l c.vars rest) (-2) = true then some (.exit 0, ⟨46, [(0, .ptr 0 0 [] 0), (9, iS all), (10, vI all.length), (11, vI (i + rest.length : Nat)), (12, vB false)], [(0, ⟨0, 1, true, bO l c⟩)], 2⟩)
     else some (.ret,⟨46,[(0,.ptr 0 0 [] 0)],[(0,⟨0,1,true,bO l c'⟩)],2⟩))
  | [],i,h,_,_=>by
    have hge:all.length≤i:=by simpa using h
    have hlt:ltI (i:Int) (all.length:Int)=false:=B7 (by omega)
    rw [C2]
    simp +contextual -dsimp [f237,hlt,D3,C1]
  | k::rest,i,h,h1,h2=>by
    obtain ⟨hi,hc,hr⟩:=C8 h
    obtain ⟨x,hx,hxl⟩:=hks k (by rw [← hc]; exact List.getElem_mem _)
    have hlt:=O4 hi
    have hw:=N6 hi (by omega)
    have he:i+1+rest.length=i+(rest.length+1):=by omega
    have ec:(l[x]).cond=condOf l x:=by simp [condOf,hxl]
    have hl24:=w.ok.le
    have hm:D3 l c.vars (k::rest)=(if ltI 0 (condOf l x).length=true then a5p (a3e (condOf l x) c.vars) k (D3 l c.vars rest) else k):=by
      conv=>lhs; unfold D3
      rw [hx,Int.toNat_natCast]
    have e11:eqI 1 1=true:=rfl
    have taken:D3 l c.vars (k::rest)=k→eqI (D3 l c.vars (k::rest)) (-2)=false∧fo 171 [aB l c,A (vI k)]=some (RB l c'):=fun e=>by
      rw [e]
      rw [e] at h2
      exact ⟨by simp [eqI]; omega,h2 (by omega)⟩
    cases q:ltI 0 (condOf l x).length
    · rw [q, if_neg (by simp)] at hm
      obtain ⟨t1,t2⟩:=taken hm
      rw [t1,if_neg (by simp)]
      refine D6 ?_ (by simp)
      rw [hx] at hc t2
      simp (maxSteps:=1000000) +contextual -dsimp [f237,hlt,hi,hc,hxl,ec,q,e11,t2]
    · have g := f4b (condOf l x) (w.condOf hxl q) c.vars hv
      rw [q,if_pos rfl] at hm
      cases ev:a3e (condOf l x) c.vars with
      | none=>
        rw [ev] at hm g
        simp only [RE] at g
        have t1:eqI (D3 l c.vars (k::rest)) (-2)=false:=by rw [hm]; rfl
        have t2:=h1 hm
        have g2:=c5o l (by omega) c 3
        rw [← t2] at g2
        rw [t1,if_neg (by simp)]
        refine D6 ?_ (by simp)
        rw [hx] at hc
        simp (maxSteps:=1000000) +contextual -dsimp [f237,hlt,hi,hc,hxl,ec,q,g,g2]
      | some v=>
        rw [ev] at hm g
        simp only [RE] at g
        cases q1:eqI v 1
        · have hm : D3 l c.vars (k :: rest) = D3 l c.vars rest := by simpa [q1, a5p] using hm
          rw [hm] at h1 h2 ⊢
          have ih:=f5c w c hv all hall hks c' rest (i+1) hr h1 h2
          rw [he] at ih
          refine C0 ?_ (by simpa only [List.length_cons] using ih)
          rw [hx] at hc
          simp (maxSteps:=1000000) +contextual -dsimp [f237,hlt,hi,hc,hw,hxl,ec,q,g,q1]
        · have hm : D3 l c.vars (k :: rest) = k := by simpa [q1, a5p] using hm
          obtain ⟨t1,t2⟩:=taken hm
          rw [t1,if_neg (by simp)]
          refine D6 ?_ (by simp)
          rw [hx] at hc t2
          simp (maxSteps:=1000000) +contextual -dsimp [f237,hlt,hi,hc,hxl,ec,q,g,q1,t2]
theorem g5t {l:List Step} (w:Wf l) (c:Chart) (hv:c.vars.length=4) (ks:List Int) (hall:ks.length≤24) (hks:∀ k,k∈ks→∃ x:Nat,k=x∧x < l.length) (c':Chart)
  (h0:D3 l c.vars ks=-2→c'=c) (h1:D3 l c.vars ks=-1→c'=a0k l 3 c) (h2:0≤D3 l c.vars ks→fo 171 [aB l c,A (vI (D3 l c.vars ks))]=some (RB l c')):
  fo 237 [aB l c,A (iS ks)]=some (RB l c'):=by
 have hlp:=f5c w c hv ks hall hks c' ks 0 rfl h1 h2
 refine g9h (ks.length+1) ?_
 simp -dsimp [f237] at hlp
 cases q:eqI (D3 l c.vars ks) (-2)
 ·rw [q] at hlp
  simp (maxSteps:=1000000) +contextual -dsimp [f237,hlp]
 ·rw [q] at hlp
  have e:=h0 (by simpa [eqI] using q)
  subst e
  simp (maxSteps:=1000000) +contextual -dsimp [f237,hlp]
end Go.TM.Ft
namespace Go.TM.Ft
open Go Go.TM Go.Proofs Go.Proofs.Tryz
set_option maxRecDepth 20000
attribute [local congr] K9
attribute [local simp] J8 K0 J0 J9 H3 J6 H4 G4 H5 G1
abbrev eT (e:Engine):List T:=[.sl 160 (e.procs.map (pT 124 219)),.sl 163 (e.insts.map xT),vI e.now]
theorem f0k (e:Engine) (x:Inst) (a:Nat) (hx:x.proc=a) (ha:a < e.procs.length):fo 127 [A (.agg (eT e)),A (.agg (xT x))]=some ⟨.sl 124 ((e.procs[a]).map (sT 219)),[],false⟩:=by
 refine g7o 1 ?_
 simp (maxSteps:=1000000) +contextual -dsimp [f127,hx,ha]
def stepsOf (e:Engine) (x:Inst):List Step:=e.procs.getD x.proc.toNat []
def a2z:List (List Step)→Int
 | []=>0
 | p::r=>if A0 (eqI (O3 p) 0)=true then O3 p else a2z r
structure FitP (p:List Step):Prop where
 len:p.length < 2 ^ 62
 steps:∀ s,s∈p→FitS s
theorem f4d (all:List (List Step)) (hall:all.length≤1000) (hf:∀ p,p∈all→FitP p):∀ (rest:List (List Step)) (i:Nat),all.drop i=rest→
    A5 E (orc E) (185:Nat) (rest.length+1) (B3 f185 0) ⟨23,[(10,.sl 160 (all.map (pT 124 219))),(11,vI all.length),(12,vI i)],[],2⟩=
    (if eqI (a2z rest) 0 = true then some (.exit 0, ⟨23, [(10, .sl 160 (all.map (pT 124 219))), (11, vI all.length), (12, vI (i + rest.length : Nat)), (13, vB false)], [], 2⟩)
     else some (.ret,⟨23,[(2,vI (a2z rest))],[],2⟩))
  | [],i,h=>by
    have hge:all.length≤i:=by simpa using h
    have hlt:ltI (i:Int) (all.length:Int)=false:=B7 (by omega)
    rw [C2]
    simp +contextual -dsimp [f185,hlt,a2z,C1]
  | s::rest,i,h=>by
    obtain ⟨hi,hc,hr⟩:=C8 h
    have hlt:ltI (i:Int) (all.length:Int)=true:=C5 (by omega)
    have hw:IntKind.i64.wrap ((i:Int)+1)=((i+1:Nat):Int):=by rw [A6] <;> omega
    have he:i+1+rest.length=i+(rest.length+1):=by omega
    have hs:=hf s (by rw [← hc]; exact List.getElem_mem _)
    have g:=c9y s hs.len hs.steps
    cases q:eqI (O3 s) 0
    · have hm : a2z (s :: rest) = O3 s := by simp [a2z, q, A0]
      rw [hm,q,if_neg (by simp)]
      refine D6 ?_ (by simp)
      simp (maxSteps:=1000000) +contextual -dsimp [f185,hlt,hi,hc,g,q,List.set]
    · have ih := f4d all hall hf rest (i + 1) hr
      rw [he] at ih
      have hm:a2z (s::rest)=a2z rest:=by simp [a2z,q,A0]
      rw [hm]
      refine C0 ?_ (by simpa only [List.length_cons] using ih)
      simp (maxSteps:=1000000) +contextual -dsimp [f185,hlt,hi,hc,hw,g,q,List.set]
def a4m (ps:List (List Step)):Int:=if A0 (inR ps.length 1 3)=true then 2 else a2z ps
theorem f7j (ps:List (List Step)) (hps:ps.length < 2 ^ 62) (hf:∀ p,p∈ps→FitP p):fo 185 [A (.sl 160 (ps.map (pT 124 219)))]=some (R (vI (a4m ps))):=by
 unfold a4m
 cases c1:inR ps.length 1 3
 ·refine d9z 1 ?_
  simp (maxSteps:=1000000) +contextual -dsimp [f185,D7,c1]
 ·have hl:ps.length≤1000:=by simp [inR,A2,leI] at c1; omega
  have hlp:=f4d ps hl hf ps 0 rfl
  refine d9z (ps.length+1) ?_
  simp -dsimp [f185] at hlp
  cases c2:eqI (a2z ps) 0
  ·rw [c2] at hlp
   simp (maxSteps:=1000000) +contextual -dsimp [f185,D7,c1,hlp]
  ·rw [c2] at hlp
   have e0:a2z ps=0:=by simpa [eqI] using c2
   simp (maxSteps:=1000000) +contextual -dsimp [f185,D7,c1,e0,hlp]
def b0c (e:Engine) (x:Inst):Int:=C4 (chartM (stepsOf e x) x.chart) (ci (A0 (eqI x.chart.now e.now)) 9)
def a4q (e:Engine) (x:Inst):Int:=if A0 (inR x.proc 0 ((e.procs.length:Int) - 1))=true then 3 else b0c e x
def U0 (e:Engine):List Inst→Int
 | []=>0
 | x::r=>if eqI (a4q e x) 0=true then U0 e r else a4q e x
structure FitE (e:Engine):Prop where
 np:e.procs.length < 2 ^ 62
 ni:e.insts.length < 2 ^ 62
 procs:∀ p,p∈e.procs→FitP p
 insts:∀ x,x∈e.insts→FitC x.chart
theorem f4e (e:Engine) (hf:FitE e):∀ (rest:List Inst) (i:Nat),e.insts.drop i=rest→
    A5 E (orc E) (113:Nat) (rest.length+1) (B3 f113 0) ⟨64,[(1,.ptr 1 1 [] 0),(32,.sl 163 (e.insts.map xT)),(33,vI e.insts.length),(34,vI i)],[(1,⟨1,1,true,eT e⟩)],2⟩=
    (if eqI (U0 e rest) 0 = true then some (.exit 0, ⟨64, [(1, .ptr 1 1 [] 0), (32, .sl 163 (e.insts.map xT)), (33, vI e.insts.length), (34, vI (i + rest.length : Nat)), (35, vB false)], [(1, ⟨1, 1, true, eT e⟩)], 2⟩)
     else some (.ret,⟨64,[(2,vI (U0 e rest))],[],2⟩))
  | [],i,h=>by
    have hge:e.insts.length≤i:=by simpa using h
    have hlt:ltI (i:Int) (e.insts.length:Int)=false:=B7 (by omega)
    rw [C2]
    simp +contextual -dsimp [f113,hlt,U0,C1]
  | x::rest,i,h=>by
    obtain ⟨hi,hc,hr⟩:=C8 h
    have hni:=hf.ni
    have hlt:ltI (i:Int) (e.insts.length:Int)=true:=C5 (by omega)
    have hw:IntKind.i64.wrap ((i:Int)+1)=((i+1:Nat):Int):=by rw [A6] <;> omega
    have he:i+1+rest.length=i+(rest.length+1):=by omega
    have g0:=g1w x.proc e.procs.length hf.np
    have hxc:=hf.insts x (by rw [← hc]; exact List.getElem_mem _)
    cases q1:inR x.proc 0 ((e.procs.length:Int) - 1)
    · have h3 : a4q e x = 3 := by simp [a4q, q1, A0]
      have h30:eqI (3:Int) 0=false:=rfl
      have hm:U0 e (x::rest)=3:=by simp [U0,h3,h30]
      rw [hm,h30,if_neg (by simp)]
      refine D6 ?_ (by simp)
      simp (maxSteps:=1000000) +contextual -dsimp [f113,hlt,hi,hc,g0,q1,List.set]
    · obtain ⟨a, hx, ha⟩ : ∃ a : Nat, x.proc = a ∧ a < e.procs.length := by
        simp [inR,A2,leI] at q1
        obtain ⟨k,hk⟩:=Int.eq_ofNat_of_zero_le q1.1
        exact ⟨k,hk,by omega⟩
      have h3:a4q e x=b0c e x:=by simp [a4q,q1,A0]
      have hp:=hf.procs (e.procs[a]) (List.getElem_mem _)
      have g1:=f0k e x a hx ha
      have e2:stepsOf e x=e.procs[a]:=by simp [stepsOf,hx,ha]
      have g2:=c8o (e.procs[a]) hp.len hp.steps x.chart hxc
      have g3:=a0b (chartM (e.procs[a]) x.chart) (ci (A0 (eqI x.chart.now e.now)) 9)
      cases q2:eqI (b0c e x) 0
      · have hm : U0 e (x :: rest) = b0c e x := by simp [U0, h3, q2]
        rw [hm,q2,if_neg (by simp)]
        unfold b0c at q2 ⊢
        rw [e2] at q2 ⊢
        refine D6 ?_ (by simp)
        simp (maxSteps:=1000000) +contextual -dsimp [f113,hlt,hi,hc,g0,g1,g2,g3,P5,q1,q2,List.set]
      · have ih := f4e e hf rest (i + 1) hr
        rw [he] at ih
        have hm:U0 e (x::rest)=U0 e rest:=by simp [U0,h3,q2]
        rw [hm]
        unfold b0c at q2
        rw [e2] at q2
        refine C0 ?_ (by simpa only [List.length_cons] using ih)
        simp (maxSteps:=1000000) +contextual -dsimp [f113,hlt,hi,hc,hw,g0,g1,g2,g3,P5,q1,q2,List.set]
def a9n (e:Engine):Int:=C4 (a4m e.procs) (ci (A0 (inR e.now 0 1000000)) 3)
def a1o (e:Engine):Int:=
 if orB (A0 (inR e.procs.length 1 3)) (ltI 6 e.insts.length)=true then 2
 else if A0 (eqI (a9n e) 0)=true then a9n e
 else U0 e e.insts
theorem f6s (e:Engine) (hf:FitE e):fo 113 [A (.agg (eT e))]=some (R (vI (a1o e))):=by
 have g1:=f7j e.procs hf.np hf.procs
 have g3:=a0b (a4m e.procs) (ci (A0 (inR e.now 0 1000000)) 3)
 have hlp:=f4e e hf e.insts 0 rfl
 simp -dsimp [f113] at hlp
 unfold a1o
 refine g7f (e.insts.length+1) ?_
 cases q1:inR e.procs.length 1 3
 ·simp (maxSteps:=1000000) +contextual -dsimp [f113,D7,q1]
 ·cases q2:ltI 6 e.insts.length
  ·cases q3:eqI (a9n e) 0
   ·unfold a9n at q3 ⊢
    simp (maxSteps:=1000000) +contextual -dsimp [f113,D7,b0b,P5,g1,g3,q1,q2,q3,List.set]
   ·have q3':=q3
    unfold a9n at q3'
    cases q4:eqI (U0 e e.insts) 0
    ·rw [q4] at hlp
     simp (maxSteps:=1000000) +contextual -dsimp [f113,D7,b0b,P5,g1,g3,q1,q2,q3',hlp,List.set]
    ·rw [q4] at hlp
     have e0:U0 e e.insts=0:=by simpa [eqI] using q4
     simp (maxSteps:=1000000) +contextual -dsimp [f113,D7,b0b,P5,g1,g3,q1,q2,q3',e0,hlp,List.set]
  ·simp (maxSteps:=1000000) +contextual -dsimp [f113,D7,q1,q2]
structure InstOk (e:Engine) (x:Inst):Prop where
 ex:∃ (a:Nat) (_:a < e.procs.length),x.proc=a
 chart:chartM (stepsOf e x) x.chart=0
theorem f9s {e:Engine} {x:Inst} (h:a4q e x=0):InstOk e x:=by
 unfold a4q at h
 split at h
 ·simp at h
 ·rename_i c
  have c:inR x.proc 0 ((e.procs.length:Int) - 1)=true:=by simpa [A0] using c
  refine ⟨?_,(a0a h).1⟩
  simp [inR,A2,leI] at c
  obtain ⟨k,hk⟩:=Int.eq_ofNat_of_zero_le c.1
  exact ⟨k,by omega,hk⟩
theorem c9z {e:Engine}:∀ {l:List Inst},U0 e l=0→∀ x,x∈l→InstOk e x
 | [],_,x,hx=>by simp at hx
 | y::l,h,x,hx=>by
  unfold U0 at h
  split at h
  ·rename_i c
   rcases List.mem_cons.1 hx with rfl | hx
   ·exact f9s (by simpa [eqI] using c)
   ·exact c9z h x hx
  ·rename_i c; rw [h] at c; exact absurd rfl c
theorem b6k {e:Engine} (h:a1o e=0):e.procs.length≤3∧e.insts.length≤6∧(∀ x,x∈e.insts→InstOk e x):=by
 unfold a1o at h
 split at h
 ·simp at h
 ·rename_i c
  split at h
  ·rename_i c2; rw [h] at c2; simp [A0,eqI] at c2
  ·simp [orB,A0,inR,A2,leI,ltI] at c
   exact ⟨by omega,by omega,c9z h⟩
theorem b9u {l:List Step} {c:Chart} (h:chartM l c=0):a5j l c=0:=by
 unfold chartM at h
 split at h
 ·exact h
 ·rename_i c; simpa [A0,eqI] using c
theorem InstOk.at_ {e:Engine} {x:Inst} (h:InstOk e x):∃ (a:Nat) (ha:a < e.procs.length),x.proc=a∧stepsOf e x=e.procs[a]∧ProcOk (e.procs[a])∧x.chart.acts.length=(e.procs[a]).length:=by
 obtain ⟨⟨a,ha,hx⟩,hc⟩:=h
 have e2:stepsOf e x=e.procs[a]:=by simp [stepsOf,hx,ha]
 rw [e2] at hc
 obtain ⟨z1,_,_,_,z5,_⟩:=b5p (b9u hc)
 exact ⟨a,ha,hx,e2,b7j z1,z5⟩
theorem a2f (n:Int):fo 129 [A (vI n)]=some (R (vB (inR n 0 1000000))):=by
 refine g7p 1 ?_
 simp (maxSteps:=1000000) +contextual -dsimp [f129,G0]
def a4u:List Int→Bool
 | []=>false
 | x::r=>if badV x=true then true else a4u r
theorem f5x (all:List Int) (hall:all.length≤1000):∀ (rest:List Int) (i:Nat),all.drop i=rest→
  A5 E (orc E) (159:Nat) (rest.length+1) (B3 f159 0) ⟨19,[(0,iS all),(3,vI i)],[],2⟩=
  (if a4u rest=true then some (.ret,⟨19,[(2,vI 3)],[],2⟩) else some (.exit 0,⟨19,[(0,iS all),(3,vI (i+rest.length:Nat)),(10,vB false)],[],2⟩))
 | [],i,h=>by
  have hge:all.length≤i:=by simpa using h
  have hlt:ltI (i:Int) (all.length:Int)=false:=B7 (by omega)
  rw [C2]
  simp +contextual -dsimp [f159,hlt,a4u]
 | x::rest,i,h=>by
  obtain ⟨hi,hc,hr⟩:=C8 h
  have hlt:ltI (i:Int) (all.length:Int)=true:=C5 (by omega)
  have hw:IntKind.i64.wrap ((i:Int)+1)=((i+1:Nat):Int):=by rw [A6] <;> omega
  have he:i+1+rest.length=i+(rest.length+1):=by omega
  cases q:inR x (-1000000) 1000000
  ·have hm:a4u (x::rest)=true:=by simp [a4u,badV,q,A0]
   rw [hm,if_pos rfl]
   refine D6 ?_ (by simp)
   simp (maxSteps:=1000000) +contextual -dsimp [f159,hlt,hi,hc,G0,q]
  ·have hm:a4u (x::rest)=a4u rest:=by simp [a4u,badV,q,A0]
   have ih:=f5x all hall rest (i+1) hr
   rw [he] at ih
   rw [hm]
   refine C0 ?_ (by simpa only [List.length_cons] using ih)
   simp (maxSteps:=1000000) +contextual -dsimp [f159,hlt,hi,hc,hw,G0,q]
def a8z (l:List Int):Int:=if A0 (eqI l.length 4)=true then 2 else if a4u l=true then 3 else 0
theorem h1s (l:List Int):fo 159 [A (iS l)]=some (R (vI (a8z l))):=by
 unfold a8z
 cases q:eqI l.length 4
 ·refine d9w 1 ?_
  simp (maxSteps:=1000000) +contextual -dsimp [f159,q]
 ·have hl:l.length≤1000:=by simp [eqI] at q; omega
  have hlp:=f5x l hl l 0 rfl
  refine d9w (l.length+1) ?_
  simp -dsimp [f159] at hlp
  cases q2:a4u l
  ·rw [q2] at hlp
   simp (maxSteps:=1000000) +contextual -dsimp [f159,q,hlp]
  ·rw [q2] at hlp
   simp (maxSteps:=1000000) +contextual -dsimp [f159,q,hlp]
theorem b8t (l:List Step) (c:Chart) (at_:Int) (hb:c.acts.length < 2 ^ 62) (all:List Int) (hall:all.length≤1000) (hk:∀ k,k∈all→∃ a:Nat,k=a∧a < c.acts.length):∀ (rest:List Int) (i n m:Nat),all.drop i=rest→n≤i→m≤i→
  A5 E (orc E) (228:Nat) (rest.length+1) (B3 f228 0) ⟨130,[(0,.sl 124 (l.map (sT 219))),(1,.ipt (cT c)),(2,vI at_),(7,iS all),(8,vI n),(9,vI m),(10,vI i)],[],2⟩=
  some (.exit 0,⟨130,[(0,.sl 124 (l.map (sT 219))),(1,.ipt (cT c)),(2,vI at_),(7,iS all),(8,vI (C6 c.acts 1 rest n)),(9,vI (C6 c.acts 2 rest m)),(10,vI (i+rest.length:Nat)),(18,vB false)],[],2⟩)
 | [],i,n,m,h,hn,hm=>by
  have hge:all.length≤i:=by simpa using h
  have hlt:ltI (i:Int) (all.length:Int)=false:=B7 (by omega)
  rw [C2]
  simp +contextual -dsimp [f228,hlt,C6]
 | x::rest,i,n,m,h,hn,hmm=>by
  obtain ⟨hi,hc,hr⟩:=C8 h
  obtain ⟨a,rfl,ha⟩:=hk x (by rw [← hc]; exact List.getElem_mem _)
  have hlt:ltI (i:Int) (all.length:Int)=true:=C5 (by omega)
  have hw:IntKind.i64.wrap ((i:Int)+1)=((i+1:Nat):Int):=by rw [A6] <;> omega
  have hw2:IntKind.i64.wrap ((n:Int)+1)=((n+1:Nat):Int):=by rw [A6] <;> omega
  have hw3:IntKind.i64.wrap ((m:Int)+1)=((m+1:Nat):Int):=by rw [A6] <;> omega
  have he:i+1+rest.length=i+(rest.length+1):=by omega
  have hs:=a1a ha
  cases q:eqI (c.acts[a]) 1
  ·cases q2:eqI (c.acts[a]) 2
   ·have ih:=b8t l c at_ hb all hall hk rest (i+1) n m hr (by omega) (by omega)
    rw [he] at ih
    have hm1:C6 c.acts 1 ((a:Int)::rest) n=C6 c.acts 1 rest n:=by simp [C6,hs,q]
    have hm2:C6 c.acts 2 ((a:Int)::rest) m=C6 c.acts 2 rest m:=by simp [C6,hs,q2]
    rw [hm1,hm2]
    refine C0 ?_ (by simpa only [List.length_cons] using ih)
    simp (maxSteps:=1000000) +contextual -dsimp [f228,hlt,hi,hc,hw,ha,q,q2]
   ·have ih:=b8t l c at_ hb all hall hk rest (i+1) n (m+1) hr (by omega) (by omega)
    rw [he] at ih
    have hm1:C6 c.acts 1 ((a:Int)::rest) n=C6 c.acts 1 rest n:=by simp [C6,hs,q]
    have hm2:C6 c.acts 2 ((a:Int)::rest) m=C6 c.acts 2 rest (m+1):=by simp [C6,hs,q2]
    rw [hm1,hm2]
    refine C0 ?_ (by simpa only [List.length_cons] using ih)
    simp (maxSteps:=1000000) +contextual -dsimp [f228,hlt,hi,hc,hw,hw3,ha,q,q2]
  ·have q2:eqI (c.acts[a]) 2=false:=by simp [eqI] at q ⊢; omega
   have ih:=b8t l c at_ hb all hall hk rest (i+1) (n+1) m hr (by omega) (by omega)
   rw [he] at ih
   have hm1:C6 c.acts 1 ((a:Int)::rest) n=C6 c.acts 1 rest (n+1):=by simp [C6,hs,q]
   have hm2:C6 c.acts 2 ((a:Int)::rest) m=C6 c.acts 2 rest m:=by simp [C6,hs,q2]
   rw [hm1,hm2]
   refine C0 ?_ (by simpa only [List.length_cons] using ih)
   simp (maxSteps:=1000000) +contextual -dsimp [f228,hlt,hi,hc,hw,hw2,ha,q]
theorem d7q {p:Int}:∀ {l:List Step} {i:Nat} {k:Int},k∈B5 p i l→∃ a:Nat,k=a∧a < i+l.length
 | [],i,k,h=>by simp [B5] at h
 | x::l,i,k,h=>by
  unfold B5 at h
  have tl:k∈B5 p (i+1) l→∃ a:Nat,k=a∧a < i+(x::l).length:=fun h=>by
   obtain ⟨a,h1,h2⟩:=d7q h
   exact ⟨a,h1,by simp; omega⟩
  split at h
  ·rcases List.mem_cons.1 h with rfl | h
   ·exact ⟨i,rfl,by simp⟩
   ·exact tl h
  ·exact tl h
def a5k (k:Int) (c:Chart) (on over:Int) (list:List Int) (due:Bool):Bool:=
 if orB (eqI k 1) (eqI k 3)=true then orB (orB (A0 (eqI on 1)) (ltI 0 over)) due
 else if eqI k 4=true then orB (orB (ltI on 1) (A0 (eqI (on+over) list.length))) due
 else if eqI k 8=true then orB (orB (A0 (eqI on 1)) (ltI 0 over)) (A0 (eqB due (eqI (A3 c.acts (A3 list 0)) 1)))
 else if eqI k 6=true then A0 due
 else if eqI k 7=true then true
 else due
def a9a (l:List Step) (c:Chart) (i:Nat):Bool:=
 if A0 (eqI (A3 c.acts i) 1)=true then orB (ltI 0 ((C6 c.acts 1 (B5 i 0 l) 0:Nat)+(C6 c.acts 2 (B5 i 0 l) 0:Nat))) (A0 (eqI (A3 c.dues i) 0))
 else a5k (A8 l i) c (C6 c.acts 1 (B5 i 0 l) 0:Nat) (C6 c.acts 2 (B5 i 0 l) 0:Nat) (B5 i 0 l) (A0 (eqI (A3 c.dues i) 0))
theorem g2o (l:List Step) (hl:l.length≤24) (c:Chart) (ha:c.acts.length=l.length) (hd:c.dues.length=l.length) (i:Nat) (hi:i < l.length):
  fo 228 [A (.sl 124 (l.map (sT 219))),A (.ipt (cT c)),A (vI i)]=some (R (vB (a9a l c i))):=by
 have g1:=a8n l (by omega) i
 have hk:∀ k,k∈B5 i 0 l→∃ a:Nat,k=a∧a < c.acts.length:=fun k h=>by
  obtain ⟨a,h1,h2⟩:=d7q h
  exact ⟨a,h1,by omega⟩
 have hfew:=c3k i l 0
 have hia:i < c.acts.length:=by omega
 have hid:i < c.dues.length:=by omega
 have hsa:A3 c.acts (i:Int)=c.acts[i]:=a1a hia
 have hsd:A3 c.dues (i:Int)=c.dues[i]:=a1a hid
 have hki:A8 l i=(l[i]).kind:=by simp [A8,hi]
 have b1:=a7p c.acts 1 (B5 i 0 l) 0
 have b2:=a7p c.acts 2 (B5 i 0 l) 0
 have hlp:=b8t l c i (by omega) (B5 i 0 l) (by omega) hk (B5 i 0 l) 0 0 0 rfl (by omega) (by omega)
 unfold a9a
 rw [hsa,hsd,hki]
 have hl0:C6 c.acts 1 (B5 i 0 l) 0=1→0 < (B5 i 0 l).length:=fun h=>by omega
 generalize hon:C6 c.acts 1 (B5 i 0 l) 0=on at *
 generalize hov:C6 c.acts 2 (B5 i 0 l) 0=ov at *
 have hw:IntKind.i64.wrap ((on:Int)+ov)=(on:Int)+ov:=by rw [A6] <;> omega
 generalize B5 i 0 l=ks at *
 have hse:=a1r ks
 refine g8z (ks.length+1) ?_
 simp -dsimp [f228] at hlp
 cases q2:eqI c.acts[i] 1
 ·simp (maxSteps:=1000000) +contextual -dsimp [f228,g1,hse,hlp,hia,hid,q2,hw]
 ·cases e1:eqI (l[i].kind) 1
  ·cases e3:eqI (l[i].kind) 3
   ·cases e4:eqI (l[i].kind) 4
    ·cases e8:eqI (l[i].kind) 8
     ·cases e6:eqI (l[i].kind) 6
      ·cases e7:eqI (l[i].kind) 7
       ·simp (maxSteps:=1000000) +contextual -dsimp [f228,g1,hse,hlp,hia,hid,hi,q2,a5k,e1,e3,e4,e8,e6,e7]
       ·simp (maxSteps:=1000000) +contextual -dsimp [f228,g1,hse,hlp,hia,hid,hi,q2,a5k,e1,e3,e4,e8,e6,e7]
      ·simp (maxSteps:=1000000) +contextual -dsimp [f228,g1,hse,hlp,hia,hid,hi,q2,a5k,e1,e3,e4,e8,e6]
     ·cases o1:eqI (on:Int) 1
      ·simp (maxSteps:=1000000) +contextual -dsimp [f228,g1,hse,hlp,hia,hid,hi,q2,a5k,e1,e3,e4,e8,o1]
      ·have hpos:0 < ks.length:=hl0 (by simp [eqI] at o1; omega)
       obtain ⟨a,ka,hla⟩:=hk (ks[0]) (List.getElem_mem _)
       have hs0:A3 ks 0=ks[0]:=a1a hpos
       have hs1:A3 c.acts (a:Int)=c.acts[a]:=a1a hla
       cases o2:ltI 0 (ov:Int)
       ·simp (maxSteps:=1000000) +contextual -dsimp [f228,g1,hse,hlp,hia,hid,hi,q2,a5k,e1,e3,e4,e8,o1,o2,hpos,hs0,ka,hs1,hla]
       ·simp (maxSteps:=1000000) +contextual -dsimp [f228,g1,hse,hlp,hia,hid,hi,q2,a5k,e1,e3,e4,e8,o1,o2,hs0,ka,hs1]
    ·simp (maxSteps:=1000000) +contextual -dsimp [f228,g1,hse,hlp,hia,hid,hi,q2,hw,a5k,e1,e3,e4]
   ·simp (maxSteps:=1000000) +contextual -dsimp [f228,g1,hse,hlp,hia,hid,hi,q2,a5k,e1,e3]
  ·simp (maxSteps:=1000000) +contextual -dsimp [f228,g1,hse,hlp,hia,hid,hi,q2,a5k,e1]
def a9o (c:Chart) (i:Nat):Bool:=orB (A0 (inR (A3 c.acts i) 0 2)) (A0 (inR (A3 c.dues i) 0 (c.now+99)))
def a1z (c:Chart):Nat→Nat→Bool
 | 0,_=>false
 | f+1,i=>if a9o c i=true then true else a1z c f (i+1)
def b0v (c:Chart) (i:Nat) (s:Bool):Bool:=orB (orB s (A0 (eqI (A3 c.acts i) 0))) (A0 (eqI (A3 c.dues i) 0))
def a5q (c:Chart):Nat→Nat→Bool→Bool
 | 0,_,s=>s
 | f+1,i,s=>a5q c f (i+1) (b0v c i s)
theorem f5d (l:List Step) (hl:l.length≤24) (c:Chart) (ha:c.acts.length=l.length) (hd:c.dues.length=l.length) (hn0:0≤c.now) (hn1:c.now≤1000000):∀ (f i:Nat) (s:Bool),i+f=l.length→
    A5 E (orc E) (163:Nat) (f+1) (B3 f163 0) ⟨130,[(0,.sl 124 (l.map (sT 219))),(1,.ipt (cT c)),(7,vB s),(8,vI i)],[],2⟩=
    (if a1z c f i = true then some (.ret, ⟨130, [(4, vI 3)], [], 2⟩)
     else some (.exit 0,⟨130,[(0,.sl 124 (l.map (sT 219))),(1,.ipt (cT c)),(7,vB (a5q c f i s)),(8,vI l.length),(58,vB false)],[],2⟩))
  | 0,i,s,h=>by
    have e:i=l.length:=by omega
    subst e
    have hlt:ltI (l.length:Int) (l.length:Int)=false:=B7 (by omega)
    rw [C2]
    simp +contextual -dsimp [f163,hlt,a1z,a5q]
  | f+1,i,s,h=>by
    have hi:i < l.length:=by omega
    have hia:i < c.acts.length:=by omega
    have hid:i < c.dues.length:=by omega
    have hsa:A3 c.acts (i:Int)=c.acts[i]:=a1a hia
    have hsd:A3 c.dues (i:Int)=c.dues[i]:=a1a hid
    have hlt:ltI (i:Int) (l.length:Int)=true:=C5 (by omega)
    have hw:IntKind.i64.wrap ((i:Int)+1)=((i+1:Nat):Int):=by rw [A6] <;> omega
    have hw2:IntKind.i64.wrap (c.now+99)=c.now+99:=by rw [A6] <;> omega
    cases q:inR c.acts[i] 0 2
    · have hm : a1z c (f + 1) i = true := by simp [a1z, a9o, hsa, q, A0, orB]
      rw [hm,if_pos rfl]
      refine D6 ?_ (by simp)
      simp (maxSteps:=1000000) +contextual -dsimp [f163,hlt,hia,G0,q]
    · cases q2 : inR c.dues[i] 0 (c.now + 99)
      · have hm : a1z c (f + 1) i = true := by simp [a1z, a9o, hsa, hsd, q, q2, A0, orB]
        rw [hm,if_pos rfl]
        refine D6 ?_ (by simp)
        simp (maxSteps:=1000000) +contextual -dsimp [f163,hlt,hia,hid,hw2,G0,q,q2]
      · have ih := f5d l hl c ha hd hn0 hn1 f (i + 1) (b0v c i s) (by omega)
        have hm:a1z c (f+1) i=a1z c f (i+1):=by simp [a1z,a9o,hsa,hsd,q,q2,A0,orB]
        have hm2:a5q c (f+1) i s=a5q c f (i+1) (b0v c i s):=rfl
        rw [hm,hm2]
        refine C0 ?_ ih
        unfold b0v
        rw [hsa,hsd]
        simp (maxSteps:=1000000) +contextual -dsimp [f163,hlt,hia,hid,hw,hw2,G0,q,q2]
def a2h (l:List Step) (c:Chart):Nat→Nat→Bool
 | 0,_=>false
 | f+1,i=>if a9a l c i=true then true else a2h l c f (i+1)
theorem f5e (l:List Step) (hl:l.length≤24) (c:Chart) (ha:c.acts.length=l.length) (hd:c.dues.length=l.length):∀ (f i:Nat),i+f=l.length→
    A5 E (orc E) (163:Nat) (f+1) (B3 f163 1) ⟨130,[(0,.sl 124 (l.map (sT 219))),(1,.ipt (cT c)),(9,vI i)],[],2⟩=
    (if a2h l c f i = true then some (.ret, ⟨130, [(4, vI 1)], [], 2⟩)
     else some (.exit 2,⟨130,[(0,.sl 124 (l.map (sT 219))),(1,.ipt (cT c)),(9,vI l.length),(123,vB false)],[],2⟩))
  | 0,i,h=>by
    have e:i=l.length:=by omega
    subst e
    have hlt:ltI (l.length:Int) (l.length:Int)=false:=B7 (by omega)
    rw [C2]
    simp +contextual -dsimp [f163,hlt,a2h]
  | f+1,i,h=>by
    have hi:i < l.length:=by omega
    have hlt:ltI (i:Int) (l.length:Int)=true:=C5 (by omega)
    have hw:IntKind.i64.wrap ((i:Int)+1)=((i+1:Nat):Int):=by rw [A6] <;> omega
    have g:=g2o l hl c ha hd i hi
    cases q:a9a l c i
    · have ih := f5e l hl c ha hd f (i + 1) (by omega)
      have hm:a2h l c (f+1) i=a2h l c f (i+1):=by simp [a2h,q]
      rw [hm]
      refine C0 ?_ ih
      simp (maxSteps:=1000000) +contextual -dsimp [f163,hlt,g,q,hw]
    · have hm : a2h l c (f + 1) i = true := by simp [a2h, q]
      rw [hm,if_pos rfl]
      refine D6 ?_ (by simp)
      simp (maxSteps:=1000000) +contextual -dsimp [f163,hlt,g,q]
def a9b (l:List Step) (c:Chart):Int:=
 if A0 (eqI (Q7 l) 0)=true then Q7 l
 else if orB (A0 (inR c.status 1 3)) (A0 (inR c.now 0 1000000))=true then 3
 else if A0 (eqI (a8z c.vars) 0)=true then a8z c.vars
 else if orB (A0 (eqI c.acts.length l.length)) (A0 (eqI c.dues.length l.length))=true then 2
 else if a1z c l.length 0=true then 3
 else if A0 (eqI c.status 1)=true then (if a5q c l.length 0 false=true then 1 else 0)
 else if A0 (eqI (A3 c.acts 0) 1)=true then 1
 else if a2h l c l.length 0=true then 1 else 0
theorem f9t {l:List Step} (h:Q7 l=0):1≤l.length∧l.length≤24:=by
 unfold Q7 at h
 split at h
 ·simp at h
 ·rename_i c; simp [orB,ltI] at c; omega
theorem g2p (l:List Step) (hl:l.length < 2 ^ 62) (hf:b5c l) (c:Chart):fo 163 [A (.sl 124 (l.map (sT 219))),A (.ipt (cT c))]=some (R (vI (a9b l c))):=by
 have g1:=d3l l hl hf
 have g2:=h1s c.vars
 unfold a9b
 refine g7v (l.length+1) ?_
 cases q1:eqI (Q7 l) 0
 ·simp (maxSteps:=1000000) +contextual -dsimp [f163,g1,q1]
 ·have e0:Q7 l=0:=by simpa [eqI] using q1
  obtain ⟨p1,p2⟩:=f9t e0
  cases q2:inR c.status 1 3
  ·simp (maxSteps:=1000000) +contextual -dsimp [f163,g1,e0,C1,G0,q2]
  ·cases q3:inR c.now 0 1000000
   ·simp (maxSteps:=1000000) +contextual -dsimp [f163,g1,e0,C1,G0,a2f,q2,q3]
   ·cases q4:eqI (a8z c.vars) 0
    ·simp (maxSteps:=1000000) +contextual -dsimp [f163,g1,g2,e0,C1,G0,a2f,q2,q3,q4]
    ·have e1:a8z c.vars=0:=by simpa [eqI] using q4
     cases q5:eqI c.acts.length l.length
     ·simp (maxSteps:=1000000) +contextual -dsimp [f163,g1,g2,e0,e1,C1,G0,a2f,q2,q3,q5]
     ·cases q6:eqI c.dues.length l.length
      ·simp (maxSteps:=1000000) +contextual -dsimp [f163,g1,g2,e0,e1,C1,G0,a2f,q2,q3,q5,q6]
      ·have ha:c.acts.length=l.length:=by simp [eqI] at q5; omega
       have hd:c.dues.length=l.length:=by simp [eqI] at q6; omega
       have hn:0≤c.now∧c.now≤1000000:=by simp [inR,A2,leI] at q3; omega
       have hlp:=f5d l p2 c ha hd hn.1 hn.2 l.length 0 false (by omega)
       have hlq:=f5e l p2 c ha hd l.length 0 (by omega)
       have ha0:0 < c.acts.length:=by omega
       have hs:A3 c.acts 0=c.acts[0]:=a1a ha0
       simp -dsimp [f163] at hlp hlq
       cases q7:a1z c l.length 0
       ·rw [q7] at hlp
        cases q8:eqI c.status 1
        ·cases q9:a5q c l.length 0 false
         ·rw [q9] at hlp
          simp (maxSteps:=1000000) +contextual -dsimp [f163,g1,g2,e0,e1,C1,G0,a2f,q2,q3,q5,q6,q8,hlp]
         ·rw [q9] at hlp
          simp (maxSteps:=1000000) +contextual -dsimp [f163,g1,g2,e0,e1,C1,G0,a2f,q2,q3,q5,q6,q8,hlp]
        ·rw [hs]
         cases q10:eqI c.acts[0] 1
         ·simp (maxSteps:=1000000) +contextual -dsimp [f163,g1,g2,e0,e1,C1,G0,a2f,q2,q3,q5,q6,q8,q10,ha0,hlp]
         ·cases q11:a2h l c l.length 0
          ·rw [q11] at hlq
           simp (maxSteps:=1000000) +contextual -dsimp [f163,g1,g2,e0,e1,C1,G0,a2f,q2,q3,q5,q6,q8,q10,ha0,hlp,hlq]
          ·rw [q11] at hlq
           simp (maxSteps:=1000000) +contextual -dsimp [f163,g1,g2,e0,e1,C1,G0,a2f,q2,q3,q5,q6,q8,q10,ha0,hlp,hlq]
       ·rw [q7] at hlp
        simp (maxSteps:=1000000) +contextual -dsimp [f163,g1,g2,e0,e1,C1,G0,a2f,q2,q3,q5,q6,hlp]
end Go.TM.Ft
