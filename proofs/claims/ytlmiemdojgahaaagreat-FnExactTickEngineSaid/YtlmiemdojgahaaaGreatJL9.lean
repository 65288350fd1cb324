/- What functions of the program come to, by the machine. -/
import Derived.Test.YtlmiemdojgahaaaGreatJL8
set_option linter.unusedSimpArgs false
set_option linter.unusedVariables false
set_option maxHeartbeats 8000000
namespace Go.TM.Ft
open Go Go.TM Go.Proofs Go.Proofs.Tryz
set_option maxRecDepth 20000
attribute [local congr] K9
attribute [local simp] J8 K0 J0 J9 H3 J6 H4 G4 H5 G1 a1r
theorem d1m {p:Int→Bool}:∀ {l:List Int} {i:Nat},(∃ x,x∈l∧p x=true)→∃ j:Nat,D1 p i l=(i+j:Nat)∧j < l.length∧p (A3 l j)=true
 | [],i,h=>by obtain ⟨x,hx,_⟩:=h; simp at hx
 | y::l,i,h=>by
  unfold D1
  cases c:p y
  ·have h2:∃ x,x∈l∧p x=true:=by
    obtain ⟨x,hx,hp⟩:=h
    rcases List.mem_cons.1 hx with rfl | hx
    ·rw [c] at hp; simp at hp
    ·exact ⟨x,hx,hp⟩
   obtain ⟨j,h3,h4,h5⟩:=d1m (i:=i+1) h2
   refine ⟨j+1,by simp; rw [h3]; omega,by simp; omega,?_⟩
   rw [K4 (by simp; omega)]
   rw [K4 h4] at h5
   simpa using h5
  ·exact ⟨0,by simp,by simp,by rw [K4 (by simp)]; simpa using c⟩
theorem b3n {v:Int} {l:List Int} (h:v∈l):∃ j:Nat,a3i v l=j∧j < l.length∧A3 l j=v:=by
 obtain ⟨j,h1,h2,h3⟩:=d1m (p:=fun x=>eqI v x) (i:=0) ⟨v,h,by simp [eqI]⟩
 rw [Nat.zero_add] at h1
 refine ⟨j,h1,h2,?_⟩
 have:v=A3 l j:=by simpa [eqI] using h3
 exact this.symm
theorem a6b (l:List Int) (k:Nat) (x:Int):L6 ((iE l).set k [vI x])=(iE l).set k [vI x]:=by
 have:(iE l).set k [vI x]=iE (l.set k x):=by simp [iE]
 rw [this]; exact a1r _
attribute [local simp] a6b
section
variable {l:List Step}
theorem h4k (w:Wf l) {go} (g:GoOk l go) (k:Nat) (hk:k < l.length) (c c':Chart) (hI:Inv l c)
    (h:a9p go l k (a0l (K3 l k) c)=some c'):fo 193 [aB l c,A (vI k)]=some (RB l c')∧Inv l c':=by
  have hl24:=w.ok.le
  have gi:=f4c w c hI.acts hI.dues k hk
  obtain ⟨c1,hc1⟩:∃ c1:Chart,c1=a0l (K3 l k) c:=⟨_,rfl⟩
  have hI1:Inv l c1:=by rw [hc1]; exact hI.idle _
  rw [← hc1] at gi h
  unfold a9p at h
  cases q0:eqI (k:Int) 0
  · rw [q0, if_neg (by simp)] at h
    have hk0 : 0 < k := by rcases Nat.eq_zero_or_pos k with e | e; · subst e; simp [eqI] at q0
                           · exact e
    obtain ⟨p,hp,hpk⟩:=w.par hk hk0
    have hpl:p < l.length:=by omega
    rw [hp,Int.toNat_natCast] at h
    have hp':(l[k]).parent=(p:Int):=by rw [← a8p hk]; exact hp
    have hkp:(l[p]).kind=A8 l p:=(a8k hpl).symm
    have gk:=b2f l (by omega) p
    have hka:k < c1.acts.length:=by rw [hI1.acts]; exact hk
    have h24:=w.kids24 p
    have hmem:=w.kid_of hk hp
    unfold b5d at h
    generalize hks:A7 p 0 l=ks at *
    have hkm:∀ x,x∈ks→∃ a:Nat,x=a∧a < l.length:=fun x hx=>by
      rw [← hks] at hx
      obtain ⟨a,h1,h2,_⟩:=w.kid hx
      exact ⟨a,h1,h2⟩
    cases q1:eqI (A8 l p) 1
    · cases q4 : eqI (A8 l p) 4
      · simp only [q1, q4, Bool.false_eq_true, if_false] at h
        obtain ⟨g1,g2⟩:=g.ovr hI1 hpl h
        refine ⟨?_,g2⟩
        refine b1v 1 ?_
        simp (maxSteps:=1000000) +contextual -dsimp [f193,gi,q0,hk,hp',hpl,hkp,gk,q1,q4,g1,List.set]
      · simp only [q1, q4, Bool.false_eq_true, if_false, if_true] at h
        obtain ⟨c2,hc2⟩:∃ c2:Chart,c2={ c1 with acts:=c1.acts.set k 2 }:=⟨_,rfl⟩
        have hI2:Inv l c2:=by rw [hc2]; exact hI1.act k 2
        have ea:c2.acts=c1.acts.set k 2:=by rw [hc2]
        rw [← hc2,← ea] at h
        have gn:=g2n (g:=249) (cap:=[.ipt (bT l c2)]) (by simp) (a1s c2.acts) ks (by omega) (fun x hx=>by
          obtain ⟨a,rfl,ha⟩:=hkm x hx
          exact g2m l c2 a (by rw [hI2.acts]; exact ha))
        cases q5:Q4 (a1s c2.acts) ks
        · rw [q5] at h gn
          simp only [Bool.false_eq_true,if_false] at h
          obtain ⟨g1,g2⟩:=g.ovr hI2 hpl h
          refine ⟨?_,g2⟩
          rw [hc2] at gn g1
          simp only [aB,bO,bT,iS,RB,iE,List.map_set] at gn g1
          refine b1v 1 ?_
          simp (maxSteps:=1000000) +contextual -dsimp [f193,gi,q0,hk,hka,hp',hpl,hkp,gk,q1,q4,gn,g1,List.set]
        · rw [q5] at h gn
          simp only [if_true,Option.some.injEq] at h
          subst h
          refine ⟨?_,hI2⟩
          rw [hc2] at gn ⊢
          simp only [aB,bO,bT,iS,RB,iE,List.map_set] at gn ⊢
          refine b1v 1 ?_
          simp (maxSteps:=1000000) +contextual -dsimp [f193,gi,q0,hk,hka,hp',hpl,hkp,gk,q1,q4,gn,List.set]
    · simp only [q1, if_true] at h
      have gx:=h1r ks (by omega) k
      obtain ⟨j,e1,e2,e3⟩:=b3n hmem
      rw [e1] at h gx
      obtain ⟨j1,hj1⟩:∃ j1,j1=j+1:=⟨_,rfl⟩
      have hw:IntKind.i64.wrap ((j:Int)+1)=(j1:Int):=by rw [A6] <;> omega
      have hj2:(j:Int)+1=(j1:Int):=by omega
      rw [hj2] at h
      cases q2:ltI (j1:Int) ks.length
      · rw [q2, if_neg (by simp)] at h
        obtain ⟨g1,g2⟩:=g.ovr hI1 hpl h
        refine ⟨?_,g2⟩
        refine b1v 1 ?_
        simp (maxSteps:=1000000) +contextual -dsimp [f193,gi,q0,hk,hp',hpl,hkp,gk,q1,gx,hw,q2,g1,List.set]
      · rw [q2, if_pos rfl] at h
        have hj:j1 < ks.length:=by simp [ltI] at q2; omega
        obtain ⟨y,hy,hyl⟩:=hkm _ (a7b hj)
        have hy2:ks[j1]=(y:Int):=by rw [← K4 hj]; exact hy
        rw [hy,Int.toNat_natCast] at h
        obtain ⟨g1,g2⟩:=g.ent hI1 hyl h
        refine ⟨?_,g2⟩
        refine b1v 1 ?_
        simp (maxSteps:=1000000) +contextual -dsimp [f193,gi,q0,hk,hp',hpl,hkp,gk,q1,gx,hw,q2,hj,hy2,g1,List.set]
  · rw [q0, if_pos rfl] at h
    simp only [Option.some.injEq] at h
    subst h
    have gs:=c5o l (by omega) c1 2
    refine ⟨?_,hI1.stop 2⟩
    refine b1v 1 ?_
    simp (maxSteps:=1000000) +contextual -dsimp [f193,gi,q0,gs,List.set]
theorem b4r (w:Wf l):∀ f,GoOk l (goC l f)
 | 0,_,_,_,_,_,_,h=>by simp [goC] at h
 | f+1,true,k,c,c',hI,hk,h=>by
  unfold goC at h
  exact h1t w (b4r w f) k hk c c' hI h
 | f+1,false,k,c,c',hI,hk,h=>by
  unfold goC at h
  exact h4k w (b4r w f) k hk c c' hI h
end
attribute [local simp] a6b f0f
theorem d7v (b:Bool):fo 297 [A (vB b)]=some (R (vI (ci b 1))):=by
 refine h0u 1 ?_
 cases b <;> simp (maxSteps:=1000000) +contextual -dsimp [f297,ci]
def a4v (k a b:Int):Int × Bool:=if M9 k b=true then (0,false) else (M8 k a b,A0 (badV (M8 k a b)))
theorem h1u (k a b:Int) (ha1:-1000000≤a) (ha2:a≤1000000) (hb1:-1000000≤b) (hb2:b≤1000000):
  fo 271 [A (vI k),A (vI a),A (vI b)]=some (R2 (vI (a4v k a b).1) (vB (a4v k a b).2)):=by
 have hm:=f4a ha1 ha2 hb1 hb2
 have hd:=f0g (b:=b) ha1 ha2
 have w1:IntKind.i64.wrap (a+b)=a+b:=by rw [A6] <;> omega
 have w2:IntKind.i64.wrap (a - b)=a - b:=by rw [A6] <;> omega
 have w3:IntKind.i64.wrap (a*b)=a*b:=by rw [A6] <;> omega
 have w4:IntKind.i64.wrap (Int.tdiv a b)=Int.tdiv a b:=by rw [A6] <;> omega
 have w5:IntKind.i64.wrap (1 - a)=1 - a:=by rw [A6] <;> omega
 have hn:∀ v,A0 (badV v)=inR v (-1000000) 1000000:=fun v=>by simp [badV,A0]
 refine h0e 1 ?_
 by_cases h3:k=3
 ·subst h3
  simp (maxSteps:=1000000) +contextual -dsimp [f271,w1,a4v,M9,M8,hn,G0,C1,show eqI 3 6=false from rfl,A2]
 by_cases h4:k=4
 ·subst h4
  simp (maxSteps:=1000000) +contextual -dsimp [f271,w2,a4v,M9,M8,hn,G0,C1,show eqI 4 6=false from rfl,show eqI 4 3=false from rfl,A2]
 by_cases h5:k=5
 ·subst h5
  simp (maxSteps:=1000000) +contextual -dsimp [f271,w3,a4v,M9,M8,hn,G0,C1,show eqI 5 6=false from rfl,show eqI 5 3=false from rfl,show eqI 5 4=false from rfl,A2]
 by_cases h6:k=6
 ·subst h6
  by_cases hb:b=0
  ·subst hb
   simp (maxSteps:=1000000) +contextual -dsimp [f271,a4v,M9,C1,show eqI 6 3=false from rfl,show eqI 6 4=false from rfl,show eqI 6 5=false from rfl,A2]
  ·have q:=c4w Tryz.prog 2 (.tmp 31) (.tmp 32) a b hb
   have hb':eqI b 0=false:=by simp [eqI,hb]
   simp (maxSteps:=1000000) +contextual -dsimp [f271,w4,q,hb',a4v,M9,M8,hn,G0,C1,show eqI 6 3=false from rfl,show eqI 6 4=false from rfl,show eqI 6 5=false from rfl,A2]
 by_cases h7:k=7
 ·subst h7
  simp (maxSteps:=1000000) +contextual -dsimp [f271,d7v,a4v,M9,M8,hn,G0,C1,show eqI 7 6=false from rfl,show eqI 7 3=false from rfl,show eqI 7 4=false from rfl,show eqI 7 5=false from rfl,A2]
 by_cases h8:k=8
 ·subst h8
  simp (maxSteps:=1000000) +contextual -dsimp [f271,d7v,a4v,M9,M8,hn,G0,C1,show eqI 8 6=false from rfl,show eqI 8 3=false from rfl,show eqI 8 4=false from rfl,show eqI 8 5=false from rfl,show eqI 8 7=false from rfl,A2]
 have f3:eqI k 3=false:=by simp [eqI,h3]
 have f4:eqI k 4=false:=by simp [eqI,h4]
 have f5:eqI k 5=false:=by simp [eqI,h5]
 have f6:eqI k 6=false:=by simp [eqI,h6]
 have f7:eqI k 7=false:=by simp [eqI,h7]
 have f8:eqI k 8=false:=by simp [eqI,h8]
 cases q9:eqI k 9
 ·simp (maxSteps:=1000000) +contextual -dsimp [f271,w5,a4v,M9,M8,hn,G0,f3,f4,f5,f6,f7,f8,q9,A2]
 ·simp (maxSteps:=1000000) +contextual -dsimp [f271,w3,a4v,M9,M8,hn,G0,f3,f4,f5,f6,f7,f8,q9,A2]
abbrev b8u (l:List Node) (vars:List Int) (i:Nat) (acc:List Int):St:=
 ⟨65,[(0,nS 219 l),(1,iS vars),(6,.ref 6 1 [] 0 acc.length),(7,vI i)],[(6,⟨1,1,false,[.own 2 (iE acc)]⟩)],2⟩
theorem h5s (l:List Node) (ok:ExprOk l) (vars:List Int) (hv:vars.length=4) (hr:∀ x,x∈vars→badV x=false):
  b1b 0 (fun acc=>⟨65,[(0,nS 219 l),(1,iS vars),(6,.ref 6 1 [] 0 acc.length),(7,vI l.length),(16,vB false)],[(6,⟨1,1,false,[.own 2 (iE acc)]⟩)],2⟩)
   (fun _ st=>∃ rt,st=⟨65,[(4,vI 0),(5,vB false)],rt,2⟩) (A5 E (orc E) (227:Nat) (l.length+1) (B3 f227 0) (b8u l vars 0 [])) (U4 (evG vars) 0 [] l):=by
 have hle:=ok.le
 have h:=b3p (f:=227) (id:=0) (code:=B3 f227 0) l (Vals l) (b8u l vars) (evG vars) (fun acc=>⟨65,[(0,nS 219 l),(1,iS vars),(6,.ref 6 1 [] 0 acc.length),(7,vI l.length),(16,vB false)],[(6,⟨1,1,false,[.own 2 (iE acc)]⟩)],2⟩)
  (fun _ st=>∃ rt,st=⟨65,[(4,vI 0),(5,vB false)],rt,2⟩)
 refine h ?_ ?_ l 0 [] rfl (Nat.zero_le _) ⟨rfl,fun k h=>by simp at h,fun k h=>by simp at h⟩
 ·intro k s _
  have hlt:=a2m l.length
  simp +contextual -dsimp [f227,hlt]
 ·intro k i acc hi hI
  have hn:l[i]?=some l[i]:=List.getElem?_eq_getElem hi
  have hal:=hI.len
  have hlt:=O4 hi
  have hw:=N6 hi (by omega)
  have hm1:acc.length+1≤B9:=by unfold B9; omega
  unfold evG b7k
  generalize hc:l[i]=n at *
  have nk:=b5w (ok.node i n hn)
  have nx:badV (P3 vars acc n)=false→Vals l (i+1) (acc++[P3 vars acc n]):=fun hb=>by
   have:=hI.next ok hi (vars:=vars)
   rw [hc] at this
   exact this hb
  generalize hnv:P3 vars acc n=v at *
  by_cases k1:n.kind=1
  ·have ev:v=n.value:=by rw [← hnv]; simp [P3,k1,eqI]
   have ez:M9 n.kind (A3 acc n.right)=false:=by simp [M9,k1,eqI,A2]
   rw [← ev] at nk
   cases hb:badV v
   ·refine ⟨fun s' hs=>?_,fun e he=>by simp [ez,hb,orB] at he⟩
    simp [ez,hb,orB] at hs
    subst hs
    refine ⟨?_,nx hb⟩
    simp (maxSteps:=1000000) +contextual -dsimp [f227,hlt,hi,hc,hw,hm1,k1,← ev,show eqI 1 2=false from rfl,show ltI 2 1=false from rfl,List.set]
   ·exfalso
    simp [badV,A0,inR,A2,leI] at hb
    omega
  by_cases k2:n.kind=2
  ·obtain ⟨m,hm⟩:=Int.eq_ofNat_of_zero_le (show 0≤n.value by omega)
   have hml:m < vars.length:=by omega
   have ev:v=vars[m]:=by rw [← hnv]; unfold P3; rw [if_neg (by simp [k2,eqI]),if_pos (by simp [k2,eqI]),hm,K4 hml]
   have ez:M9 n.kind (A3 acc n.right)=false:=by simp [M9,k2,eqI,A2]
   have hb:badV v=false:=by rw [ev]; exact hr _ (List.getElem_mem _)
   refine ⟨fun s' hs=>?_,fun e he=>by simp [ez,hb,orB] at he⟩
   simp [ez,hb,orB] at hs
   subst hs
   refine ⟨?_,nx hb⟩
   simp (maxSteps:=1000000) +contextual -dsimp [f227,hlt,hi,hc,hw,hm1,k2,hm,hml,← ev,C1,show ltI 2 2=false from rfl,List.set]
  have k3:2 < n.kind:=by omega
  obtain ⟨a,ha⟩:=Int.eq_ofNat_of_zero_le (show 0≤n.left by omega)
  obtain ⟨b,hb⟩:=Int.eq_ofNat_of_zero_le (show 0≤n.right by omega)
  have hal2:a < acc.length:=by omega
  have hbl2:b < acc.length:=by omega
  have ra:=hI.rng a hal2
  have rb:=hI.rng b hbl2
  have e2:eqI n.kind 2=false:=by simp [eqI]; omega
  have e3:ltI 2 n.kind=true:=by simp [ltI]; omega
  have ev:v=M8 n.kind acc[a] acc[b]:=by rw [← hnv]; unfold P3; rw [if_neg (by simp [eqI]; omega),if_neg (by simp [eqI]; omega),ha,hb,K4 hal2,K4 hbl2]
  have ez:M9 n.kind (A3 acc n.right)=M9 n.kind acc[b]:=by rw [hb,K4 hbl2]
  have g:=h1u n.kind acc[a] acc[b] ra.1 ra.2 rb.1 rb.2
  unfold a4v at g
  rw [← ev,← ez] at g
  cases hz:M9 n.kind (A3 acc n.right)
  ·rw [hz,if_neg (by simp)] at g
   cases hbv:badV v
   ·refine ⟨fun s' hs=>?_,fun e he=>by simp [hbv,orB] at he⟩
    simp [hbv,orB] at hs
    subst hs
    refine ⟨?_,nx hbv⟩
    rw [hbv,b8k] at g
    simp (maxSteps:=1000000) +contextual -dsimp [f227,hlt,hi,hc,hw,hm1,ha,hb,hal2,hbl2,e2,e3,g,List.set]
   ·refine ⟨fun s' hs=>by simp [hbv,orB] at hs,fun e he=>⟨_,?_,[(6,⟨1,1,false,[.own 2 (iE acc)]⟩)],rfl⟩⟩
    rw [hbv,b8j] at g
    simp (maxSteps:=1000000) +contextual -dsimp [f227,hlt,hi,hc,hw,hm1,ha,hb,hal2,hbl2,e2,e3,g,List.set]
  ·rw [hz,if_pos rfl] at g
   refine ⟨fun s' hs=>by simp [orB] at hs,fun e he=>⟨_,?_,[(6,⟨1,1,false,[.own 2 (iE acc)]⟩)],rfl⟩⟩
   simp (maxSteps:=1000000) +contextual -dsimp [f227,hlt,hi,hc,hw,hm1,ha,hb,hal2,hbl2,e2,e3,g,List.set]
theorem d7w (l:List Node) (ok:ExprOk l) (vars:List Int) (hv:vars.length=4) (hr:∀ x,x∈vars→badV x=false):fo 227 [A (nS 219 l),A (iS vars)]=some (RE (a3e l vars)):=by
 have hlp:=h5s l ok vars hv hr
 have hpos:=ok.pos
 have hle:=ok.le
 refine g8y (l.length+1) ?_
 unfold a3e
 cases q:U4 (evG vars) 0 [] l with
 | inl e=>
  rw [q] at hlp
  obtain ⟨_,hlp,rt,rfl⟩:=hlp
  simp -dsimp [f227,b8u,iE] at hlp
  simp (maxSteps:=1000000) +contextual -dsimp [f227,hlp,RE,List.set]
 | inr acc=>
  rw [q] at hlp
  unfold b1b at hlp
  simp -dsimp [f227,b8u,iE] at hlp
  have hlen:=b8d q
  simp at hlen
  have hlt:l.length - 1 < acc.length:=by omega
  have hw:IntKind.i64.wrap ((acc.length:Int) - 1)=((l.length - 1:Nat):Int):=by rw [A6] <;> omega
  have e1:A3 acc ((l.length:Int) - 1)=acc[l.length - 1]:=by
   have:((l.length:Int) - 1)=((l.length - 1:Nat):Int):=by omega
   rw [this,K4 hlt]
  simp (maxSteps:=1000000) +contextual -dsimp [f227,hlp,hw,hlt,e1,RE,List.set]
end Go.TM.Ft
namespace Go.TM.Ft
open Go Go.TM Go.Proofs Go.Proofs.Tryz
set_option maxRecDepth 20000
attribute [local congr] K9
attribute [local simp] J8 K0 J0 J9 H3 J6 H4 G4 H5 G1 a1r a6b
abbrev cO (c:Chart):List T:=[vI c.status,vI c.now,.own 2 (iE c.vars),.own 2 (iE c.acts),.own 2 (iE c.dues)]
abbrev aC (c:Chart):Arg:=⟨.ptr 1 0 [] 0,some ⟨0,0,true,cO c⟩⟩
abbrev aC0 (c:Chart):Arg:=⟨.ptr 0 0 [] 0,some ⟨0,0,true,cO c⟩⟩
abbrev RC (c:Chart):Res:=⟨.tup [],[(1,cO c)],true⟩
abbrev RC0 (c:Chart):Res:=⟨.tup [],[(0,cO c)],true⟩
theorem c0q {α:Type}:∀ (r:List α) (i:Nat) (xs:List Int),i+r.length=xs.length→N5 (fun (i:Nat) (xs:List Int) (_:α)=>xs.set i 0) i xs r=xs.take i++List.replicate r.length 0
 | [],i,xs,h=>by
  simp only [N5,List.length_nil,List.replicate_zero,List.append_nil]
  rw [List.take_of_length_le (by simp at h; omega)]
 | x::r,i,xs,h=>by
  simp only [N5]
  rw [c0q r (i+1) (xs.set i 0) (by simp at h ⊢; omega)]
  simp only [List.length_cons] at h
  rw [List.take_succ_eq_append_getElem (by simp; omega),List.take_set_of_le (Nat.le_refl _)]
  simp [List.replicate_succ]
theorem d7x {α:Type}:∀ (r:List α) (i:Nat) (c:Chart),N5 (fun (i:Nat) (c:Chart) (_:α)=>{ c with acts:=c.acts.set i 0,dues:=c.dues.set i 0 }) i c r=
  { c with acts:=N5 (fun (i:Nat) (xs:List Int) (_:α)=>xs.set i 0) i c.acts r,dues:=N5 (fun (i:Nat) (xs:List Int) (_:α)=>xs.set i 0) i c.dues r }
 | [],i,c=>rfl
 | x::r,i,c=>by simp only [N5]; rw [d7x r]
theorem h5t (c:Chart) (hd:c.dues.length=c.acts.length) (hn:c.acts.length < 2 ^ 62):
  A5 E (orc E) (226:Nat) (c.acts.length+1) (B3 f226 0) ⟨30,[(0,.ptr 0 0 [] 0),(4,vI (0:Nat))],[(0,⟨0,0,true,cO c⟩)],2⟩=
  some (.exit 0,⟨30,[(0,.ptr 0 0 [] 0),(4,vI c.acts.length),(15,vB false)],[(0,⟨0,0,true,cO { c with acts:=List.replicate c.acts.length 0,dues:=List.replicate c.acts.length 0 }⟩)],2⟩):=by
 have h:=a4e (f:=226) (id:=0) (code:=B3 f226 0) c.acts (fun _ c'=>c'.acts.length=c.acts.length∧c'.dues.length=c.acts.length)
  (fun i c'=>⟨30,[(0,.ptr 0 0 [] 0),(4,vI i)],[(0,⟨0,0,true,cO c'⟩)],2⟩) (fun (i:Nat) (c:Chart) (_:Int)=>{ c with acts:=c.acts.set i 0,dues:=c.dues.set i 0 })
  (fun c'=>⟨30,[(0,.ptr 0 0 [] 0),(4,vI c.acts.length),(15,vB false)],[(0,⟨0,0,true,cO c'⟩)],2⟩)
 have h2:=h ?_ ?_ c ⟨rfl,hd⟩
 ·rw [d7x,c0q _ _ _ (by simp),c0q _ _ _ (by simp [hd])] at h2
  simpa using h2
 ·intro k c' hI
  have hlt:=a2m c.acts.length
  have e:=hI.1
  simp +contextual -dsimp [f226,hlt,e]
 ·intro k i c' hi hI
  have hlt:=O4 hi
  have hw:=N6 hi hn
  have e:=hI.1
  have e1:i < c'.acts.length:=by omega
  have e2:i < c'.dues.length:=by omega
  refine ⟨?_,by simp; exact hI⟩
  simp (maxSteps:=1000000) +contextual -dsimp [f226,hlt,hi,hw,e,e1,e2,List.set]
theorem c5a {l:List Step} (c:Chart) (ha:c.acts.length=l.length) (hd:c.dues.length=l.length) (hl:l.length≤1000) (st:Int):fo 226 [aC0 c,A (vI st)]=some (RC0 (a0k l st c)):=by
 have hlp:=h5t { c with status:=st } (by simp [ha,hd]) (by simp [ha]; omega)
 simp only [ha] at hlp
 refine g8x (l.length+1) ?_
 simp -dsimp [f226] at hlp
 simp (maxSteps:=1000000) +contextual -dsimp [f226,hlp,a0k,List.set]
def L2 (l:List Step) (a:Nat):Nat→Nat→List Int
 | 0,_=>[]
 | f+1,i=>if A2 (ltI (i:Int) l.length) (ltI (dep l a) (dep l i))=true then (i:Int)::L2 l a f (i+1) else []
theorem f5g {l:List Step} (w:Wf l) (a:Nat) (ha:a < l.length):∀ (f i:Nat) (acc:List Int),i+f=l.length→acc.length≤i→
  ∃ n:Nat,A5 E (orc E) (250:Nat) (f+1) (B3 f250 0) ⟨31,[(0,.sl 124 (l.map (sT 219))),(1,vI a),(5,.ref 5 1 [] 0 acc.length),(6,vI i)],[(5,⟨1,1,false,[.own 2 (iE acc)]⟩)],2⟩=
  some (.exit 0,⟨31,[(0,.sl 124 (l.map (sT 219))),(1,vI a),(5,.ref 5 1 [] 0 (acc++L2 l a f i).length),(6,vI n),(23,vB false)],[(5,⟨1,1,false,[.own 2 (iE (acc++L2 l a f i))]⟩)],2⟩)
 | 0,i,acc,h,hb=>by
  have hlt:ltI (i:Int) (l.length:Int)=false:=B7 (by omega)
  refine ⟨i,D6 ?_ (by simp)⟩
  simp (maxSteps:=1000000) +contextual -dsimp [f250,hlt,L2]
 | f+1,i,acc,h,hb=>by
  have hi:i < l.length:=by omega
  have hl24:=w.ok.le
  have hlt:=O4 hi
  have hw:=N6 hi (by omega)
  have hm1:acc.length+1≤B9:=by unfold B9; omega
  have g1:=c4u l hl24 i hi w.ahead
  have g2:=c4u l hl24 a ha w.ahead
  rw [show a7w l i=dep l i from rfl] at g1
  rw [show a7w l a=dep l a from rfl] at g2
  cases q:ltI (dep l a) (dep l i)
  ·refine ⟨i,?_⟩
   have e:L2 l a (f+1) i=[]:=by simp [L2,q,A2]
   rw [e]
   refine D6 ?_ (by simp)
   simp (maxSteps:=1000000) +contextual -dsimp [f250,hlt,g1,g2,q]
  ·have e:L2 l a (f+1) i=(i:Int)::L2 l a f (i+1):=by simp [L2,q,hlt,A2]
   obtain ⟨n,ih⟩:=f5g w a ha f (i+1) (acc++[(i:Int)]) (by omega) (by simp; omega)
   refine ⟨n,?_⟩
   rw [e,show acc++(i:Int)::L2 l a f (i+1)=(acc++[(i:Int)])++L2 l a f (i+1) by simp]
   refine C0 ?_ ih
   simp (maxSteps:=1000000) +contextual -dsimp [f250,hlt,hw,hm1,g1,g2,q,List.set]
theorem d7y {l:List Step} (w:Wf l) (a:Nat):∀ (f i:Nat),i+f=l.length→a < i→Und l a (i - 1)→L2 l a f i=((List.range' i f).filter (a5w l a)).map (fun x:Nat=>(x:Int))
 | 0,i,h,_,_=>by simp [L2]
 | f+1,i,h,hai,hu=>by
  have hi:i < l.length:=by omega
  have hlt:=O4 hi
  rw [List.range'_succ]
  cases q:ltI (dep l a) (dep l i)
  ·have e:L2 l a (f+1) i=[]:=by simp [L2,q,A2]
   rw [e]
   have hd:¬ dep l a < dep l i:=by simp [ltI] at q; omega
   have hn:¬ Und l a i:=fun h=>hd ((w.piece hi h hai).2)
   have:(i::List.range' (i+1) f).filter (a5w l a)=[]:=by
    rw [List.filter_eq_nil_iff]
    intro j hj hu2
    have hj2:i≤j∧j < l.length:=by
     rcases List.mem_cons.1 hj with rfl | hj
     ·exact ⟨Nat.le_refl _,hi⟩
     ·rw [List.mem_range'_1] at hj; omega
    have:=(c3m w hj2.2).1 hu2
    exact hn (w.between hj2.2 this (j - i) i (by omega) (by omega))
   rw [this]; rfl
  ·have e:L2 l a (f+1) i=(i:Int)::L2 l a f (i+1):=by simp [L2,q,hlt,A2]
   have hd:dep l a < dep l i:=by simpa [ltI] using q
   have hu2:=w.piece2 hi hai hu hd
   rw [e,d7y w a f (i+1) (by omega) (by omega) (by simpa using hu2),List.filter_cons_of_pos ((c3m w hi).2 hu2)]
   rfl
theorem d1n {l:List Step} (w:Wf l) (a:Nat) (ha:a < l.length):(a:Int)::L2 l a (l.length - (a+1)) (a+1)=K3 l a:=by
 rw [c3n,d7y w a _ _ (by omega) (by omega) (by simpa using Und.self)]
 have e:l.length - a=(l.length - (a+1))+1:=by omega
 rw [e,List.range'_succ,List.filter_cons_of_pos ((c3m w ha).2 .self)]
 rfl
theorem g2t {l:List Step} (w:Wf l) (a:Nat) (ha:a < l.length):fo 250 [A (.sl 124 (l.map (sT 219))),A (vI a)]=some ⟨.own 2 (iE (K3 l a)),[],true⟩:=by
 obtain ⟨n,hlp⟩:=f5g w a ha (l.length - (a+1)) (a+1) [(a:Int)] (by omega) (by simp)
 have hw:=N6 ha (by have:=w.ok.le; omega)
 rw [List.singleton_append,d1n w a ha] at hlp
 have hc:H7 (iE (K3 l a))=true:=by generalize K3 l a=k; induction k <;> simp_all [H7,P1,clean]
 refine g9u (l.length - (a+1)+1) ?_
 simp -dsimp [f250,iE] at hlp
 simp (maxSteps:=1000000) +contextual -dsimp [f250,hw,hlp,hc,List.set]
theorem h5u (c:Chart) (ks:List Int) (hk:ks.length < 2 ^ 62) (hin:∀ k,k∈ks→∃ x:Nat,k=x∧x < c.acts.length∧x < c.dues.length):
  A5 E (orc E) (197:Nat) (ks.length+1) (B3 f197 0) ⟨35,[(1,.ptr 1 0 [] 0),(6,iS ks),(7,vI (0:Nat))],[(1,⟨0,0,true,cO c⟩)],2⟩=
  some (.exit 0,⟨35,[(1,.ptr 1 0 [] 0),(6,iS ks),(7,vI ks.length),(14,vB false)],[(1,⟨0,0,true,cO (a0l ks c)⟩)],2⟩):=by
 have h:=a4e (f:=197) (id:=0) (code:=B3 f197 0) ks (fun _ c'=>c'.acts.length=c.acts.length∧c'.dues.length=c.dues.length)
  (fun i c'=>⟨35,[(1,.ptr 1 0 [] 0),(6,iS ks),(7,vI i)],[(1,⟨0,0,true,cO c'⟩)],2⟩) (fun (_:Nat) (c:Chart) (k:Int)=>{ c with acts:=c.acts.set k.toNat 0,dues:=c.dues.set k.toNat 0 })
  (fun c'=>⟨35,[(1,.ptr 1 0 [] 0),(6,iS ks),(7,vI ks.length),(14,vB false)],[(1,⟨0,0,true,cO c'⟩)],2⟩)
 have h2:=h ?_ ?_ c ⟨rfl,rfl⟩
 ·rw [c1x] at h2; exact h2
 ·intro k c' _
  have hlt:=a2m ks.length
  simp +contextual -dsimp [f197,hlt]
 ·intro k i c' hi hI
  obtain ⟨x,hx,h1,h2⟩:=hin ks[i] (List.getElem_mem hi)
  have hlt:=O4 hi
  have hw:=N6 hi hk
  have e1:x < c'.acts.length:=by omega
  have e2:x < c'.dues.length:=by omega
  refine ⟨?_,by simp; exact hI⟩
  simp (maxSteps:=1000000) +contextual -dsimp [f197,hlt,hi,hw,hx,e1,e2,List.set]
theorem d7z {l:List Step} (w:Wf l) (c:Chart) (ha:c.acts.length=l.length) (hd:c.dues.length=l.length) (k:Nat) (hk:k < l.length):
  fo 197 [A (.sl 124 (l.map (sT 219))),aC c,A (vI k)]=some (RC (a0l (K3 l k) c)):=by
 have g:=g2t w k hk
 have hle:=d7o l k
 have hl:=w.ok.le
 have hlp:=h5u c (K3 l k) (by omega) (fun k hk=>by
  obtain ⟨x,h1,h2,h3,h4⟩:=d3q hk
  exact ⟨x,h1,by omega,by omega⟩)
 refine g8p ((K3 l k).length+1) ?_
 simp -dsimp [f197] at hlp
 simp (maxSteps:=1000000) +contextual -dsimp [f197,g,hlp]
def b4f (x:Int):Int:=if eqI x (-2)=true then -1 else x
theorem f5h {l:List Step} (w:Wf l) (c:Chart) (hv:c.vars.length=4) (hr0:∀ x,x∈c.vars→badV x=false) (all:List Int) (hall:all.length≤24) (hks:∀ k,k∈all→∃ x:Nat,k=x∧x < l.length):∀ (rest:List Int) (i:Nat),all.drop i=rest→
    A5 E (orc E) (225:Nat) (rest.length+1) (B3 f225 0) ⟨53,[(0,.sl 124 (l.map (sT 219))),(1,.ipt (cT c)),(7,iS all),(8,vI i)],[],2⟩=
    (if eqI (D3 l c.vars rest) (-2) = true then some (.exit 0, ⟨53, [(0, .sl 124 (l.map (sT 219))), (1, .ipt (cT c)), (7, iS all), (8, vI (i + rest.length : Nat)), (18, vB false)], [], 2⟩)
     else some (.ret,⟨53,[(6,vI (D3 l c.vars rest))],[],2⟩))
  | [],i,h=>by
    have hge:all.length≤i:=by simpa using h
    have hlt:ltI (i:Int) (all.length:Int)=false:=B7 (by omega)
    rw [C2]
    simp +contextual -dsimp [f225,hlt,D3,C1]
  | k::rest,i,h=>by
    obtain ⟨hi,hc,hr⟩:=C8 h
    obtain ⟨x,hx,hxl⟩:=hks k (by rw [← hc]; exact List.getElem_mem _)
    have hlt:=O4 hi
    have hw:=N6 hi (by omega)
    have he:i+1+rest.length=i+(rest.length+1):=by omega
    have ec:(l[x]).cond=condOf l x:=by simp [condOf,hxl]
    have hm:D3 l c.vars (k::rest)=(if ltI 0 (condOf l x).length=true then a5p (a3e (condOf l x) c.vars) k (D3 l c.vars rest) else k):=by
      conv=>lhs; unfold D3
      rw [hx,Int.toNat_natCast]
    have hx2:eqI (x:Int) (-2)=false:=by simp only [eqI,beq_eq_false_iff_ne]; omega
    cases q:ltI 0 (condOf l x).length
    · have q0 : eqI (condOf l x).length 0 = true := by
        simp only [ltI,decide_eq_false_iff_not] at q
        simp only [eqI,beq_iff_eq]; omega
      rw [q,if_neg (by simp)] at hm
      rw [hm,hx,hx2,if_neg (by simp)]
      refine D6 ?_ (by simp)
      rw [hx] at hc
      simp (maxSteps:=1000000) +contextual -dsimp [f225,hlt,hi,hc,hxl,ec,q0]
    · have q0 : eqI (condOf l x).length 0 = false := by
        simp only [ltI,decide_eq_true_eq] at q
        simp only [eqI,beq_eq_false_iff_ne]; omega
      have g:=d7w (condOf l x) (w.condOf hxl q) c.vars hv hr0
      rw [q,if_pos rfl] at hm
      cases ev:a3e (condOf l x) c.vars with
      | none=>
        rw [ev] at hm g
        simp only [RE] at g
        have hm:D3 l c.vars (k::rest)=-1:=hm
        have t1:eqI (-1) (-2)=false:=rfl
        rw [hm,t1,if_neg (by simp)]
        refine D6 ?_ (by simp)
        rw [hx] at hc
        simp (maxSteps:=1000000) +contextual -dsimp [f225,hlt,hi,hc,hxl,ec,q0,g]
      | some v=>
        rw [ev] at hm g
        simp only [RE] at g
        cases q1:eqI v 1
        · have hm : D3 l c.vars (k :: rest) = D3 l c.vars rest := by simpa [q1, a5p] using hm
          rw [hm]
          have ih:=f5h w c hv hr0 all hall hks rest (i+1) hr
          rw [he] at ih
          refine C0 ?_ (by simpa only [List.length_cons] using ih)
          rw [hx] at hc
          simp (maxSteps:=1000000) +contextual -dsimp [f225,hlt,hi,hc,hw,hxl,ec,q0,g,q1]
        · have hm : D3 l c.vars (k :: rest) = x := by simpa [q1, a5p, hx] using hm
          rw [hm,hx2,if_neg (by simp)]
          refine D6 ?_ (by simp)
          rw [hx] at hc
          simp (maxSteps:=1000000) +contextual -dsimp [f225,hlt,hi,hc,hxl,ec,q0,g,q1]
theorem f9x {l:List Step} (w:Wf l) (c:Chart) (hv:c.vars.length=4) (hr0:∀ x,x∈c.vars→badV x=false) (k:Nat):
  fo 225 [A (.sl 124 (l.map (sT 219))),A (.ipt (cT c)),A (vI k)]=some (R (vI (b4f (D3 l c.vars (A7 k 0 l))))):=by
 have h24:=w.kids24 k
 have gk:=a8n l (by have:=w.ok.le; omega) k
 rw [← a4d w.ok] at gk
 generalize hks:A7 k 0 l=ks at *
 have hlp:=f5h w c hv hr0 ks h24 (fun x hx=>by
  rw [← hks] at hx
  obtain ⟨a,h1,h2,_⟩:=w.kid hx
  exact ⟨a,h1,h2⟩) ks 0 rfl
 refine g8w (ks.length+1) ?_
 simp -dsimp [f225] at hlp
 unfold b4f
 cases q:eqI (D3 l c.vars ks) (-2)
 ·rw [q] at hlp
  simp (maxSteps:=1000000) +contextual -dsimp [f225,gk,hlp]
 ·rw [q] at hlp
  simp (maxSteps:=1000000) +contextual -dsimp [f225,gk,hlp]
theorem f5i (c:Chart) (all:List Int) (hall:all.length≤24) (hks:∀ k,k∈all→∃ x:Nat,k=x∧x < c.acts.length):∀ (rest:List Int) (i:Nat),all.drop i=rest→
  A5 E (orc E) (230:Nat) (rest.length+1) (B3 f230 0) ⟨29,[(1,.ipt (cT c)),(7,iS all),(8,vI i)],[],2⟩=
  (if Q4 (a1s c.acts) rest=true then some (.ret,⟨29,[(6,vB false)],[],2⟩) else some (.exit 0,⟨29,[(1,.ipt (cT c)),(7,iS all),(8,vI (i+rest.length:Nat)),(15,vB false)],[],2⟩))
 | [],i,h=>by
  have hge:all.length≤i:=by simpa using h
  have hlt:ltI (i:Int) (all.length:Int)=false:=B7 (by omega)
  have h0:Q4 (a1s c.acts) []=false:=rfl
  rw [C2]
  simp +contextual -dsimp [f230,hlt,h0]
 | k::rest,i,h=>by
  obtain ⟨hi,hc,hr⟩:=C8 h
  obtain ⟨x,hx,hxl⟩:=hks k (by rw [← hc]; exact List.getElem_mem _)
  have hlt:=O4 hi
  have hw:=N6 hi (by omega)
  have he:i+1+rest.length=i+(rest.length+1):=by omega
  have hs:=K4 hxl
  have e:a1s c.acts k=A0 (eqI c.acts[x] 2):=by unfold a1s; rw [hx,hs]
  rw [hx] at hc
  cases q:eqI c.acts[x] 2
  ·have hm:Q4 (a1s c.acts) (k::rest)=true:=by rw [b0d]; simp [e,q,A0]
   rw [hm,if_pos rfl]
   refine D6 ?_ (by simp)
   simp (maxSteps:=1000000) +contextual -dsimp [f230,hlt,hi,hc,hxl,q]
  ·have hm:Q4 (a1s c.acts) (k::rest)=Q4 (a1s c.acts) rest:=by rw [b0d,b0d]; simp [e,q,A0]
   rw [hm]
   have ih:=f5i c all hall hks rest (i+1) hr
   rw [he] at ih
   refine C0 ?_ (by simpa only [List.length_cons] using ih)
   simp (maxSteps:=1000000) +contextual -dsimp [f230,hlt,hi,hc,hxl,hw,q]
theorem h1v {l:List Step} (w:Wf l) (c:Chart) (ha:c.acts.length=l.length) (k:Nat):
  fo 230 [A (.sl 124 (l.map (sT 219))),A (.ipt (cT c)),A (vI k)]=some (R (vB (A0 (Q4 (a1s c.acts) (A7 k 0 l))))):=by
 have h24:=w.kids24 k
 have gk:=a8n l (by have:=w.ok.le; omega) k
 rw [← a4d w.ok] at gk
 generalize hks:A7 k 0 l=ks at *
 have hlp:=f5i c ks h24 (fun x hx=>by
  rw [← hks] at hx
  obtain ⟨a,h1,h2,_⟩:=w.kid hx
  exact ⟨a,h1,by omega⟩) ks 0 rfl
 refine g9b (ks.length+1) ?_
 simp -dsimp [f230] at hlp
 cases q:Q4 (a1s c.acts) ks
 ·rw [q] at hlp
  simp (maxSteps:=1000000) +contextual -dsimp [f230,gk,hlp]
 ·rw [q] at hlp
  simp (maxSteps:=1000000) +contextual -dsimp [f230,gk,hlp]
def a2p (v:Int):List Int→Int
 | x::y::r=>if eqI x v=true then y else a2p v (y::r)
 | _=>-1
theorem f0m {v:Int}:∀ {l:List Int},v∈l→a2p v l=if ltI (a3i v l+1) l.length=true then A3 l (a3i v l+1) else -1
 | [],h=>by simp at h
 | [x],h=>by
  have:x=v:=by simpa [eq_comm] using h
  subst this
  simp [a2p,a3i,D1,C1,ltI]
 | x::y::r,h=>by
  unfold a2p
  cases q:eqI x v
  ·have hne:x≠v:=by simpa [eqI] using q
   have hm:v∈y::r:=by
    rcases List.mem_cons.1 h with h | h
    ·exact absurd h.symm hne
    ·exact h
   have ih:=f0m hm
   obtain ⟨j,h1,h2,h3⟩:=b3n hm
   have e:a3i v (x::y::r)=a3i v (y::r)+1:=by
    have q':eqI v x=false:=by simp only [eqI,beq_eq_false_iff_ne]; exact fun h=>hne h.symm
    have sh:∀ (l:List Int) (i:Nat),(∃ j:Nat,D1 (fun x=>eqI v x) i l=j)→D1 (fun x=>eqI v x) (i+1) l=D1 (fun x=>eqI v x) i l+1:=by
     intro l
     induction l with
     | nil=>intro i ⟨j,h⟩; simp only [D1] at h; omega
     | cons z l ih=>
      intro i ⟨j,h⟩
      unfold D1 at h ⊢
      split
      ·rename_i c; simp
      ·rename_i c; rw [if_neg c] at h; exact ih (i+1) ⟨j,h⟩
    have:a3i v (x::y::r)=D1 (fun x=>eqI v x) 1 (y::r):=by
     unfold a3i; conv=>lhs; unfold D1
     rw [q',if_neg (by simp)]
    rw [this]
    exact sh (y::r) 0 ⟨j,h1⟩
   simp only [Bool.false_eq_true,if_false]
   rw [ih,e,h1]
   have e1:((j:Int)+1+1)=((j+2:Nat):Int):=by omega
   have e2:((j:Int)+1)=((j+1:Nat):Int):=by omega
   rw [e1,e2]
   by_cases hj:j+1 < (y::r).length
   ·rw [if_pos (by simp [ltI]; simp at hj; omega),if_pos (by simp [ltI]; simp at hj; omega),K4 hj,K4 (by simp at hj ⊢; omega)]
    rfl
   ·rw [if_neg (by simp [ltI]; simp at hj; omega),if_neg (by simp [ltI]; simp at hj; omega)]
  ·have:x=v:=by simpa [eqI] using q
   subst this
   have e:a3i x (x::y::r)=0:=by simp [a3i,D1,C1]
   rw [e,if_pos rfl,if_pos (by simp only [ltI,List.length_cons,decide_eq_true_eq]; omega)]
   rfl
theorem f5j (v:Int) (all:List Int) (hall:all.length≤24) (hp:∀ x,x∈all→0≤x):∀ (rest:List Int) (i:Nat),all.drop i=rest→rest≠[]→
  ∃ n:Nat,A5 E (orc E) (229:Nat) (rest.length+1) (B3 f229 0) ⟨32,[(1,vI v),(5,iS all),(6,vI i)],[],2⟩=
  (if eqI (a2p v rest) (-1)=true then some (.exit 0,⟨32,[(1,vI v),(5,iS all),(6,vI n),(18,vB false)],[],2⟩) else some (.ret,⟨32,[(4,vI (a2p v rest))],[],2⟩))
 | [],i,h,hn=>absurd rfl hn
 | [x],i,h,hn=>by
  obtain ⟨hi,hc,hr⟩:=C8 h
  have hge:all.length≤i+1:=by simpa using hr
  have hw:=N6 hi (by omega)
  have hlt:ltI ((i+1:Nat):Int) (all.length:Int)=false:=B7 (by omega)
  refine ⟨i,?_⟩
  have e1:eqI (a2p v [x]) (-1)=true:=rfl
  rw [e1,if_pos rfl]
  refine D6 ?_ (by simp)
  generalize i+1=i1 at *
  simp (maxSteps:=1000000) +contextual -dsimp [f229,hw,hlt]
 | x::y::r,i,h,hn=>by
  obtain ⟨hi,hc,hr⟩:=C8 h
  obtain ⟨hi2,hc2,hr2⟩:=C8 hr
  have hw:=N6 hi (by omega)
  have hlt:=O4 hi2
  have hx:0≤x:=hp x (by rw [← hc]; exact List.getElem_mem _)
  have hy:0≤y:=hp y (by rw [← hc2]; exact List.getElem_mem _)
  cases q:eqI x v
  ·have hm:a2p v (x::y::r)=a2p v (y::r):=by
    conv=>lhs; unfold a2p
    rw [if_neg (by rw [q]; simp)]
   rw [hm]
   obtain ⟨n,ih⟩:=f5j v all hall hp (y::r) (i+1) hr (by simp)
   refine ⟨n,?_⟩
   have he:(x::y::r).length=(y::r).length+1:=rfl
   rw [he]
   refine C0 ?_ ih
   generalize i+1=i1 at *
   simp (maxSteps:=1000000) +contextual -dsimp [f229,hw,hlt,hi,hc,q]
  ·have hm:a2p v (x::y::r)=y:=by
    conv=>lhs; unfold a2p
    rw [if_pos q]
   have hn1:eqI y (-1)=false:=by simp [eqI]; omega
   refine ⟨0,?_⟩
   rw [hm,hn1,if_neg (by simp)]
   refine D6 ?_ (by simp)
   generalize i+1=i1 at *
   simp (maxSteps:=1000000) +contextual -dsimp [f229,hw,hlt,hi,hi2,hc,hc2,q]
theorem g2u {l:List Step} (w:Wf l) (k p:Nat) (hk:k < l.length) (hp:parOf l k=p):
  fo 229 [A (.sl 124 (l.map (sT 219))),A (vI k)]=some (R (vI (a2p k (A7 p 0 l)))):=by
 have h24:=w.kids24 p
 have gk:=a8n l (by have:=w.ok.le; omega) p
 rw [← a4d w.ok] at gk
 have hmem:=w.kid_of hk hp
 have hp':(l[k]).parent=(p:Int):=by rw [← a8p hk]; exact hp
 have hpos:∀ x,x∈A7 p 0 l→0≤x:=fun x hx=>by obtain ⟨a,h1,_⟩:=w.kid hx; omega
 generalize hks:A7 p 0 l=ks at *
 obtain ⟨n,hlp⟩:=f5j k ks h24 hpos ks 0 rfl (fun h=>by rw [h] at hmem; simp at hmem)
 refine g9a (ks.length+1) ?_
 simp -dsimp [f229] at hlp
 cases q:eqI (a2p k ks) (-1)
 ·rw [q] at hlp
  simp (maxSteps:=1000000) +contextual -dsimp [f229,hk,hp',gk,hlp]
 ·rw [q] at hlp
  have e:a2p k ks=-1:=by simpa [eqI] using q
  simp (maxSteps:=1000000) +contextual -dsimp [f229,hk,hp',gk,hlp,e]
end Go.TM.Ft
