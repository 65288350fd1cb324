/- What functions of the program come to, by the machine. -/
import Derived.Test.YtlmiemdojgahaaaGreatKL10
import Derived.Test.YtlmiemdojgahaaaGreatKL7
set_option linter.unusedSimpArgs false
set_option linter.unusedVariables false
set_option maxHeartbeats 8000000
namespace Go.TM.Ft
open Go Go.TM Go.Proofs Go.Proofs.Tryz
set_option maxRecDepth 20000
attribute [local congr] M0
attribute [local simp] K2 K6 J4 K3 H7 J9 H8 G9 J1 G3 a2h a5d
abbrev cO (c:Chart):List T:=[vI c.status,vI c.now,.own 2 (iE c.vars),.own 2 (iE c.acts),.own 2 (iE c.dues)]
abbrev aC (c:Chart):Arg:=⟨.ptr 1 0 [] 0,some ⟨0,0,true,cO c⟩⟩
abbrev aC0 (c:Chart):Arg:=⟨.ptr 0 0 [] 0,some ⟨0,0,true,cO c⟩⟩
abbrev RC (c:Chart):Res:=⟨.tup [],[(1,cO c)],true⟩
abbrev RC0 (c:Chart):Res:=⟨.tup [],[(0,cO c)],true⟩
theorem c2g {α:Type}:∀ (r:List α) (i:Nat) (xs:List Int),i+r.length=xs.length→M9 (fun (i:Nat) (xs:List Int) (_:α)=>xs.set i 0) i xs r=xs.take i++List.replicate r.length 0
 | [],i,xs,h=>by
  simp only [M9,List.length_nil,List.replicate_zero,List.append_nil]
  rw [List.take_of_length_le (by simp at h; omega)]
 | x::r,i,xs,h=>by
  simp only [M9]
  rw [c2g r (i+1) (xs.set i 0) (by simp at h ⊢; omega)]
  simp only [List.length_cons] at h
  rw [List.take_succ_eq_append_getElem (by simp; omega),List.take_set_of_le (Nat.le_refl _)]
  simp [List.replicate_succ]
theorem e0m {α:Type}:∀ (r:List α) (i:Nat) (c:Chart),M9 (fun (i:Nat) (c:Chart) (_:α)=>{ c with acts:=c.acts.set i 0,dues:=c.dues.set i 0 }) i c r=
  { c with acts:=M9 (fun (i:Nat) (xs:List Int) (_:α)=>xs.set i 0) i c.acts r,dues:=M9 (fun (i:Nat) (xs:List Int) (_:α)=>xs.set i 0) i c.dues r }
 | [],i,c=>rfl
 | x::r,i,c=>by simp only [M9]; rw [e0m r]
theorem i6a (c:Chart) (hd:c.dues.length=c.acts.length) (hn:c.acts.length < 2 ^ 62):
  A6 E (orc E) (226:Nat) (c.acts.length+1) (A8 f226 0) ⟨30,[(0,.ptr 0 0 [] 0),(4,vI (0:Nat))],[(0,⟨0,0,true,cO c⟩)],2⟩=
  some (.exit 0,⟨30,[(0,.ptr 0 0 [] 0),(4,vI c.acts.length),(15,vB false)],[(0,⟨0,0,true,cO { c with acts:=List.replicate c.acts.length 0,dues:=List.replicate c.acts.length 0 }⟩)],2⟩):=by
 have h:=a4h (f:=226) (id:=0) (code:=A8 f226 0) c.acts (fun _ c'=>c'.acts.length=c.acts.length∧c'.dues.length=c.acts.length)
  (fun i c'=>⟨30,[(0,.ptr 0 0 [] 0),(4,vI i)],[(0,⟨0,0,true,cO c'⟩)],2⟩) (fun (i:Nat) (c:Chart) (_:Int)=>{ c with acts:=c.acts.set i 0,dues:=c.dues.set i 0 })
  (fun c'=>⟨30,[(0,.ptr 0 0 [] 0),(4,vI c.acts.length),(15,vB false)],[(0,⟨0,0,true,cO c'⟩)],2⟩)
 have h2:=h ?_ ?_ c ⟨rfl,hd⟩
 ·rw [e0m,c2g _ _ _ (by simp),c2g _ _ _ (by simp [hd])] at h2
  simpa using h2
 ·intro k c' hI
  have hlt:=a2m c.acts.length
  have e:=hI.1
  simp +contextual -dsimp [f226,hlt,e]
 ·intro k i c' hi hI
  have hlt:=P7 hi
  have hw:=P1 hi hn
  have e:=hI.1
  have e1:i < c'.acts.length:=by omega
  have e2:i < c'.dues.length:=by omega
  refine ⟨?_,by simp; exact hI⟩
  simp (maxSteps:=1000000) +contextual -dsimp [f226,hlt,hi,hw,e,e1,e2,List.set]
theorem c7g {l:List Step} (c:Chart) (ha:c.acts.length=l.length) (hd:c.dues.length=l.length) (hl:l.length≤1000) (st:Int):fo 226 [aC0 c,A (vI st)]=some (RC0 (a0j l st c)):=by
 have hlp:=i6a { c with status:=st } (by simp [ha,hd]) (by simp [ha]; omega)
 simp only [ha] at hlp
 refine h8n (l.length+1) ?_
 simp -dsimp [f226] at hlp
 simp (maxSteps:=1000000) +contextual -dsimp [f226,hlp,a0j,List.set]
def M3 (l:List Step) (a:Nat):Nat→Nat→List Int
 | 0,_=>[]
 | f+1,i=>if A1 (ltI (i:Int) l.length) (ltI (dep l a) (dep l i))=true then (i:Int)::M3 l a f (i+1) else []
theorem g2c {l:List Step} (w:Wf l) (a:Nat) (ha:a < l.length):∀ (f i:Nat) (acc:List Int),i+f=l.length→acc.length≤i→
  ∃ n:Nat,A6 E (orc E) (250:Nat) (f+1) (A8 f250 0) ⟨31,[(0,.sl 124 (l.map (sT 219))),(1,vI a),(5,.ref 5 1 [] 0 acc.length),(6,vI i)],[(5,⟨1,1,false,[.own 2 (iE acc)]⟩)],2⟩=
  some (.exit 0,⟨31,[(0,.sl 124 (l.map (sT 219))),(1,vI a),(5,.ref 5 1 [] 0 (acc++M3 l a f i).length),(6,vI n),(23,vB false)],[(5,⟨1,1,false,[.own 2 (iE (acc++M3 l a f i))]⟩)],2⟩)
 | 0,i,acc,h,hb=>by
  have hlt:ltI (i:Int) (l.length:Int)=false:=B6 (by omega)
  refine ⟨i,D3 ?_ (by simp)⟩
  simp (maxSteps:=1000000) +contextual -dsimp [f250,hlt,M3]
 | f+1,i,acc,h,hb=>by
  have hi:i < l.length:=by omega
  have hl24:=w.ok.le
  have hlt:=P7 hi
  have hw:=P1 hi (by omega)
  have hm1:acc.length+1≤C2:=by unfold C2; omega
  have g1:=c7m l hl24 i hi w.ahead
  have g2:=c7m l hl24 a ha w.ahead
  rw [show a8k l i=dep l i from rfl] at g1
  rw [show a8k l a=dep l a from rfl] at g2
  cases q:ltI (dep l a) (dep l i)
  ·refine ⟨i,?_⟩
   have e:M3 l a (f+1) i=[]:=by simp [M3,q,A1]
   rw [e]
   refine D3 ?_ (by simp)
   simp (maxSteps:=1000000) +contextual -dsimp [f250,hlt,g1,g2,q]
  ·have e:M3 l a (f+1) i=(i:Int)::M3 l a f (i+1):=by simp [M3,q,hlt,A1]
   obtain ⟨n,ih⟩:=g2c w a ha f (i+1) (acc++[(i:Int)]) (by omega) (by simp; omega)
   refine ⟨n,?_⟩
   rw [e,show acc++(i:Int)::M3 l a f (i+1)=(acc++[(i:Int)])++M3 l a f (i+1) by simp]
   refine C1 ?_ ih
   simp (maxSteps:=1000000) +contextual -dsimp [f250,hlt,hw,hm1,g1,g2,q,List.set]
theorem e0n {l:List Step} (w:Wf l) (a:Nat):∀ (f i:Nat),i+f=l.length→a < i→Und l a (i - 1)→M3 l a f i=((List.range' i f).filter (a6e l a)).map (fun x:Nat=>(x:Int))
 | 0,i,h,_,_=>by simp [M3]
 | f+1,i,h,hai,hu=>by
  have hi:i < l.length:=by omega
  have hlt:=P7 hi
  rw [List.range'_succ]
  cases q:ltI (dep l a) (dep l i)
  ·have e:M3 l a (f+1) i=[]:=by simp [M3,q,A1]
   rw [e]
   have hd:¬ dep l a < dep l i:=by simp [ltI] at q; omega
   have hn:¬ Und l a i:=fun h=>hd ((w.piece hi h hai).2)
   have:(i::List.range' (i+1) f).filter (a6e l a)=[]:=by
    rw [List.filter_eq_nil_iff]
    intro j hj hu2
    have hj2:i≤j∧j < l.length:=by
     rcases List.mem_cons.1 hj with rfl | hj
     ·exact ⟨Nat.le_refl _,hi⟩
     ·rw [List.mem_range'_1] at hj; omega
    have:=(c5o w hj2.2).1 hu2
    exact hn (w.between hj2.2 this (j - i) i (by omega) (by omega))
   rw [this]; rfl
  ·have e:M3 l a (f+1) i=(i:Int)::M3 l a f (i+1):=by simp [M3,q,hlt,A1]
   have hd:dep l a < dep l i:=by simpa [ltI] using q
   have hu2:=w.piece2 hi hai hu hd
   rw [e,e0n w a f (i+1) (by omega) (by omega) (by simpa using hu2),List.filter_cons_of_pos ((c5o w hi).2 hu2)]
   rfl
theorem d4o {l:List Step} (w:Wf l) (a:Nat) (ha:a < l.length):(a:Int)::M3 l a (l.length - (a+1)) (a+1)=L2 l a:=by
 rw [c5p,e0n w a _ _ (by omega) (by omega) (by simpa using Und.self)]
 have e:l.length - a=(l.length - (a+1))+1:=by omega
 rw [e,List.range'_succ,List.filter_cons_of_pos ((c5o w ha).2 .self)]
 rfl
theorem g9f {l:List Step} (w:Wf l) (a:Nat) (ha:a < l.length):fo 250 [A (.sl 124 (l.map (sT 219))),A (vI a)]=some ⟨.own 2 (iE (L2 l a)),[],true⟩:=by
 obtain ⟨n,hlp⟩:=g2c w a ha (l.length - (a+1)) (a+1) [(a:Int)] (by omega) (by simp)
 have hw:=P1 ha (by have:=w.ok.le; omega)
 rw [List.singleton_append,d4o w a ha] at hlp
 have hc:D9 (iE (L2 l a))=true:=by generalize L2 l a=k; induction k <;> simp_all [D9,N5,clean]
 refine h9k (l.length - (a+1)+1) ?_
 simp -dsimp [f250,iE] at hlp
 simp (maxSteps:=1000000) +contextual -dsimp [f250,hw,hlp,hc,List.set]
theorem i6b (c:Chart) (ks:List Int) (hk:ks.length < 2 ^ 62) (hin:∀ k,k∈ks→∃ x:Nat,k=x∧x < c.acts.length∧x < c.dues.length):
  A6 E (orc E) (197:Nat) (ks.length+1) (A8 f197 0) ⟨35,[(1,.ptr 1 0 [] 0),(6,iS ks),(7,vI (0:Nat))],[(1,⟨0,0,true,cO c⟩)],2⟩=
  some (.exit 0,⟨35,[(1,.ptr 1 0 [] 0),(6,iS ks),(7,vI ks.length),(14,vB false)],[(1,⟨0,0,true,cO (a1l ks c)⟩)],2⟩):=by
 have h:=a4h (f:=197) (id:=0) (code:=A8 f197 0) ks (fun _ c'=>c'.acts.length=c.acts.length∧c'.dues.length=c.dues.length)
  (fun i c'=>⟨35,[(1,.ptr 1 0 [] 0),(6,iS ks),(7,vI i)],[(1,⟨0,0,true,cO c'⟩)],2⟩) (fun (_:Nat) (c:Chart) (k:Int)=>{ c with acts:=c.acts.set k.toNat 0,dues:=c.dues.set k.toNat 0 })
  (fun c'=>⟨35,[(1,.ptr 1 0 [] 0),(6,iS ks),(7,vI ks.length),(14,vB false)],[(1,⟨0,0,true,cO c'⟩)],2⟩)
 have h2:=h ?_ ?_ c ⟨rfl,rfl⟩
 ·rw [c3t] at h2; exact h2
 ·intro k c' _
  have hlt:=a2m ks.length
  simp +contextual -dsimp [f197,hlt]
 ·intro k i c' hi hI
  obtain ⟨x,hx,h1,h2⟩:=hin ks[i] (List.getElem_mem hi)
  have hlt:=P7 hi
  have hw:=P1 hi hk
  have e1:x < c'.acts.length:=by omega
  have e2:x < c'.dues.length:=by omega
  refine ⟨?_,by simp; exact hI⟩
  simp (maxSteps:=1000000) +contextual -dsimp [f197,hlt,hi,hw,hx,e1,e2,List.set]
theorem h2r {l:List Step} (w:Wf l) (c:Chart) (ha:c.acts.length=l.length) (hd:c.dues.length=l.length) (k:Nat) (hk:k < l.length):
  fo 197 [A (.sl 124 (l.map (sT 219))),aC c,A (vI k)]=some (RC (a1l (L2 l k) c)):=by
 have g:=g9f w k hk
 have hle:=e2e l k
 have hl:=w.ok.le
 have hlp:=i6b c (L2 l k) (by omega) (fun k hk=>by
  obtain ⟨x,h1,h2,h3,h4⟩:=d7r hk
  exact ⟨x,h1,by omega,by omega⟩)
 refine h8b ((L2 l k).length+1) ?_
 simp -dsimp [f197] at hlp
 simp (maxSteps:=1000000) +contextual -dsimp [f197,g,hlp]
def b5g (x:Int):Int:=if eqI x (-2)=true then -1 else x
theorem g2d {l:List Step} (w:Wf l) (c:Chart) (hv:c.vars.length=4) (hr0:∀ x,x∈c.vars→badV x=false) (all:List Int) (hall:all.length≤24) (hks:∀ k,k∈all→∃ x:Nat,k=x∧x < l.length):∀ (rest:List Int) (i:Nat),all.drop i=rest→
    A6 E (orc E) (225:Nat) (rest.length+1) (A8 f225 0) ⟨53,[(0,.sl 124 (l.map (sT 219))),(1,.ipt (cT c)),(7,iS all),(8,vI i)],[],2⟩=
    (if eqI (D5 l c.vars rest) (-2) = true then some (.exit 0, ⟨53, [(0, .sl 124 (l.map (sT 219))), (1, .ipt (cT c)), (7, iS all), (8, vI (i + rest.length : Nat)), (18, vB false)], [], 2⟩)
     else some (.ret,⟨53,[(6,vI (D5 l c.vars rest))],[],2⟩))
  | [],i,h=>by
    have hge:all.length≤i:=by simpa using h
    have hlt:ltI (i:Int) (all.length:Int)=false:=B6 (by omega)
    rw [C3]
    simp +contextual -dsimp [f225,hlt,D5,B7]
  | k::rest,i,h=>by
    obtain ⟨hi,hc,hr⟩:=C6 h
    obtain ⟨x,hx,hxl⟩:=hks k (by rw [← hc]; exact List.getElem_mem _)
    have hlt:=P7 hi
    have hw:=P1 hi (by omega)
    have he:i+1+rest.length=i+(rest.length+1):=by omega
    have ec:(l[x]).cond=condOf l x:=by simp [condOf,hxl]
    have hm:D5 l c.vars (k::rest)=(if ltI 0 (condOf l x).length=true then a5w (a3h (condOf l x) c.vars) k (D5 l c.vars rest) else k):=by
      conv=>lhs; unfold D5
      rw [hx,Int.toNat_natCast]
    have hx2:eqI (x:Int) (-2)=false:=by simp only [eqI,beq_eq_false_iff_ne]; omega
    cases q:ltI 0 (condOf l x).length
    · have q0 : eqI (condOf l x).length 0 = true := by
        simp only [ltI,decide_eq_false_iff_not] at q
        simp only [eqI,beq_iff_eq]; omega
      rw [q,if_neg (by simp)] at hm
      rw [hm,hx,hx2,if_neg (by simp)]
      refine D3 ?_ (by simp)
      rw [hx] at hc
      simp (maxSteps:=1000000) +contextual -dsimp [f225,hlt,hi,hc,hxl,ec,q0]
    · have q0 : eqI (condOf l x).length 0 = false := by
        simp only [ltI,decide_eq_true_eq] at q
        simp only [eqI,beq_eq_false_iff_ne]; omega
      have g:=e0l (condOf l x) (w.condOf hxl q) c.vars hv hr0
      rw [q,if_pos rfl] at hm
      cases ev:a3h (condOf l x) c.vars with
      | none=>
        rw [ev] at hm g
        simp only [RE] at g
        have hm:D5 l c.vars (k::rest)=-1:=hm
        have t1:eqI (-1) (-2)=false:=rfl
        rw [hm,t1,if_neg (by simp)]
        refine D3 ?_ (by simp)
        rw [hx] at hc
        simp (maxSteps:=1000000) +contextual -dsimp [f225,hlt,hi,hc,hxl,ec,q0,g]
      | some v=>
        rw [ev] at hm g
        simp only [RE] at g
        cases q1:eqI v 1
        · have hm : D5 l c.vars (k :: rest) = D5 l c.vars rest := by simpa [q1, a5w] using hm
          rw [hm]
          have ih:=g2d w c hv hr0 all hall hks rest (i+1) hr
          rw [he] at ih
          refine C1 ?_ (by simpa only [List.length_cons] using ih)
          rw [hx] at hc
          simp (maxSteps:=1000000) +contextual -dsimp [f225,hlt,hi,hc,hw,hxl,ec,q0,g,q1]
        · have hm : D5 l c.vars (k :: rest) = x := by simpa [q1, a5w, hx] using hm
          rw [hm,hx2,if_neg (by simp)]
          refine D3 ?_ (by simp)
          rw [hx] at hc
          simp (maxSteps:=1000000) +contextual -dsimp [f225,hlt,hi,hc,hxl,ec,q0,g,q1]
theorem g7h {l:List Step} (w:Wf l) (c:Chart) (hv:c.vars.length=4) (hr0:∀ x,x∈c.vars→badV x=false) (k:Nat):
  fo 225 [A (.sl 124 (l.map (sT 219))),A (.ipt (cT c)),A (vI k)]=some (R (vI (b5g (D5 l c.vars (A7 k 0 l))))):=by
 have h24:=w.kids24 k
 have gk:=b0n l (by have:=w.ok.le; omega) k
 rw [← a5e w.ok] at gk
 generalize hks:A7 k 0 l=ks at *
 have hlp:=g2d w c hv hr0 ks h24 (fun x hx=>by
  rw [← hks] at hx
  obtain ⟨a,h1,h2,_⟩:=w.kid hx
  exact ⟨a,h1,h2⟩) ks 0 rfl
 refine h8m (ks.length+1) ?_
 simp -dsimp [f225] at hlp
 unfold b5g
 cases q:eqI (D5 l c.vars ks) (-2)
 ·rw [q] at hlp
  simp (maxSteps:=1000000) +contextual -dsimp [f225,gk,hlp]
 ·rw [q] at hlp
  simp (maxSteps:=1000000) +contextual -dsimp [f225,gk,hlp]
theorem g2e (c:Chart) (all:List Int) (hall:all.length≤24) (hks:∀ k,k∈all→∃ x:Nat,k=x∧x < c.acts.length):∀ (rest:List Int) (i:Nat),all.drop i=rest→
  A6 E (orc E) (230:Nat) (rest.length+1) (A8 f230 0) ⟨29,[(1,.ipt (cT c)),(7,iS all),(8,vI i)],[],2⟩=
  (if V3 (a1w c.acts) rest=true then some (.ret,⟨29,[(6,vB false)],[],2⟩) else some (.exit 0,⟨29,[(1,.ipt (cT c)),(7,iS all),(8,vI (i+rest.length:Nat)),(15,vB false)],[],2⟩))
 | [],i,h=>by
  have hge:all.length≤i:=by simpa using h
  have hlt:ltI (i:Int) (all.length:Int)=false:=B6 (by omega)
  have h0:V3 (a1w c.acts) []=false:=rfl
  rw [C3]
  simp +contextual -dsimp [f230,hlt,h0]
 | k::rest,i,h=>by
  obtain ⟨hi,hc,hr⟩:=C6 h
  obtain ⟨x,hx,hxl⟩:=hks k (by rw [← hc]; exact List.getElem_mem _)
  have hlt:=P7 hi
  have hw:=P1 hi (by omega)
  have he:i+1+rest.length=i+(rest.length+1):=by omega
  have hs:=K8 hxl
  have e:a1w c.acts k=A0 (eqI c.acts[x] 2):=by unfold a1w; rw [hx,hs]
  rw [hx] at hc
  cases q:eqI c.acts[x] 2
  ·have hm:V3 (a1w c.acts) (k::rest)=true:=by rw [b0p]; simp [e,q,A0]
   rw [hm,if_pos rfl]
   refine D3 ?_ (by simp)
   simp (maxSteps:=1000000) +contextual -dsimp [f230,hlt,hi,hc,hxl,q]
  ·have hm:V3 (a1w c.acts) (k::rest)=V3 (a1w c.acts) rest:=by rw [b0p,b0p]; simp [e,q,A0]
   rw [hm]
   have ih:=g2e c all hall hks rest (i+1) hr
   rw [he] at ih
   refine C1 ?_ (by simpa only [List.length_cons] using ih)
   simp (maxSteps:=1000000) +contextual -dsimp [f230,hlt,hi,hc,hxl,hw,q]
theorem i1d {l:List Step} (w:Wf l) (c:Chart) (ha:c.acts.length=l.length) (k:Nat):
  fo 230 [A (.sl 124 (l.map (sT 219))),A (.ipt (cT c)),A (vI k)]=some (R (vB (A0 (V3 (a1w c.acts) (A7 k 0 l))))):=by
 have h24:=w.kids24 k
 have gk:=b0n l (by have:=w.ok.le; omega) k
 rw [← a5e w.ok] at gk
 generalize hks:A7 k 0 l=ks at *
 have hlp:=g2e c ks h24 (fun x hx=>by
  rw [← hks] at hx
  obtain ⟨a,h1,h2,_⟩:=w.kid hx
  exact ⟨a,h1,by omega⟩) ks 0 rfl
 refine h8r (ks.length+1) ?_
 simp -dsimp [f230] at hlp
 cases q:V3 (a1w c.acts) ks
 ·rw [q] at hlp
  simp (maxSteps:=1000000) +contextual -dsimp [f230,gk,hlp]
 ·rw [q] at hlp
  simp (maxSteps:=1000000) +contextual -dsimp [f230,gk,hlp]
def a2o (v:Int):List Int→Int
 | x::y::r=>if eqI x v=true then y else a2o v (y::r)
 | _=>-1
theorem f5t {v:Int}:∀ {l:List Int},v∈l→a2o v l=if ltI (a3m v l+1) l.length=true then A4 l (a3m v l+1) else -1
 | [],h=>by simp at h
 | [x],h=>by
  have:x=v:=by simpa [eq_comm] using h
  subst this
  simp [a2o,a3m,D2,B7,ltI]
 | x::y::r,h=>by
  unfold a2o
  cases q:eqI x v
  ·have hne:x≠v:=by simpa [eqI] using q
   have hm:v∈y::r:=by
    rcases List.mem_cons.1 h with h | h
    ·exact absurd h.symm hne
    ·exact h
   have ih:=f5t hm
   obtain ⟨j,h1,h2,h3⟩:=b4p hm
   have e:a3m v (x::y::r)=a3m v (y::r)+1:=by
    have q':eqI v x=false:=by simp only [eqI,beq_eq_false_iff_ne]; exact fun h=>hne h.symm
    have sh:∀ (l:List Int) (i:Nat),(∃ j:Nat,D2 (fun x=>eqI v x) i l=j)→D2 (fun x=>eqI v x) (i+1) l=D2 (fun x=>eqI v x) i l+1:=by
     intro l
     induction l with
     | nil=>intro i ⟨j,h⟩; simp only [D2] at h; omega
     | cons z l ih=>
      intro i ⟨j,h⟩
      unfold D2 at h ⊢
      split
      ·rename_i c; simp
      ·rename_i c; rw [if_neg c] at h; exact ih (i+1) ⟨j,h⟩
    have:a3m v (x::y::r)=D2 (fun x=>eqI v x) 1 (y::r):=by
     unfold a3m; conv=>lhs; unfold D2
     rw [q',if_neg (by simp)]
    rw [this]
    exact sh (y::r) 0 ⟨j,h1⟩
   simp only [Bool.false_eq_true,if_false]
   rw [ih,e,h1]
   have e1:((j:Int)+1+1)=((j+2:Nat):Int):=by omega
   have e2:((j:Int)+1)=((j+1:Nat):Int):=by omega
   rw [e1,e2]
   by_cases hj:j+1 < (y::r).length
   ·rw [if_pos (by simp [ltI]; simp at hj; omega),if_pos (by simp [ltI]; simp at hj; omega),K8 hj,K8 (by simp at hj ⊢; omega)]
    rfl
   ·rw [if_neg (by simp [ltI]; simp at hj; omega),if_neg (by simp [ltI]; simp at hj; omega)]
  ·have:x=v:=by simpa [eqI] using q
   subst this
   have e:a3m x (x::y::r)=0:=by simp [a3m,D2,B7]
   rw [e,if_pos rfl,if_pos (by simp only [ltI,List.length_cons,decide_eq_true_eq]; omega)]
   rfl
theorem g2f (v:Int) (all:List Int) (hall:all.length≤24) (hp:∀ x,x∈all→0≤x):∀ (rest:List Int) (i:Nat),all.drop i=rest→rest≠[]→
  ∃ n:Nat,A6 E (orc E) (229:Nat) (rest.length+1) (A8 f229 0) ⟨32,[(1,vI v),(5,iS all),(6,vI i)],[],2⟩=
  (if eqI (a2o v rest) (-1)=true then some (.exit 0,⟨32,[(1,vI v),(5,iS all),(6,vI n),(18,vB false)],[],2⟩) else some (.ret,⟨32,[(4,vI (a2o v rest))],[],2⟩))
 | [],i,h,hn=>absurd rfl hn
 | [x],i,h,hn=>by
  obtain ⟨hi,hc,hr⟩:=C6 h
  have hge:all.length≤i+1:=by simpa using hr
  have hw:=P1 hi (by omega)
  have hlt:ltI ((i+1:Nat):Int) (all.length:Int)=false:=B6 (by omega)
  refine ⟨i,?_⟩
  have e1:eqI (a2o v [x]) (-1)=true:=rfl
  rw [e1,if_pos rfl]
  refine D3 ?_ (by simp)
  generalize i+1=i1 at *
  simp (maxSteps:=1000000) +contextual -dsimp [f229,hw,hlt]
 | x::y::r,i,h,hn=>by
  obtain ⟨hi,hc,hr⟩:=C6 h
  obtain ⟨hi2,hc2,hr2⟩:=C6 hr
  have hw:=P1 hi (by omega)
  have hlt:=P7 hi2
  have hx:0≤x:=hp x (by rw [← hc]; exact List.getElem_mem _)
  have hy:0≤y:=hp y (by rw [← hc2]; exact List.getElem_mem _)
  cases q:eqI x v
  ·have hm:a2o v (x::y::r)=a2o v (y::r):=by
    conv=>lhs; unfold a2o
    rw [if_neg (by rw [q]; simp)]
   rw [hm]
   obtain ⟨n,ih⟩:=g2f v all hall hp (y::r) (i+1) hr (by simp)
   refine ⟨n,?_⟩
   have he:(x::y::r).length=(y::r).length+1:=rfl
   rw [he]
   refine C1 ?_ ih
   generalize i+1=i1 at *
   simp (maxSteps:=1000000) +contextual -dsimp [f229,hw,hlt,hi,hc,q]
  ·have hm:a2o v (x::y::r)=y:=by
    conv=>lhs; unfold a2o
    rw [if_pos q]
   have hn1:eqI y (-1)=false:=by simp [eqI]; omega
   refine ⟨0,?_⟩
   rw [hm,hn1,if_neg (by simp)]
   refine D3 ?_ (by simp)
   generalize i+1=i1 at *
   simp (maxSteps:=1000000) +contextual -dsimp [f229,hw,hlt,hi,hi2,hc,hc2,q]
theorem g9g {l:List Step} (w:Wf l) (k p:Nat) (hk:k < l.length) (hp:parOf l k=p):
  fo 229 [A (.sl 124 (l.map (sT 219))),A (vI k)]=some (R (vI (a2o k (A7 p 0 l)))):=by
 have h24:=w.kids24 p
 have gk:=b0n l (by have:=w.ok.le; omega) p
 rw [← a5e w.ok] at gk
 have hmem:=w.kid_of hk hp
 have hp':(l[k]).parent=(p:Int):=by rw [← a9a hk]; exact hp
 have hpos:∀ x,x∈A7 p 0 l→0≤x:=fun x hx=>by obtain ⟨a,h1,_⟩:=w.kid hx; omega
 generalize hks:A7 p 0 l=ks at *
 obtain ⟨n,hlp⟩:=g2f k ks h24 hpos ks 0 rfl (fun h=>by rw [h] at hmem; simp at hmem)
 refine h8q (ks.length+1) ?_
 simp -dsimp [f229] at hlp
 cases q:eqI (a2o k ks) (-1)
 ·rw [q] at hlp
  simp (maxSteps:=1000000) +contextual -dsimp [f229,hk,hp',gk,hlp]
 ·rw [q] at hlp
  have e:a2o k ks=-1:=by simpa [eqI] using q
  simp (maxSteps:=1000000) +contextual -dsimp [f229,hk,hp',gk,hlp,e]
section
variable {l:List Step}
theorem g5q (w:Wf l) (vars:List Int) {k:Nat} (hk:k < l.length) (h3:A9 l k=3):D5 l vars (A7 k 0 l)≠-2:=by
 have hn:=w.kidsN hk
 rw [h3] at hn
 have hlen:2≤(A7 k 0 l).length:=by
  simp [N8,eqI,inR,A1,leI] at hn; omega
 have hlast:∀ x,x∈A7 k 0 l→x=A4 (A7 k 0 l) ((A7 k 0 l).length - 1)→ltI 0 (condOf l x.toNat).length=false:=by
  intro x hx he
  obtain ⟨a,ha,hal,hka,hpa⟩:=w.kid hx
  have hc:=w.ok.cond a hal
  unfold condFaultM at hc
  have hcode:b0k l a=0:=by
   split at hc
   ·exact hc
   ·rename_i c
    simp [orB,A0,eqI] at c
    exact c.1
  have h2:=(O1 hcode).2
  have hw:a8b l a=false:=by
   unfold a8b
   rw [hpa,if_neg (by simp [orB,A0,eqI,h3]; omega),← he,ha]
   simp [A0,eqI]
  rw [hw] at h2
  have hh:a4j l a=false:=by
   cases q:a4j l a
   ·rfl
   ·rw [q] at h2; simp [eqB,A0] at h2
  rw [ha,Int.toNat_natCast]
  have e:ltI 0 (condOf l a).length=a4j l a:=by simp [a4j,condOf,hal]
  rw [e]; exact hh
 have hpos:∀ x,x∈A7 k 0 l→0≤x:=fun x hx=>by obtain ⟨a,h1,_⟩:=w.kid hx; omega
 have key:∀ (r:List Int),r≠[]→(∀ x,x∈r→0≤x)→ltI 0 (condOf l (A4 r (r.length - 1)).toNat).length=false→D5 l vars r≠-2:=by
  intro r
  induction r with
  | nil=>intro h; exact absurd rfl h
  | cons x r ih=>
   intro _ hp hc
   unfold D5
   have hx:=hp x (by simp)
   cases r with
   | nil=>
    have:A4 [x] (([x]:List Int).length - 1)=x:=rfl
    rw [this] at hc
    rw [hc,if_neg (by simp)]; omega
   | cons y r=>
    have e:A4 (x::y::r) ((x::y::r).length - 1)=A4 (y::r) ((y::r).length - 1):=by
     have e1:(((x::y::r).length:Int) - 1)=((r.length+1:Nat):Int):=by simp
     have e2:(((y::r).length:Int) - 1)=((r.length:Nat):Int):=by simp
     rw [e1,e2,K8 (by simp),K8 (by simp)]
     rfl
    rw [e] at hc
    have ih:=ih (by simp) (fun z hz=>hp z (by simp [hz])) hc
    unfold a5w
    split
    ·split
     ·simp
     ·split
      ·omega
      ·exact ih
    ·omega
 have e1:(((A7 k 0 l).length:Int) - 1)=(((A7 k 0 l).length - 1:Nat):Int):=by omega
 refine key _ (fun h=>by rw [h] at hlen; simp at hlen) hpos ?_
 refine hlast _ ?_ rfl
 rw [e1]; exact a7o (by omega)
def GoOk4 (l:List Step) (go:Bool→Nat→Chart→Option Chart):Prop:=
 ∀ b k c c',Inv l c→k < l.length→go b k c=some c'→fo (if b=true then 161 else 165) [A (.sl 124 (l.map (sT 219))),aC c,A (vI k)]=some (RC c')∧Inv l c'
theorem GoOk4.ent {go} (g:GoOk4 l go) {k:Nat} {c c':Chart} (h:Inv l c) (hk:k < l.length) (hc:go true k c=some c'):fo 161 [A (.sl 124 (l.map (sT 219))),aC c,A (vI k)]=some (RC c')∧Inv l c':=g true k c c' h hk hc
theorem GoOk4.ovr {go} (g:GoOk4 l go) {k:Nat} {c c':Chart} (h:Inv l c) (hk:k < l.length) (hc:go false k c=some c'):fo 165 [A (.sl 124 (l.map (sT 219))),aC c,A (vI k)]=some (RC c')∧Inv l c':=g false k c c' h hk hc
theorem g2g (w:Wf l) {go} (g:GoOk4 l go) (all:List Int) (hall:all.length≤24) (hks:∀ k,k∈all→∃ x:Nat,k=x∧x < l.length):∀ (rest:List Int) (i:Nat) (c c':Chart),all.drop i=rest→Inv l c→a3y go rest c=some c'→
  A6 E (orc E) (161:Nat) (rest.length+1) (A8 f161 0) ⟨143,[(0,.sl 124 (l.map (sT 219))),(1,.ptr 1 0 [] 0),(6,iS all),(7,vI i)],[(1,⟨0,0,true,cO c⟩)],2⟩=
  some (.exit 1,⟨143,[(0,.sl 124 (l.map (sT 219))),(1,.ptr 1 0 [] 0),(6,iS all),(7,vI (i+rest.length:Nat)),(43,vB false)],[(1,⟨0,0,true,cO c'⟩)],2⟩)∧Inv l c'
 | [],i,c,c',h,hI,hg=>by
  have hge:all.length≤i:=by simpa using h
  have hlt:ltI (i:Int) (all.length:Int)=false:=B6 (by omega)
  simp only [a3y,Option.some.injEq] at hg; subst hg
  refine ⟨?_,hI⟩
  rw [C3]
  simp +contextual -dsimp [f161,hlt]
 | k::rest,i,c,c',h,hI,hg=>by
  obtain ⟨hi,hc,hr⟩:=C6 h
  obtain ⟨x,hx,hxl⟩:=hks k (by rw [← hc]; exact List.getElem_mem _)
  have hlt:=P7 hi
  have hw:=P1 hi (by omega)
  have he:i+1+rest.length=i+(rest.length+1):=by omega
  unfold a3y at hg
  rw [hx,Int.toNat_natCast] at hg
  cases q:go true x c with
  | none=>rw [q] at hg; simp at hg
  | some c1=>
   rw [q] at hg
   obtain ⟨g1,g2⟩:=g.ent hI hxl q
   obtain ⟨ih,hI'⟩:=g2g w g all hall hks rest (i+1) c1 c' hr g2 hg
   rw [he] at ih
   refine ⟨C1 ?_ (by simpa only [List.length_cons] using ih),hI'⟩
   rw [hx] at hc
   simp (maxSteps:=1000000) +contextual -dsimp [f161,hlt,hi,hc,hw,g1]
theorem g9h (w:Wf l) {go} (g:GoOk4 l go) (k:Nat) (hk:k < l.length) (c c':Chart) (hI:Inv l c)
  (h:(if eqI c.status 1=true then a8r go l k { c with acts:=c.acts.set k 1 } else some c)=some c'):fo 161 [A (.sl 124 (l.map (sT 219))),aC c,A (vI k)]=some (RC c')∧Inv l c':=by
 have hl24:=w.ok.le
 cases q0:eqI c.status 1
 ·rw [q0,if_neg (by simp)] at h
  simp only [Option.some.injEq] at h; subst h
  refine ⟨?_,hI⟩
  refine a6n 1 ?_
  simp (maxSteps:=1000000) +contextual -dsimp [f161,q0]
 rw [q0,if_pos rfl] at h
 have gk:=b0n l (by omega) k
 rw [← a5e w.ok] at gk
 have hka:k < c.acts.length:=by rw [hI.acts]; exact hk
 have hkd:k < c.dues.length:=by rw [hI.dues]; exact hk
 have hkk:(l[k]).kind=A9 l k:=(a7l hk).symm
 have hkg:(l[k]).arg=O2 l k:=by simp [O2,hk]
 have hkx:(l[k]).expr=a5q l k:=by simp [a5q,hk]
 have hn:=w.kidsN hk
 have h24:=w.kids24 k
 have hch:=g5q w c.vars hk
 obtain ⟨c1,hc1⟩:∃ c1:Chart,c1={ c with acts:=c.acts.set k 1 }:=⟨_,rfl⟩
 have hI1:Inv l c1:=by rw [hc1]; exact hI.act k 1
 have e1:c1.status=c.status:=by rw [hc1]
 have e2:c1.now=c.now:=by rw [hc1]
 have e3:c1.vars=c.vars:=by rw [hc1]
 have e4:c1.acts=c.acts.set k 1:=by rw [hc1]
 have e5:c1.dues=c.dues:=by rw [hc1]
 have gcx:=g7h w c1 hI1.vars hI1.rng k
 rw [← hc1] at h
 generalize hks:A7 k 0 l=ks at *
 have hkm:∀ x,x∈ks→∃ a:Nat,x=a∧a < l.length:=fun x hx=>by
  rw [← hks] at hx
  obtain ⟨a,h1,h2,_⟩:=w.kid hx
  exact ⟨a,h1,h2⟩
 unfold a8r at h
 rw [hks] at h
 cases q1:eqI (A9 l k) 1
 ·cases q4:eqI (A9 l k) 4
  ·cases q3:eqI (A9 l k) 3
   ·cases q8:eqI (A9 l k) 8
    ·cases q6:eqI (A9 l k) 6
     ·cases q7:eqI (A9 l k) 7
      ·simp only [q1,q4,q3,q8,q6,q7,Bool.false_eq_true,if_false,Option.some.injEq] at h
       subst h
       refine ⟨?_,hI1⟩
       refine a6n 1 ?_
       simp (maxSteps:=1000000) +contextual -dsimp [f161,q0,hk,hka,gk,hkk,q1,q4,q3,q8,q6,q7,e1,e2,e3,e4,e5,List.set]
      ·simp only [q1,q4,q3,q8,q6,q7,Bool.false_eq_true,if_false,if_true] at h
       have h7:(l[k]).kind=7:=by rw [hkk]; simpa [eqI] using q7
       obtain ⟨okx,a0,a3⟩:=w.expr hk h7
       rw [hkx] at okx
       rw [hkg] at a0 a3
       obtain ⟨m,hm⟩:=Int.eq_ofNat_of_zero_le a0
       have hml:m < c.vars.length:=by rw [hI.vars]; omega
       have ge:=e0l (a5q l k) okx c.vars hI.vars hI.rng
       rw [e3] at h
       cases ev:a3h (a5q l k) c.vars with
       | none=>
        rw [ev] at h ge
        simp only [RE] at ge
        simp only [Option.some.injEq] at h
        have gs:=c7g (l:=l) c1 hI1.acts hI1.dues (by omega) 3
        subst h
        refine ⟨?_,hI1.stop 3⟩
        rw [hc1] at gs ⊢
        simp only [aC,aC0,cO,RC,RC0,a0j,iE,List.map_set] at gs ⊢
        refine a6n 1 ?_
        simp (maxSteps:=1000000) +contextual -dsimp [f161,q0,hk,hka,gk,hkk,hkx,q1,q4,q3,q8,q6,q7,ge,gs,List.set]
       | some v=>
        rw [ev] at h ge
        simp only [RE] at ge
        simp only [hm,Int.toNat_natCast] at h
        obtain ⟨g1,g2⟩:=g.ovr (hI1.var m (c3s okx ev)) hk (by rw [e3]; exact h)
        rw [hc1] at g1
        simp only [aC,cO,RC,iE,List.map_set] at g1
        refine ⟨?_,g2⟩
        refine a6n 1 ?_
        simp (maxSteps:=1000000) +contextual -dsimp [f161,q0,hk,hka,gk,hkk,hkx,hkg,hm,hml,q1,q4,q3,q8,q6,q7,ge,g1,List.set]
     ·simp only [q1,q4,q3,q8,q6,Bool.false_eq_true,if_false,if_true,Option.some.injEq] at h
      obtain ⟨a1,a2⟩:=w.arg hk (.inl (by simpa [eqI] using q6))
      have hw:IntKind.i64.wrap (c.now+O2 l k)=c.now+O2 l k:=by have:=hI.now0; have:=hI.now1; rw [A5] <;> omega
      subst h
      refine ⟨?_,by simpa only [e5,e2] using hI1.due k (c.now+O2 l k)⟩
      refine a6n 1 ?_
      simp (maxSteps:=1000000) +contextual -dsimp [f161,q0,hk,hka,hkd,gk,hkk,hkg,hw,q1,q4,q3,q8,q6,e1,e2,e3,e4,e5,List.set]
    ·simp only [q1,q4,q3,q8,Bool.false_eq_true,if_false,if_true] at h
     have h8:A9 l k=8:=by simpa [eqI] using q8
     obtain ⟨a1,a2⟩:=w.arg hk (.inr h8)
     have hw:IntKind.i64.wrap (c.now+O2 l k)=c.now+O2 l k:=by have:=hI.now0; have:=hI.now1; rw [A5] <;> omega
     rw [h8] at hn
     obtain ⟨x,r,rfl⟩:∃ x r,ks=x::r:=by
      cases ks with
      | nil=>simp [N8,eqI,inR,A1,leI] at hn
      | cons x r=>exact ⟨x,r,rfl⟩
     obtain ⟨y,rfl,hyl⟩:=hkm x (by simp)
     have es:A4 ((y:Int)::r) 0=y:=rfl
     rw [es,Int.toNat_natCast] at h
     obtain ⟨g1,g2⟩:=g.ent (hI1.due k (c1.now+O2 l k)) hyl h
     rw [hc1] at g1
     simp only [aC,cO,RC,iE,List.map_set] at g1
     refine ⟨?_,g2⟩
     refine a6n 1 ?_
     simp (maxSteps:=1000000) +contextual -dsimp [f161,q0,hk,hka,hkd,gk,hkk,hkg,hw,q1,q4,q3,q8,g1,List.set]
   ·simp only [q1,q4,q3,Bool.false_eq_true,if_false,if_true] at h
    have hcm:D5 l c1.vars ks=-1∨D5 l c1.vars ks=-2∨D5 l c1.vars ks∈ks:=by
     clear h hn h24 hks gk hch gcx
     induction ks with
     | nil=>exact .inr (.inl rfl)
     | cons x r ih=>
      have ih:=ih (fun y hy=>hkm y (by simp [hy]))
      unfold D5 a5w
      split
      ·split
       ·exact .inl rfl
       ·split
        ·exact .inr (.inr (by simp))
        ·rcases ih with h | h | h
         ·exact .inl h
         ·exact .inr (.inl h)
         ·exact .inr (.inr (by simp [h]))
      ·exact .inr (.inr (by simp))
    have hch:=hch (by simpa [eqI] using q3)
    rw [e3] at hcm gcx h
    rcases hcm with q | q | q
    ·have q':b5g (D5 l c.vars ks)=-1:=by rw [q]; rfl
     rw [q] at h
     simp [eqI] at h
     subst h
     have gs:=c7g (l:=l) c1 hI1.acts hI1.dues (by omega) 3
     rw [q'] at gcx
     refine ⟨?_,hI1.stop 3⟩
     rw [hc1] at gs gcx ⊢
     simp only [aC,aC0,cO,cT,iS,RC,RC0,a0j,iE,List.map_set] at gs gcx ⊢
     have l1:ltI (-1) 0=true:=rfl
     refine a6n 1 ?_
     simp (maxSteps:=1000000) +contextual -dsimp [f161,q0,hk,hka,gk,hkk,q1,q4,q3,gcx,gs,l1,List.set]
    ·exact absurd q hch
    ·obtain ⟨y,hy,hyl⟩:=hkm _ q
     have q':b5g (D5 l c.vars ks)=y:=by rw [hy]; simp [b5g,eqI] <;> omega
     rw [hy] at h
     rw [if_neg (by simp [eqI] <;> omega),if_neg (by simp [eqI] <;> omega),Int.toNat_natCast] at h
     obtain ⟨g1,g2⟩:=g.ent hI1 hyl h
     rw [q'] at gcx
     refine ⟨?_,g2⟩
     rw [hc1] at g1 gcx
     simp only [aC,cO,cT,iS,RC,iE,List.map_set] at g1 gcx
     have l1:ltI (y:Int) 0=false:=B6 (by omega)
     refine a6n 1 ?_
     simp (maxSteps:=1000000) +contextual -dsimp [f161,q0,hk,hka,gk,hkk,q1,q4,q3,gcx,g1,l1,List.set]
  ·simp only [q1,q4,Bool.false_eq_true,if_false,if_true] at h
   obtain ⟨g1,g2⟩:=g2g w g ks h24 hkm ks 0 c1 c' rfl hI1 h
   refine ⟨?_,g2⟩
   rw [hc1] at g1
   simp only [cO,iE,List.map_set] at g1
   simp -dsimp [f161] at g1
   refine a6n (ks.length+1) ?_
   simp (maxSteps:=1000000) +contextual -dsimp [f161,q0,hk,hka,gk,hkk,q1,q4,g1,List.set]
 ·simp only [q1,if_true] at h
  have h1:A9 l k=1:=by simpa [eqI] using q1
  rw [h1] at hn
  obtain ⟨x,r,rfl⟩:∃ x r,ks=x::r:=by
   cases ks with
   | nil=>simp [N8,eqI,inR,A1,leI] at hn
   | cons x r=>exact ⟨x,r,rfl⟩
  obtain ⟨y,rfl,hyl⟩:=hkm x (by simp)
  have es:A4 ((y:Int)::r) 0=y:=rfl
  rw [es,Int.toNat_natCast] at h
  obtain ⟨g1,g2⟩:=g.ent hI1 hyl h
  rw [hc1] at g1
  simp only [aC,cO,RC,iE,List.map_set] at g1
  refine ⟨?_,g2⟩
  refine a6n 1 ?_
  simp (maxSteps:=1000000) +contextual -dsimp [f161,q0,hk,hka,gk,hkk,q1,g1,List.set]
end
section
variable {l:List Step}
theorem h2s (w:Wf l) {go} (g:GoOk4 l go) (k:Nat) (hk:k < l.length) (c c':Chart) (hI:Inv l c)
    (h:a9x go l k (a1l (L2 l k) c)=some c'):fo 165 [A (.sl 124 (l.map (sT 219))),aC c,A (vI k)]=some (RC c')∧Inv l c':=by
  have hl24:=w.ok.le
  have gi:=h2r w c hI.acts hI.dues k hk
  obtain ⟨c1,hc1⟩:∃ c1:Chart,c1=a1l (L2 l k) c:=⟨_,rfl⟩
  have hI1:Inv l c1:=by rw [hc1]; exact hI.idle _
  rw [← hc1] at gi h
  unfold a9x at h
  cases q0:eqI (k:Int) 0
  · rw [q0, if_neg (by simp)] at h
    have hk0 : 0 < k := by rcases Nat.eq_zero_or_pos k with e | e; · subst e; simp [eqI] at q0
                           · exact e
    obtain ⟨p,hp,hpk⟩:=w.par hk hk0
    have hpl:p < l.length:=by omega
    rw [hp,Int.toNat_natCast] at h
    have hp':(l[k]).parent=(p:Int):=by rw [← a9a hk]; exact hp
    have hp0:ltI (p:Int) 0=false:=B6 (by omega)
    have hkp:(l[p]).kind=A9 l p:=(a7l hpl).symm
    have ga:=g9g w k p hk hp
    have hka:k < c1.acts.length:=by rw [hI1.acts]; exact hk
    have hmem:=w.kid_of hk hp
    rw [f5t hmem] at ga
    unfold b6k at h
    have hal:∀ c2:Chart,Inv l c2→fo 230 [A (.sl 124 (l.map (sT 219))),A (.ipt (cT c2)),A (vI p)]=some (R (vB (A0 (V3 (a1w c2.acts) (A7 p 0 l))))):=fun c2 h2=>i1d w c2 h2.acts p
    generalize hks:A7 p 0 l=ks at *
    have hkm:∀ x,x∈ks→∃ a:Nat,x=a∧a < l.length:=fun x hx=>by
      rw [← hks] at hx
      obtain ⟨a,h1,h2,_⟩:=w.kid hx
      exact ⟨a,h1,h2⟩
    cases q1:eqI (A9 l p) 1
    · cases q4 : eqI (A9 l p) 4
      · simp only [q1, q4, Bool.false_eq_true, if_false] at h
        obtain ⟨g1,g2⟩:=g.ovr hI1 hpl h
        refine ⟨?_,g2⟩
        refine b2n 1 ?_
        simp (maxSteps:=1000000) +contextual -dsimp [f165,gi,hk,hp',hp0,hpl,hkp,q1,q4,g1,List.set]
      · simp only [q1, q4, Bool.false_eq_true, if_false, if_true] at h
        obtain ⟨c2,hc2⟩:∃ c2:Chart,c2={ c1 with acts:=c1.acts.set k 2 }:=⟨_,rfl⟩
        have hI2:Inv l c2:=by rw [hc2]; exact hI1.act k 2
        have ea:c2.acts=c1.acts.set k 2:=by rw [hc2]
        rw [← hc2,← ea] at h
        have gn:=hal c2 hI2
        cases q5:V3 (a1w c2.acts) ks
        · rw [q5] at h gn
          rw [c0d] at gn
          simp only [Bool.false_eq_true,if_false] at h
          obtain ⟨g1,g2⟩:=g.ovr hI2 hpl h
          refine ⟨?_,g2⟩
          rw [hc2] at gn g1
          simp only [aC,cO,cT,iS,RC,iE,List.map_set] at gn g1
          refine b2n 1 ?_
          simp (maxSteps:=1000000) +contextual -dsimp [f165,gi,hk,hka,hp',hp0,hpl,hkp,q1,q4,gn,g1,List.set]
        · rw [q5] at h gn
          rw [c0c] at gn
          simp only [if_true,Option.some.injEq] at h
          subst h
          refine ⟨?_,hI2⟩
          rw [hc2] at gn ⊢
          simp only [aC,cO,cT,iS,RC,iE,List.map_set] at gn ⊢
          refine b2n 1 ?_
          simp (maxSteps:=1000000) +contextual -dsimp [f165,gi,hk,hka,hp',hp0,hpl,hkp,q1,q4,gn,List.set]
    · simp only [q1, if_true] at h
      obtain ⟨j,e1,e2,e3⟩:=b4p hmem
      rw [e1] at h ga
      obtain ⟨j1,hj1⟩:∃ j1,j1=j+1:=⟨_,rfl⟩
      have hj2:(j:Int)+1=(j1:Int):=by omega
      rw [hj2] at h ga
      cases q2:ltI (j1:Int) ks.length
      · rw [q2, if_neg (by simp)] at h ga
        have l1:leI 0 (-1)=false:=rfl
        obtain ⟨g1,g2⟩:=g.ovr hI1 hpl h
        refine ⟨?_,g2⟩
        refine b2n 1 ?_
        simp (maxSteps:=1000000) +contextual -dsimp [f165,gi,hk,hp',hp0,hpl,hkp,q1,ga,l1,g1,List.set]
      · rw [q2, if_pos rfl] at h ga
        have hj:j1 < ks.length:=by simp [ltI] at q2; omega
        obtain ⟨y,hy,hyl⟩:=hkm _ (a7o hj)
        rw [hy] at ga h
        rw [Int.toNat_natCast] at h
        have l1:leI 0 (y:Int)=true:=i5y (by omega)
        obtain ⟨g1,g2⟩:=g.ent hI1 hyl h
        refine ⟨?_,g2⟩
        refine b2n 1 ?_
        simp (maxSteps:=1000000) +contextual -dsimp [f165,gi,hk,hp',hp0,hpl,hkp,q1,ga,l1,g1,List.set]
  · rw [q0, if_pos rfl] at h
    simp only [Option.some.injEq] at h
    subst h
    have hk0 : k = 0 := by have : (k : Int) = 0 := by simpa [eqI] using q0
                           omega
    subst hk0
    have hp':(l[0]).parent=-1:=w.ok.par0 hk
    have l1:ltI (-1) 0=true:=rfl
    have gs:=c7g (l:=l) c1 hI1.acts hI1.dues (by omega) 2
    have e0:((0:Nat):Int)=0:=rfl
    rw [e0] at gi ⊢
    refine ⟨?_,hI1.stop 2⟩
    refine b2n 1 ?_
    simp (maxSteps:=1000000) +contextual -dsimp [f165,gi,hk,hp',l1,gs,List.set]
theorem c7h (w:Wf l):∀ f,GoOk4 l (goC l f)
 | 0,_,_,_,_,_,_,h=>by simp [goC] at h
 | f+1,true,k,c,c',hI,hk,h=>by
  unfold goC at h
  exact g9h w (c7h w f) k hk c c' hI h
 | f+1,false,k,c,c',hI,hk,h=>by
  unfold goC at h
  exact h2s w (c7h w f) k hk c c' hI h
end
end Go.TM.Ft
