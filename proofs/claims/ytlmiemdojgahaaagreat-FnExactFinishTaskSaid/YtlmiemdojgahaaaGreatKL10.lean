/- What functions of the program come to, by the machine. -/
import Derived.Test.YtlmiemdojgahaaaGreatKL9
import Derived.Test.YtlmiemdojgahaaaGreatKL8
import Derived.Test.YtlmiemdojgahaaaGreatKL7
set_option linter.unusedSimpArgs false
set_option linter.unusedVariables false
set_option maxHeartbeats 8000000
namespace Go.TM.Ft
open Go Go.TM Go.Proofs Go.Proofs.Tryz
set_option maxRecDepth 20000
attribute [local congr] M0
attribute [local simp] K2 K6 J4 K3 H7 J9 H8 G9 J1 G3 a2h
def a5w (o:Option Int) (k d:Int):Int:=match o with | none=>-1 | some v=>if eqI v 1=true then k else d
def D5 (l:List Step) (vars:List Int):List Int→Int
 | []=>-2
 | k::r=>if ltI 0 (condOf l k.toNat).length=true then a5w (a3h (condOf l k.toNat) vars) k (D5 l vars r) else k
theorem Wf.condOf {l:List Step} (w:Wf l) {k:Nat} (hk:k < l.length) (h:ltI 0 (Ft.condOf l k).length=true):ExprOk (Ft.condOf l k):=by
 have e:Ft.condOf l k=(l[k]).cond:=by simp [Ft.condOf,hk]
 rw [e] at h ⊢
 refine w.cond (List.getElem_mem hk) fun hn=>?_
 rw [hn] at h; simp [ltI] at h
structure Inv (l:List Step) (c:Chart):Prop where
 vars:c.vars.length=4
 acts:c.acts.length=l.length
 dues:c.dues.length=l.length
 now0:0≤c.now
 now1:c.now≤1000000
 rng:∀ x,x∈c.vars→badV x=false
theorem g2a {l:List Step} (w:Wf l) (c:Chart) (hv:c.vars.length=4) (all:List Int) (hall:all.length≤24) (hks:∀ k,k∈all→∃ x:Nat,k=x∧x < l.length) (c':Chart):∀ (rest:List Int) (i:Nat),all.drop i=rest→
    (D5 l c.vars rest=-1→c'=a0j l 3 c)→(0≤D5 l c.vars rest→fo 171 [aB l c,A (vI (D5 l c.vars rest))]=some (RB l c'))→
    A6 E (orc E) (237:Nat) (rest.length+1) (A8 f237 0) ⟨46,[(0,.ptr 0 0 [] 0),(9,iS all),(10,vI all.length),(11,vI i)],[(0,⟨0,1,true,bO l c⟩)],2⟩=
    (if eqI (D5 l c.vars rest) (-2) = true then some (.exit 0, ⟨46, [(0, .ptr 0 0 [] 0), (9, iS all), (10, vI all.length), (11, vI (i + rest.length : Nat)), (12, vB false)], [(0, ⟨0, 1, true, bO l c⟩)], 2⟩)
     else some (.ret,⟨46,[(0,.ptr 0 0 [] 0)],[(0,⟨0,1,true,bO l c'⟩)],2⟩))
  | [],i,h,_,_=>by
    have hge:all.length≤i:=by simpa using h
    have hlt:ltI (i:Int) (all.length:Int)=false:=B6 (by omega)
    rw [C3]
    simp +contextual -dsimp [f237,hlt,D5,B7]
  | k::rest,i,h,h1,h2=>by
    obtain ⟨hi,hc,hr⟩:=C6 h
    obtain ⟨x,hx,hxl⟩:=hks k (by rw [← hc]; exact List.getElem_mem _)
    have hlt:=P7 hi
    have hw:=P1 hi (by omega)
    have he:i+1+rest.length=i+(rest.length+1):=by omega
    have ec:(l[x]).cond=condOf l x:=by simp [condOf,hxl]
    have hl24:=w.ok.le
    have hm:D5 l c.vars (k::rest)=(if ltI 0 (condOf l x).length=true then a5w (a3h (condOf l x) c.vars) k (D5 l c.vars rest) else k):=by
      conv=>lhs; unfold D5
      rw [hx,Int.toNat_natCast]
    have e11:eqI 1 1=true:=rfl
    have taken:D5 l c.vars (k::rest)=k→eqI (D5 l c.vars (k::rest)) (-2)=false∧fo 171 [aB l c,A (vI k)]=some (RB l c'):=fun e=>by
      rw [e]
      rw [e] at h2
      exact ⟨by simp [eqI]; omega,h2 (by omega)⟩
    cases q:ltI 0 (condOf l x).length
    · rw [q, if_neg (by simp)] at hm
      obtain ⟨t1,t2⟩:=taken hm
      rw [t1,if_neg (by simp)]
      refine D3 ?_ (by simp)
      rw [hx] at hc t2
      simp (maxSteps:=1000000) +contextual -dsimp [f237,hlt,hi,hc,hxl,ec,q,e11,t2]
    · have g := g1m (condOf l x) (w.condOf hxl q) c.vars hv
      rw [q,if_pos rfl] at hm
      cases ev:a3h (condOf l x) c.vars with
      | none=>
        rw [ev] at hm g
        simp only [RE] at g
        have t1:eqI (D5 l c.vars (k::rest)) (-2)=false:=by rw [hm]; rfl
        have t2:=h1 hm
        have g2:=c8o l (by omega) c 3
        rw [← t2] at g2
        rw [t1,if_neg (by simp)]
        refine D3 ?_ (by simp)
        rw [hx] at hc
        simp (maxSteps:=1000000) +contextual -dsimp [f237,hlt,hi,hc,hxl,ec,q,g,g2]
      | some v=>
        rw [ev] at hm g
        simp only [RE] at g
        cases q1:eqI v 1
        · have hm : D5 l c.vars (k :: rest) = D5 l c.vars rest := by simpa [q1, a5w] using hm
          rw [hm] at h1 h2 ⊢
          have ih:=g2a w c hv all hall hks c' rest (i+1) hr h1 h2
          rw [he] at ih
          refine C1 ?_ (by simpa only [List.length_cons] using ih)
          rw [hx] at hc
          simp (maxSteps:=1000000) +contextual -dsimp [f237,hlt,hi,hc,hw,hxl,ec,q,g,q1]
        · have hm : D5 l c.vars (k :: rest) = k := by simpa [q1, a5w] using hm
          obtain ⟨t1,t2⟩:=taken hm
          rw [t1,if_neg (by simp)]
          refine D3 ?_ (by simp)
          rw [hx] at hc t2
          simp (maxSteps:=1000000) +contextual -dsimp [f237,hlt,hi,hc,hxl,ec,q,g,q1,t2]
theorem h2q {l:List Step} (w:Wf l) (c:Chart) (hv:c.vars.length=4) (ks:List Int) (hall:ks.length≤24) (hks:∀ k,k∈ks→∃ x:Nat,k=x∧x < l.length) (c':Chart)
  (h0:D5 l c.vars ks=-2→c'=c) (h1:D5 l c.vars ks=-1→c'=a0j l 3 c) (h2:0≤D5 l c.vars ks→fo 171 [aB l c,A (vI (D5 l c.vars ks))]=some (RB l c')):
  fo 237 [aB l c,A (iS ks)]=some (RB l c'):=by
 have hlp:=g2a w c hv ks hall hks c' ks 0 rfl h1 h2
 refine h8x (ks.length+1) ?_
 simp -dsimp [f237] at hlp
 cases q:eqI (D5 l c.vars ks) (-2)
 ·rw [q] at hlp
  simp (maxSteps:=1000000) +contextual -dsimp [f237,hlp]
 ·rw [q] at hlp
  have e:=h0 (by simpa [eqI] using q)
  subst e
  simp (maxSteps:=1000000) +contextual -dsimp [f237,hlp]
def O2 (l:List Step) (k:Nat):Int:=match l[k]? with | some s=>s.arg | none=>0
def a5q (l:List Step) (k:Nat):List Node:=match l[k]? with | some s=>s.expr | none=>[]
def a3y (go:Bool→Nat→Chart→Option Chart):List Int→Chart→Option Chart
 | [],c=>some c
 | k::r,c=>match go true k.toNat c with | some c'=>a3y go r c' | none=>none
def a8r (go:Bool→Nat→Chart→Option Chart) (l:List Step) (k:Nat) (c:Chart):Option Chart:=
 if eqI (A9 l k) 1=true then go true (A4 (A7 k 0 l) 0).toNat c
 else if eqI (A9 l k) 4=true then a3y go (A7 k 0 l) c
 else if eqI (A9 l k) 3=true then (if eqI (D5 l c.vars (A7 k 0 l)) (-1)=true then some (a0j l 3 c) else if eqI (D5 l c.vars (A7 k 0 l)) (-2)=true then some c else go true (D5 l c.vars (A7 k 0 l)).toNat c)
 else if eqI (A9 l k) 8=true then go true (A4 (A7 k 0 l) 0).toNat { c with dues:=c.dues.set k (c.now+O2 l k) }
 else if eqI (A9 l k) 6=true then some { c with dues:=c.dues.set k (c.now+O2 l k) }
 else if eqI (A9 l k) 7=true then (match a3h (a5q l k) c.vars with | none=>some (a0j l 3 c) | some v=>go false k { c with vars:=c.vars.set (O2 l k).toNat v })
 else some c
def b6k (go:Bool→Nat→Chart→Option Chart) (l:List Step) (k p:Nat) (c:Chart):Option Chart:=
 if eqI (A9 l p) 1=true then
  (if ltI (a3m k (A7 p 0 l)+1) (A7 p 0 l).length=true then go true (A4 (A7 p 0 l) (a3m k (A7 p 0 l)+1)).toNat c else go false p c)
 else if eqI (A9 l p) 4=true then (if V3 (a1w (c.acts.set k 2)) (A7 p 0 l)=true then some { c with acts:=c.acts.set k 2 } else go false p { c with acts:=c.acts.set k 2 })
 else go false p c
def a9x (go:Bool→Nat→Chart→Option Chart) (l:List Step) (k:Nat) (c:Chart):Option Chart:=
 if eqI (k:Int) 0=true then some (a0j l 2 c) else b6k go l k (parOf l k).toNat c
def goC (l:List Step):Nat→Bool→Nat→Chart→Option Chart
 | 0,_,_,_=>none
 | f+1,true,k,c=>if eqI c.status 1=true then a8r (goC l f) l k { c with acts:=c.acts.set k 1 } else some c
 | f+1,false,k,c=>a9x (goC l f) l k (a1l (L2 l k) c)
theorem Inv.stop {l:List Step} {c:Chart} (h:Inv l c) (st:Int):Inv l (a0j l st c):=⟨h.vars,by simp [a0j],by simp [a0j],h.now0,h.now1,h.rng⟩
theorem Inv.idle {l:List Step} {c:Chart} (h:Inv l c) (ks:List Int):Inv l (a1l ks c):=⟨h.vars,by simp [a1l,c7s,h.acts],by simp [a1l,c7s,h.dues],h.now0,h.now1,h.rng⟩
theorem Inv.act {l:List Step} {c:Chart} (h:Inv l c) (k:Nat) (x:Int):Inv l { c with acts:=c.acts.set k x }:=⟨h.vars,by simp [h.acts],h.dues,h.now0,h.now1,h.rng⟩
theorem Inv.due {l:List Step} {c:Chart} (h:Inv l c) (k:Nat) (x:Int):Inv l { c with dues:=c.dues.set k x }:=⟨h.vars,h.acts,by simp [h.dues],h.now0,h.now1,h.rng⟩
theorem Inv.var {l:List Step} {c:Chart} (h:Inv l c) (k:Nat) {x:Int} (hx:badV x=false):Inv l { c with vars:=c.vars.set k x }:=⟨by simp [h.vars],h.acts,h.dues,h.now0,h.now1,fun y hy=>by
 rcases List.mem_or_eq_of_mem_set hy with h1 | h1
 ·exact h.rng y h1
 ·rw [h1]; exact hx⟩
section
variable {l:List Step}
theorem Wf.kidsN (w:Wf l) {k:Nat} (hk:k < l.length):inR (A7 k 0 l).length (N8 (A9 l k)).1 (N8 (A9 l k)).2=true:=by
 have hc:=w.ok.cond k hk
 unfold condFaultM at hc
 have hcode:b0k l k=0:=by
  split at hc
  ·exact hc
  ·rename_i c
   simp [orB,A0,eqI] at c
   exact c.1
 have:=(O1 hcode).1
 cases h:inR (A7 k 0 l).length (N8 (A9 l k)).1 (N8 (A9 l k)).2
 ·rw [h] at this; simp [A0] at this
 ·rfl
theorem Wf.kid (w:Wf l) {p:Nat} {x:Int} (hx:x∈A7 p 0 l):∃ a:Nat,x=a∧a < l.length∧p < a∧parOf l a=p:=by
 rw [a5e w.ok] at hx
 obtain ⟨a,ha,h1,h2⟩:=b4u.1 hx
 rw [Nat.zero_add] at h1
 refine ⟨a,h1,ha,?_,by rw [a9a ha]; exact h2⟩
 rcases Nat.eq_zero_or_pos a with h | h
 ·subst h
  have:=w.ok.par0 ha
  omega
 ·obtain ⟨q,h3,h4⟩:=w.ok.par a ha h
  omega
theorem Wf.kid_of (w:Wf l) {p k:Nat} (hk:k < l.length) (hp:parOf l k=p):(k:Int)∈A7 p 0 l:=by
 rw [a5e w.ok]
 exact b4u.2 ⟨k,hk,by simp,by rw [← a9a hk]; exact hp⟩
theorem Wf.kids24 (w:Wf l) (p:Nat):(A7 p 0 l).length≤24:=by
 have:=c5h p l 0
 have:=w.ok.le
 omega
theorem a7o {ks:List Int} {n:Nat} (h:n < ks.length):A4 ks (n:Int)∈ks:=by rw [K8 h]; exact List.getElem_mem h
theorem Wf.arg (w:Wf l) {k:Nat} (hk:k < l.length) (h:A9 l k=6∨A9 l k=8):1≤O2 l k∧O2 l k≤99:=by
 have p:=(b4w (w.at hk)).2.2.2.2.2.2.1
 rw [a7l hk] at h
 have e:O2 l k=(l[k]).arg:=by simp [O2,hk]
 rw [e]
 rcases h with h | h <;> rw [h] at p <;> simp [W6,eqI,inR,A1,leI] at p <;> exact p
def GoOk (l:List Step) (go:Bool→Nat→Chart→Option Chart):Prop:=
 ∀ b k c c',Inv l c→k < l.length→go b k c=some c'→fo (if b=true then 171 else 193) [aB l c,A (vI k)]=some (RB l c')∧Inv l c'
theorem GoOk.ent {go} (g:GoOk l go) {k:Nat} {c c':Chart} (h:Inv l c) (hk:k < l.length) (hc:go true k c=some c'):fo 171 [aB l c,A (vI k)]=some (RB l c')∧Inv l c':=g true k c c' h hk hc
theorem GoOk.ovr {go} (g:GoOk l go) {k:Nat} {c c':Chart} (h:Inv l c) (hk:k < l.length) (hc:go false k c=some c'):fo 193 [aB l c,A (vI k)]=some (RB l c')∧Inv l c':=g false k c c' h hk hc
theorem g2b (w:Wf l) {go} (g:GoOk l go) (all:List Int) (hall:all.length≤24) (hks:∀ k,k∈all→∃ x:Nat,k=x∧x < l.length):∀ (rest:List Int) (i:Nat) (c c':Chart),all.drop i=rest→Inv l c→a3y go rest c=some c'→
  A6 E (orc E) (171:Nat) (rest.length+1) (A8 f171 0) ⟨130,[(0,.ptr 0 0 [] 0),(47,iS all),(48,vI all.length),(49,vI i)],[(0,⟨0,1,true,bO l c⟩)],2⟩=
  some (.exit 1,⟨130,[(0,.ptr 0 0 [] 0),(47,iS all),(48,vI all.length),(49,vI (i+rest.length:Nat)),(50,vB false)],[(0,⟨0,1,true,bO l c'⟩)],2⟩)∧Inv l c'
 | [],i,c,c',h,hI,hg=>by
  have hge:all.length≤i:=by simpa using h
  have hlt:ltI (i:Int) (all.length:Int)=false:=B6 (by omega)
  simp only [a3y,Option.some.injEq] at hg; subst hg
  refine ⟨?_,hI⟩
  rw [C3]
  simp +contextual -dsimp [f171,hlt]
 | k::rest,i,c,c',h,hI,hg=>by
  obtain ⟨hi,hc,hr⟩:=C6 h
  obtain ⟨x,hx,hxl⟩:=hks k (by rw [← hc]; exact List.getElem_mem _)
  have hlt:=P7 hi
  have hw:=P1 hi (by omega)
  have he:i+1+rest.length=i+(rest.length+1):=by omega
  unfold a3y at hg
  rw [hx,Int.toNat_natCast] at hg
  cases q:go true x c with
  | none=>rw [q] at hg; simp at hg
  | some c1=>
   rw [q] at hg
   obtain ⟨g1,g2⟩:=g.ent hI hxl q
   obtain ⟨ih,hI'⟩:=g2b w g all hall hks rest (i+1) c1 c' hr g2 hg
   rw [he] at ih
   refine ⟨C1 ?_ (by simpa only [List.length_cons] using ih),hI'⟩
   rw [hx] at hc
   simp (maxSteps:=1000000) +contextual -dsimp [f171,hlt,hi,hc,hw,g1]
theorem i1b (w:Wf l) {go} (g:GoOk l go) (k:Nat) (hk:k < l.length) (c c':Chart) (hI:Inv l c)
  (h:(if eqI c.status 1=true then a8r go l k { c with acts:=c.acts.set k 1 } else some c)=some c'):fo 171 [aB l c,A (vI k)]=some (RB l c')∧Inv l c':=by
 have hl24:=w.ok.le
 cases q0:eqI c.status 1
 ·rw [q0,if_neg (by simp)] at h
  simp only [Option.some.injEq] at h; subst h
  refine ⟨?_,hI⟩
  refine a7u 1 ?_
  simp (maxSteps:=1000000) +contextual -dsimp [f171,q0]
 rw [q0,if_pos rfl] at h
 have gk:=b5x l (by omega) k
 have hka:k < c.acts.length:=by rw [hI.acts]; exact hk
 have hkd:k < c.dues.length:=by rw [hI.dues]; exact hk
 have hkk:(l[k]).kind=A9 l k:=(a7l hk).symm
 have hkg:(l[k]).arg=O2 l k:=by simp [O2,hk]
 have hkx:(l[k]).expr=a5q l k:=by simp [a5q,hk]
 have hn:=w.kidsN hk
 have h24:=w.kids24 k
 obtain ⟨c1,hc1⟩:∃ c1:Chart,c1={ c with acts:=c.acts.set k 1 }:=⟨_,rfl⟩
 have hI1:Inv l c1:=by rw [hc1]; exact hI.act k 1
 have e1:c1.status=c.status:=by rw [hc1]
 have e2:c1.now=c.now:=by rw [hc1]
 have e3:c1.vars=c.vars:=by rw [hc1]
 have e4:c1.acts=c.acts.set k 1:=by rw [hc1]
 have e5:c1.dues=c.dues:=by rw [hc1]
 rw [← hc1] at h
 generalize hks:A7 k 0 l=ks at *
 have hkm:∀ x,x∈ks→∃ a:Nat,x=a∧a < l.length:=fun x hx=>by
  rw [← hks] at hx
  obtain ⟨a,h1,h2,_⟩:=w.kid hx
  exact ⟨a,h1,h2⟩
 unfold a8r at h
 rw [hks] at h
 cases q1:eqI (A9 l k) 1
 ·cases q4:eqI (A9 l k) 4
  ·cases q3:eqI (A9 l k) 3
   ·cases q8:eqI (A9 l k) 8
    ·cases q6:eqI (A9 l k) 6
     ·cases q7:eqI (A9 l k) 7
      ·simp only [q1,q4,q3,q8,q6,q7,Bool.false_eq_true,if_false,Option.some.injEq] at h
       subst h
       refine ⟨?_,hI1⟩
       refine a7u 1 ?_
       simp (maxSteps:=1000000) +contextual -dsimp [f171,q0,hk,hka,gk,hkk,q1,q4,q3,q8,q6,q7,e1,e2,e3,e4,e5,List.set]
      ·simp only [q1,q4,q3,q8,q6,q7,Bool.false_eq_true,if_false,if_true] at h
       have h7:(l[k]).kind=7:=by rw [hkk]; simpa [eqI] using q7
       obtain ⟨okx,a0,a3⟩:=w.expr hk h7
       rw [hkx] at okx
       rw [hkg] at a0 a3
       obtain ⟨m,hm⟩:=Int.eq_ofNat_of_zero_le a0
       have hml:m < c.vars.length:=by rw [hI.vars]; omega
       have ge:=g1m (a5q l k) okx c.vars hI.vars
       rw [e3] at h
       cases ev:a3h (a5q l k) c.vars with
       | none=>
        rw [ev] at h ge
        simp only [RE] at ge
        simp only [Option.some.injEq] at h
        have gs:=c8o l (by omega) c1 3
        subst h
        refine ⟨?_,hI1.stop 3⟩
        rw [hc1] at gs ⊢
        simp only [aB,bO,RB,a0j,iE,List.map_set] at gs ⊢
        refine a7u 1 ?_
        simp (maxSteps:=1000000) +contextual -dsimp [f171,q0,hk,hka,gk,hkk,hkx,q1,q4,q3,q8,q6,q7,ge,gs,List.set]
       | some v=>
        rw [ev] at h ge
        simp only [RE] at ge
        simp only [hm,Int.toNat_natCast] at h
        obtain ⟨g1,g2⟩:=g.ovr (hI1.var m (c3s okx ev)) hk (by rw [e3]; exact h)
        rw [hc1] at g1
        simp only [aB,bO,RB,iE,List.map_set] at g1
        refine ⟨?_,g2⟩
        refine a7u 1 ?_
        simp (maxSteps:=1000000) +contextual -dsimp [f171,q0,hk,hka,gk,hkk,hkx,hkg,hm,hml,q1,q4,q3,q8,q6,q7,ge,g1,List.set]
     ·simp only [q1,q4,q3,q8,q6,Bool.false_eq_true,if_false,if_true,Option.some.injEq] at h
      obtain ⟨a1,a2⟩:=w.arg hk (.inl (by simpa [eqI] using q6))
      have hw:IntKind.i64.wrap (c.now+O2 l k)=c.now+O2 l k:=by have:=hI.now0; have:=hI.now1; rw [A5] <;> omega
      subst h
      refine ⟨?_,by simpa only [e5,e2] using hI1.due k (c.now+O2 l k)⟩
      refine a7u 1 ?_
      simp (maxSteps:=1000000) +contextual -dsimp [f171,q0,hk,hka,hkd,gk,hkk,hkg,hw,q1,q4,q3,q8,q6,e1,e2,e3,e4,e5,List.set]
    ·simp only [q1,q4,q3,q8,Bool.false_eq_true,if_false,if_true] at h
     have h8:A9 l k=8:=by simpa [eqI] using q8
     obtain ⟨a1,a2⟩:=w.arg hk (.inr h8)
     have hw:IntKind.i64.wrap (c.now+O2 l k)=c.now+O2 l k:=by have:=hI.now0; have:=hI.now1; rw [A5] <;> omega
     rw [h8] at hn
     obtain ⟨x,r,rfl⟩:∃ x r,ks=x::r:=by
      cases ks with
      | nil=>simp [N8,eqI,inR,A1,leI] at hn
      | cons x r=>exact ⟨x,r,rfl⟩
     obtain ⟨y,rfl,hyl⟩:=hkm x (by simp)
     have es:A4 ((y:Int)::r) 0=y:=rfl
     rw [es,Int.toNat_natCast] at h
     obtain ⟨g1,g2⟩:=g.ent (hI1.due k (c1.now+O2 l k)) hyl h
     rw [hc1] at g1
     simp only [aB,bO,RB,iE,List.map_set] at g1
     refine ⟨?_,g2⟩
     refine a7u 1 ?_
     simp (maxSteps:=1000000) +contextual -dsimp [f171,q0,hk,hka,hkd,gk,hkk,hkg,hw,q1,q4,q3,q8,g1,List.set]
   ·simp only [q1,q4,q3,Bool.false_eq_true,if_false,if_true] at h
    have hcm:D5 l c1.vars ks=-1∨D5 l c1.vars ks=-2∨D5 l c1.vars ks∈ks:=by
     clear h hn h24 hks gk
     induction ks with
     | nil=>exact .inr (.inl rfl)
     | cons x r ih=>
      have ih:=ih (fun y hy=>hkm y (by simp [hy]))
      unfold D5 a5w
      split
      ·split
       ·exact .inl rfl
       ·split
        ·exact .inr (.inr (by simp))
        ·rcases ih with h | h | h
         ·exact .inl h
         ·exact .inr (.inl h)
         ·exact .inr (.inr (by simp [h]))
      ·exact .inr (.inr (by simp))
    have key:(D5 l c1.vars ks=-2→c'=c1)∧(D5 l c1.vars ks=-1→c'=a0j l 3 c1)∧(0≤D5 l c1.vars ks→fo 171 [aB l c1,A (vI (D5 l c1.vars ks))]=some (RB l c'))∧Inv l c':=by
     rcases hcm with q | q | q
     ·rw [q] at h ⊢
      simp [eqI] at h
      subst h
      exact ⟨fun h=>absurd h (by omega),fun _=>rfl,fun h=>absurd h (by omega),hI1.stop 3⟩
     ·rw [q] at h ⊢
      simp [eqI] at h
      subst h
      exact ⟨fun _=>rfl,fun h=>absurd h (by omega),fun h=>absurd h (by omega),hI1⟩
     ·obtain ⟨y,hy,hyl⟩:=hkm _ q
      rw [hy] at h ⊢
      rw [if_neg (by simp [eqI] <;> omega),if_neg (by simp [eqI] <;> omega),Int.toNat_natCast] at h
      obtain ⟨g1,g2⟩:=g.ent hI1 hyl h
      exact ⟨fun h=>absurd h (by omega),fun h=>absurd h (by omega),fun _=>g1,g2⟩
    obtain ⟨k0,k1,k2,k3⟩:=key
    have gc:=h2q w c1 hI1.vars ks h24 hkm c' k0 k1 k2
    rw [hc1] at gc
    simp only [aB,bO,RB,iE,List.map_set] at gc
    refine ⟨?_,k3⟩
    refine a7u 1 ?_
    simp (maxSteps:=1000000) +contextual -dsimp [f171,q0,hk,hka,gk,hkk,q1,q4,q3,gc,List.set]
  ·simp only [q1,q4,Bool.false_eq_true,if_false,if_true] at h
   obtain ⟨g1,g2⟩:=g2b w g ks h24 hkm ks 0 c1 c' rfl hI1 h
   refine ⟨?_,g2⟩
   rw [hc1] at g1
   simp only [bO,iE,List.map_set] at g1
   simp -dsimp [f171] at g1
   refine a7u (ks.length+1) ?_
   simp (maxSteps:=1000000) +contextual -dsimp [f171,q0,hk,hka,gk,hkk,q1,q4,g1,List.set]
 ·simp only [q1,if_true] at h
  have h1:A9 l k=1:=by simpa [eqI] using q1
  rw [h1] at hn
  obtain ⟨x,r,rfl⟩:∃ x r,ks=x::r:=by
   cases ks with
   | nil=>simp [N8,eqI,inR,A1,leI] at hn
   | cons x r=>exact ⟨x,r,rfl⟩
  obtain ⟨y,rfl,hyl⟩:=hkm x (by simp)
  have es:A4 ((y:Int)::r) 0=y:=rfl
  rw [es,Int.toNat_natCast] at h
  obtain ⟨g1,g2⟩:=g.ent hI1 hyl h
  rw [hc1] at g1
  simp only [aB,bO,RB,iE,List.map_set] at g1
  refine ⟨?_,g2⟩
  refine a7u 1 ?_
  simp (maxSteps:=1000000) +contextual -dsimp [f171,q0,hk,hka,gk,hkk,q1,g1,List.set]
end
theorem d4n {p:Int→Bool}:∀ {l:List Int} {i:Nat},(∃ x,x∈l∧p x=true)→∃ j:Nat,D2 p i l=(i+j:Nat)∧j < l.length∧p (A4 l j)=true
 | [],i,h=>by obtain ⟨x,hx,_⟩:=h; simp at hx
 | y::l,i,h=>by
  unfold D2
  cases c:p y
  ·have h2:∃ x,x∈l∧p x=true:=by
    obtain ⟨x,hx,hp⟩:=h
    rcases List.mem_cons.1 hx with rfl | hx
    ·rw [c] at hp; simp at hp
    ·exact ⟨x,hx,hp⟩
   obtain ⟨j,h3,h4,h5⟩:=d4n (i:=i+1) h2
   refine ⟨j+1,by simp; rw [h3]; omega,by simp; omega,?_⟩
   rw [K8 (by simp; omega)]
   rw [K8 h4] at h5
   simpa using h5
  ·exact ⟨0,by simp,by simp,by rw [K8 (by simp)]; simpa using c⟩
theorem b4p {v:Int} {l:List Int} (h:v∈l):∃ j:Nat,a3m v l=j∧j < l.length∧A4 l j=v:=by
 obtain ⟨j,h1,h2,h3⟩:=d4n (p:=fun x=>eqI v x) (i:=0) ⟨v,h,by simp [eqI]⟩
 rw [Nat.zero_add] at h1
 refine ⟨j,h1,h2,?_⟩
 have:v=A4 l j:=by simpa [eqI] using h3
 exact this.symm
theorem a5d (l:List Int) (k:Nat) (x:Int):L5 ((iE l).set k [vI x])=(iE l).set k [vI x]:=by
 have:(iE l).set k [vI x]=iE (l.set k x):=by simp [iE]
 rw [this]; exact a2h _
attribute [local simp] a5d
section
variable {l:List Step}
theorem i4j (w:Wf l) {go} (g:GoOk l go) (k:Nat) (hk:k < l.length) (c c':Chart) (hI:Inv l c)
    (h:a9x go l k (a1l (L2 l k) c)=some c'):fo 193 [aB l c,A (vI k)]=some (RB l c')∧Inv l c':=by
  have hl24:=w.ok.le
  have gi:=i5k w c hI.acts hI.dues k hk
  obtain ⟨c1,hc1⟩:∃ c1:Chart,c1=a1l (L2 l k) c:=⟨_,rfl⟩
  have hI1:Inv l c1:=by rw [hc1]; exact hI.idle _
  rw [← hc1] at gi h
  unfold a9x at h
  cases q0:eqI (k:Int) 0
  · rw [q0, if_neg (by simp)] at h
    have hk0 : 0 < k := by rcases Nat.eq_zero_or_pos k with e | e; · subst e; simp [eqI] at q0
                           · exact e
    obtain ⟨p,hp,hpk⟩:=w.par hk hk0
    have hpl:p < l.length:=by omega
    rw [hp,Int.toNat_natCast] at h
    have hp':(l[k]).parent=(p:Int):=by rw [← a9a hk]; exact hp
    have hkp:(l[p]).kind=A9 l p:=(a7l hpl).symm
    have gk:=b5x l (by omega) p
    have hka:k < c1.acts.length:=by rw [hI1.acts]; exact hk
    have h24:=w.kids24 p
    have hmem:=w.kid_of hk hp
    unfold b6k at h
    generalize hks:A7 p 0 l=ks at *
    have hkm:∀ x,x∈ks→∃ a:Nat,x=a∧a < l.length:=fun x hx=>by
      rw [← hks] at hx
      obtain ⟨a,h1,h2,_⟩:=w.kid hx
      exact ⟨a,h1,h2⟩
    cases q1:eqI (A9 l p) 1
    · cases q4 : eqI (A9 l p) 4
      · simp only [q1, q4, Bool.false_eq_true, if_false] at h
        obtain ⟨g1,g2⟩:=g.ovr hI1 hpl h
        refine ⟨?_,g2⟩
        refine b2o 1 ?_
        simp (maxSteps:=1000000) +contextual -dsimp [f193,gi,q0,hk,hp',hpl,hkp,gk,q1,q4,g1,List.set]
      · simp only [q1, q4, Bool.false_eq_true, if_false, if_true] at h
        obtain ⟨c2,hc2⟩:∃ c2:Chart,c2={ c1 with acts:=c1.acts.set k 2 }:=⟨_,rfl⟩
        have hI2:Inv l c2:=by rw [hc2]; exact hI1.act k 2
        have ea:c2.acts=c1.acts.set k 2:=by rw [hc2]
        rw [← hc2,← ea] at h
        have gn:=h1k (g:=249) (cap:=[.ipt (bT l c2)]) (by simp) (a1w c2.acts) ks (by omega) (fun x hx=>by
          obtain ⟨a,rfl,ha⟩:=hkm x hx
          exact h1j l c2 a (by rw [hI2.acts]; exact ha))
        cases q5:V3 (a1w c2.acts) ks
        · rw [q5] at h gn
          simp only [Bool.false_eq_true,if_false] at h
          obtain ⟨g1,g2⟩:=g.ovr hI2 hpl h
          refine ⟨?_,g2⟩
          rw [hc2] at gn g1
          simp only [aB,bO,bT,iS,RB,iE,List.map_set] at gn g1
          refine b2o 1 ?_
          simp (maxSteps:=1000000) +contextual -dsimp [f193,gi,q0,hk,hka,hp',hpl,hkp,gk,q1,q4,gn,g1,List.set]
        · rw [q5] at h gn
          simp only [if_true,Option.some.injEq] at h
          subst h
          refine ⟨?_,hI2⟩
          rw [hc2] at gn ⊢
          simp only [aB,bO,bT,iS,RB,iE,List.map_set] at gn ⊢
          refine b2o 1 ?_
          simp (maxSteps:=1000000) +contextual -dsimp [f193,gi,q0,hk,hka,hp',hpl,hkp,gk,q1,q4,gn,List.set]
    · simp only [q1, if_true] at h
      have gx:=i1y ks (by omega) k
      obtain ⟨j,e1,e2,e3⟩:=b4p hmem
      rw [e1] at h gx
      obtain ⟨j1,hj1⟩:∃ j1,j1=j+1:=⟨_,rfl⟩
      have hw:IntKind.i64.wrap ((j:Int)+1)=(j1:Int):=by rw [A5] <;> omega
      have hj2:(j:Int)+1=(j1:Int):=by omega
      rw [hj2] at h
      cases q2:ltI (j1:Int) ks.length
      · rw [q2, if_neg (by simp)] at h
        obtain ⟨g1,g2⟩:=g.ovr hI1 hpl h
        refine ⟨?_,g2⟩
        refine b2o 1 ?_
        simp (maxSteps:=1000000) +contextual -dsimp [f193,gi,q0,hk,hp',hpl,hkp,gk,q1,gx,hw,q2,g1,List.set]
      · rw [q2, if_pos rfl] at h
        have hj:j1 < ks.length:=by simp [ltI] at q2; omega
        obtain ⟨y,hy,hyl⟩:=hkm _ (a7o hj)
        have hy2:ks[j1]=(y:Int):=by rw [← K8 hj]; exact hy
        rw [hy,Int.toNat_natCast] at h
        obtain ⟨g1,g2⟩:=g.ent hI1 hyl h
        refine ⟨?_,g2⟩
        refine b2o 1 ?_
        simp (maxSteps:=1000000) +contextual -dsimp [f193,gi,q0,hk,hp',hpl,hkp,gk,q1,gx,hw,q2,hj,hy2,g1,List.set]
  · rw [q0, if_pos rfl] at h
    simp only [Option.some.injEq] at h
    subst h
    have gs:=c8o l (by omega) c1 2
    refine ⟨?_,hI1.stop 2⟩
    refine b2o 1 ?_
    simp (maxSteps:=1000000) +contextual -dsimp [f193,gi,q0,gs,List.set]
theorem b9s (w:Wf l):∀ f,GoOk l (goC l f)
 | 0,_,_,_,_,_,_,h=>by simp [goC] at h
 | f+1,true,k,c,c',hI,hk,h=>by
  unfold goC at h
  exact i1b w (b9s w f) k hk c c' hI h
 | f+1,false,k,c,c',hI,hk,h=>by
  unfold goC at h
  exact i4j w (b9s w f) k hk c c' hI h
end
attribute [local simp] a5d f6q
theorem e0k (b:Bool):fo 297 [A (vB b)]=some (R (vI (ci b 1))):=by
 refine i0o 1 ?_
 cases b <;> simp (maxSteps:=1000000) +contextual -dsimp [f297,ci]
def a4w (k a b:Int):Int × Bool:=if O0 k b=true then (0,false) else (N9 k a b,A0 (badV (N9 k a b)))
theorem i1c (k a b:Int) (ha1:-1000000≤a) (ha2:a≤1000000) (hb1:-1000000≤b) (hb2:b≤1000000):
  fo 271 [A (vI k),A (vI a),A (vI b)]=some (R2 (vI (a4w k a b).1) (vB (a4w k a b).2)):=by
 have hm:=g1l ha1 ha2 hb1 hb2
 have hd:=f6r (b:=b) ha1 ha2
 have w1:IntKind.i64.wrap (a+b)=a+b:=by rw [A5] <;> omega
 have w2:IntKind.i64.wrap (a - b)=a - b:=by rw [A5] <;> omega
 have w3:IntKind.i64.wrap (a*b)=a*b:=by rw [A5] <;> omega
 have w4:IntKind.i64.wrap (Int.tdiv a b)=Int.tdiv a b:=by rw [A5] <;> omega
 have w5:IntKind.i64.wrap (1 - a)=1 - a:=by rw [A5] <;> omega
 have hn:∀ v,A0 (badV v)=inR v (-1000000) 1000000:=fun v=>by simp [badV,A0]
 refine h9x 1 ?_
 by_cases h3:k=3
 ·subst h3
  simp (maxSteps:=1000000) +contextual -dsimp [f271,w1,a4w,O0,N9,hn,C8,B7,show eqI 3 6=false from rfl,A1]
 by_cases h4:k=4
 ·subst h4
  simp (maxSteps:=1000000) +contextual -dsimp [f271,w2,a4w,O0,N9,hn,C8,B7,show eqI 4 6=false from rfl,show eqI 4 3=false from rfl,A1]
 by_cases h5:k=5
 ·subst h5
  simp (maxSteps:=1000000) +contextual -dsimp [f271,w3,a4w,O0,N9,hn,C8,B7,show eqI 5 6=false from rfl,show eqI 5 3=false from rfl,show eqI 5 4=false from rfl,A1]
 by_cases h6:k=6
 ·subst h6
  by_cases hb:b=0
  ·subst hb
   simp (maxSteps:=1000000) +contextual -dsimp [f271,a4w,O0,B7,show eqI 6 3=false from rfl,show eqI 6 4=false from rfl,show eqI 6 5=false from rfl,A1]
  ·have q:=c7r Tryz.prog 2 (.tmp 31) (.tmp 32) a b hb
   have hb':eqI b 0=false:=by simp [eqI,hb]
   simp (maxSteps:=1000000) +contextual -dsimp [f271,w4,q,hb',a4w,O0,N9,hn,C8,B7,show eqI 6 3=false from rfl,show eqI 6 4=false from rfl,show eqI 6 5=false from rfl,A1]
 by_cases h7:k=7
 ·subst h7
  simp (maxSteps:=1000000) +contextual -dsimp [f271,e0k,a4w,O0,N9,hn,C8,B7,show eqI 7 6=false from rfl,show eqI 7 3=false from rfl,show eqI 7 4=false from rfl,show eqI 7 5=false from rfl,A1]
 by_cases h8:k=8
 ·subst h8
  simp (maxSteps:=1000000) +contextual -dsimp [f271,e0k,a4w,O0,N9,hn,C8,B7,show eqI 8 6=false from rfl,show eqI 8 3=false from rfl,show eqI 8 4=false from rfl,show eqI 8 5=false from rfl,show eqI 8 7=false from rfl,A1]
 have f3:eqI k 3=false:=by simp [eqI,h3]
 have f4:eqI k 4=false:=by simp [eqI,h4]
 have f5:eqI k 5=false:=by simp [eqI,h5]
 have f6:eqI k 6=false:=by simp [eqI,h6]
 have f7:eqI k 7=false:=by simp [eqI,h7]
 have f8:eqI k 8=false:=by simp [eqI,h8]
 cases q9:eqI k 9
 ·simp (maxSteps:=1000000) +contextual -dsimp [f271,w5,a4w,O0,N9,hn,C8,f3,f4,f5,f6,f7,f8,q9,A1]
 ·simp (maxSteps:=1000000) +contextual -dsimp [f271,w3,a4w,O0,N9,hn,C8,f3,f4,f5,f6,f7,f8,q9,A1]
abbrev c0m (l:List Node) (vars:List Int) (i:Nat) (acc:List Int):St:=
 ⟨65,[(0,nS 219 l),(1,iS vars),(6,.ref 6 1 [] 0 acc.length),(7,vI i)],[(6,⟨1,1,false,[.own 2 (iE acc)]⟩)],2⟩
theorem i5z (l:List Node) (ok:ExprOk l) (vars:List Int) (hv:vars.length=4) (hr:∀ x,x∈vars→badV x=false):
  b1o 0 (fun acc=>⟨65,[(0,nS 219 l),(1,iS vars),(6,.ref 6 1 [] 0 acc.length),(7,vI l.length),(16,vB false)],[(6,⟨1,1,false,[.own 2 (iE acc)]⟩)],2⟩)
   (fun _ st=>∃ rt,st=⟨65,[(4,vI 0),(5,vB false)],rt,2⟩) (A6 E (orc E) (227:Nat) (l.length+1) (A8 f227 0) (c0m l vars 0 [])) (O4 (evG vars) 0 [] l):=by
 have hle:=ok.le
 have h:=b4v (f:=227) (id:=0) (code:=A8 f227 0) l (Vals l) (c0m l vars) (evG vars) (fun acc=>⟨65,[(0,nS 219 l),(1,iS vars),(6,.ref 6 1 [] 0 acc.length),(7,vI l.length),(16,vB false)],[(6,⟨1,1,false,[.own 2 (iE acc)]⟩)],2⟩)
  (fun _ st=>∃ rt,st=⟨65,[(4,vI 0),(5,vB false)],rt,2⟩)
 refine h ?_ ?_ l 0 [] rfl (Nat.zero_le _) ⟨rfl,fun k h=>by simp at h,fun k h=>by simp at h⟩
 ·intro k s _
  have hlt:=a2m l.length
  simp +contextual -dsimp [f227,hlt]
 ·intro k i acc hi hI
  have hn:l[i]?=some l[i]:=List.getElem?_eq_getElem hi
  have hal:=hI.len
  have hlt:=P7 hi
  have hw:=P1 hi (by omega)
  have hm1:acc.length+1≤C2:=by unfold C2; omega
  unfold evG b9c
  generalize hc:l[i]=n at *
  have nk:=b7f (ok.node i n hn)
  have nx:badV (Q9 vars acc n)=false→Vals l (i+1) (acc++[Q9 vars acc n]):=fun hb=>by
   have:=hI.next ok hi (vars:=vars)
   rw [hc] at this
   exact this hb
  generalize hnv:Q9 vars acc n=v at *
  by_cases k1:n.kind=1
  ·have ev:v=n.value:=by rw [← hnv]; simp [Q9,k1,eqI]
   have ez:O0 n.kind (A4 acc n.right)=false:=by simp [O0,k1,eqI,A1]
   rw [← ev] at nk
   cases hb:badV v
   ·refine ⟨fun s' hs=>?_,fun e he=>by simp [ez,hb,orB] at he⟩
    simp [ez,hb,orB] at hs
    subst hs
    refine ⟨?_,nx hb⟩
    simp (maxSteps:=1000000) +contextual -dsimp [f227,hlt,hi,hc,hw,hm1,k1,← ev,show eqI 1 2=false from rfl,show ltI 2 1=false from rfl,List.set]
   ·exfalso
    simp [badV,A0,inR,A1,leI] at hb
    omega
  by_cases k2:n.kind=2
  ·obtain ⟨m,hm⟩:=Int.eq_ofNat_of_zero_le (show 0≤n.value by omega)
   have hml:m < vars.length:=by omega
   have ev:v=vars[m]:=by rw [← hnv]; unfold Q9; rw [if_neg (by simp [k2,eqI]),if_pos (by simp [k2,eqI]),hm,K8 hml]
   have ez:O0 n.kind (A4 acc n.right)=false:=by simp [O0,k2,eqI,A1]
   have hb:badV v=false:=by rw [ev]; exact hr _ (List.getElem_mem _)
   refine ⟨fun s' hs=>?_,fun e he=>by simp [ez,hb,orB] at he⟩
   simp [ez,hb,orB] at hs
   subst hs
   refine ⟨?_,nx hb⟩
   simp (maxSteps:=1000000) +contextual -dsimp [f227,hlt,hi,hc,hw,hm1,k2,hm,hml,← ev,B7,show ltI 2 2=false from rfl,List.set]
  have k3:2 < n.kind:=by omega
  obtain ⟨a,ha⟩:=Int.eq_ofNat_of_zero_le (show 0≤n.left by omega)
  obtain ⟨b,hb⟩:=Int.eq_ofNat_of_zero_le (show 0≤n.right by omega)
  have hal2:a < acc.length:=by omega
  have hbl2:b < acc.length:=by omega
  have ra:=hI.rng a hal2
  have rb:=hI.rng b hbl2
  have e2:eqI n.kind 2=false:=by simp [eqI]; omega
  have e3:ltI 2 n.kind=true:=by simp [ltI]; omega
  have ev:v=N9 n.kind acc[a] acc[b]:=by rw [← hnv]; unfold Q9; rw [if_neg (by simp [eqI]; omega),if_neg (by simp [eqI]; omega),ha,hb,K8 hal2,K8 hbl2]
  have ez:O0 n.kind (A4 acc n.right)=O0 n.kind acc[b]:=by rw [hb,K8 hbl2]
  have g:=i1c n.kind acc[a] acc[b] ra.1 ra.2 rb.1 rb.2
  unfold a4w at g
  rw [← ev,← ez] at g
  cases hz:O0 n.kind (A4 acc n.right)
  ·rw [hz,if_neg (by simp)] at g
   cases hbv:badV v
   ·refine ⟨fun s' hs=>?_,fun e he=>by simp [hbv,orB] at he⟩
    simp [hbv,orB] at hs
    subst hs
    refine ⟨?_,nx hbv⟩
    rw [hbv,c0d] at g
    simp (maxSteps:=1000000) +contextual -dsimp [f227,hlt,hi,hc,hw,hm1,ha,hb,hal2,hbl2,e2,e3,g,List.set]
   ·refine ⟨fun s' hs=>by simp [hbv,orB] at hs,fun e he=>⟨_,?_,[(6,⟨1,1,false,[.own 2 (iE acc)]⟩)],rfl⟩⟩
    rw [hbv,c0c] at g
    simp (maxSteps:=1000000) +contextual -dsimp [f227,hlt,hi,hc,hw,hm1,ha,hb,hal2,hbl2,e2,e3,g,List.set]
  ·rw [hz,if_pos rfl] at g
   refine ⟨fun s' hs=>by simp [orB] at hs,fun e he=>⟨_,?_,[(6,⟨1,1,false,[.own 2 (iE acc)]⟩)],rfl⟩⟩
   simp (maxSteps:=1000000) +contextual -dsimp [f227,hlt,hi,hc,hw,hm1,ha,hb,hal2,hbl2,e2,e3,g,List.set]
theorem e0l (l:List Node) (ok:ExprOk l) (vars:List Int) (hv:vars.length=4) (hr:∀ x,x∈vars→badV x=false):fo 227 [A (nS 219 l),A (iS vars)]=some (RE (a3h l vars)):=by
 have hlp:=i5z l ok vars hv hr
 have hpos:=ok.pos
 have hle:=ok.le
 refine h8o (l.length+1) ?_
 unfold a3h
 cases q:O4 (evG vars) 0 [] l with
 | inl e=>
  rw [q] at hlp
  obtain ⟨_,hlp,rt,rfl⟩:=hlp
  simp -dsimp [f227,c0m,iE] at hlp
  simp (maxSteps:=1000000) +contextual -dsimp [f227,hlp,RE,List.set]
 | inr acc=>
  rw [q] at hlp
  unfold b1o at hlp
  simp -dsimp [f227,c0m,iE] at hlp
  have hlen:=b9w q
  simp at hlen
  have hlt:l.length - 1 < acc.length:=by omega
  have hw:IntKind.i64.wrap ((acc.length:Int) - 1)=((l.length - 1:Nat):Int):=by rw [A5] <;> omega
  have e1:A4 acc ((l.length:Int) - 1)=acc[l.length - 1]:=by
   have:((l.length:Int) - 1)=((l.length - 1:Nat):Int):=by omega
   rw [this,K8 hlt]
  simp (maxSteps:=1000000) +contextual -dsimp [f227,hlp,hw,hlt,e1,RE,List.set]
end Go.TM.Ft
