/- What functions of the program come to, by the machine. -/
import Derived.Test.YtlmiemdojgahaaaGreatML7
import Derived.Test.YtlmiemdojgahaaaGreatML8
set_option linter.unusedSimpArgs false
set_option linter.unusedVariables false
set_option maxHeartbeats 8000000
namespace Go.TM.Ft
open Go Go.TM Go.Proofs Go.Proofs.Tryz
set_option maxRecDepth 20000
attribute [local congr] O3
attribute [local simp] L9 M4 K0 L6 J6 L4 J8 J1 K5 I6 Y3
def U7 (l:List Step) (k:Nat):Int:=match l[k]? with | some s=>s.arg | none=>0
def kK (l:List Step) (k:Nat):List Node:=match l[k]? with | some s=>s.expr | none=>[]
def iI (go:Bool→Nat→Chart→Option Chart):List Int→Chart→Option Chart
 | [],c=>some c
 | k::r,c=>match go true k.toNat c with | some c'=>iI go r c' | none=>none
def oS (go:Bool→Nat→Chart→Option Chart) (l:List Step) (k:Nat) (c:Chart):Option Chart:=
 if A0 (C2 l k) 1=true then go true (B4 (C0 k 0 l) 0).toNat c
 else if A0 (C2 l k) 4=true then iI go (C0 k 0 l) c
 else if A0 (C2 l k) 3=true then (if A0 (H3 l c.vars (C0 k 0 l)) (-1)=true then some (aU l 3 c) else if A0 (H3 l c.vars (C0 k 0 l)) (-2)=true then some c else go true (H3 l c.vars (C0 k 0 l)).toNat c)
 else if A0 (C2 l k) 8=true then go true (B4 (C0 k 0 l) 0).toNat { c with dues:=c.dues.set k (c.now+U7 l k) }
 else if A0 (C2 l k) 6=true then some { c with dues:=c.dues.set k (c.now+U7 l k) }
 else if A0 (C2 l k) 7=true then (match gM (kK l k) c.vars with | none=>some (aU l 3 c) | some v=>go false k { c with vars:=c.vars.set (U7 l k).toNat v })
 else some c
def Al (go:Bool→Nat→Chart→Option Chart) (l:List Step) (k p:Nat) (c:Chart):Option Chart:=
 if A0 (C2 l p) 1=true then
  (if A3 (gP k (C0 p 0 l)+1) (C0 p 0 l).length=true then go true (B4 (C0 p 0 l) (gP k (C0 p 0 l)+1)).toNat c else go false p c)
 else if A0 (C2 l p) 4=true then (if aH (eC (c.acts.set k 2)) (C0 p 0 l)=true then some { c with acts:=c.acts.set k 2 } else go false p { c with acts:=c.acts.set k 2 })
 else go false p c
def qE (go:Bool→Nat→Chart→Option Chart) (l:List Step) (k:Nat) (c:Chart):Option Chart:=
 if A0 (k:Int) 0=true then some (aU l 2 c) else Al go l k (parOf l k).toNat c
def V1 (l:List Step):Nat→Bool→Nat→Chart→Option Chart
 | 0,_,_,_=>none
 | f+1,true,k,c=>if A0 c.status 1=true then oS (V1 l f) l k { c with acts:=c.acts.set k 1 } else some c
 | f+1,false,k,c=>qE (V1 l f) l k (bM (O7 l k) c)
theorem Inv.stop {l:List Step} {c:Chart} (h:Inv l c) (st:Int):Inv l (aU l st c):=⟨h.vars,by simp[aU],by simp[aU],h.now0,h.now1,h.rng⟩
theorem Inv.idle {l:List Step} {c:Chart} (h:Inv l c) (ks:List Int):Inv l (bM ks c):=⟨h.vars,by simp[bM,Nr,h.acts],by simp[bM,Nr,h.dues],h.now0,h.now1,h.rng⟩
theorem Inv.act {l:List Step} {c:Chart} (h:Inv l c) (k:Nat) (x:Int):Inv l { c with acts:=c.acts.set k x }:=⟨h.vars,by simp[h.acts],h.dues,h.now0,h.now1,h.rng⟩
theorem Inv.due {l:List Step} {c:Chart} (h:Inv l c) (k:Nat) (x:Int):Inv l { c with dues:=c.dues.set k x }:=⟨h.vars,h.acts,by simp[h.dues],h.now0,h.now1,h.rng⟩
theorem Inv.var {l:List Step} {c:Chart} (h:Inv l c) (k:Nat) {x:Int} (hx:badV x=false):Inv l { c with vars:=c.vars.set k x }:=⟨by simp[h.vars],h.acts,h.dues,h.now0,h.now1,fun y hy=>by
 rcases List.mem_or_eq_of_mem_set hy with h1 | h1
 ·exact h.rng y h1
 ·rw[h1];exact hx⟩
section
variable {l:List Step}
theorem Wf.kidsN (w:Wf l) {k:Nat} (hk:k<l.length):A5 (C0 k 0 l).length (T3 (C2 l k)).1 (T3 (C2 l k)).2=true:=by
 have hc:=w.ok.cond k hk
 unfold condFaultM at hc
 have zH:uG l k=0:=by
  split at hc
  ·exact hc
  ·rename_i c
   simp[A7,A2,A0] at c
   exact c.1
 have:=(P9 zH).1
 cases h:A5 (C0 k 0 l).length (T3 (C2 l k)).1 (T3 (C2 l k)).2
 ·rw[h] at this;simp[A2] at this
 ·rfl
theorem Wf.kid (w:Wf l) {p:Nat} {x:Int} (hx:x∈C0 p 0 l):∃ a:Nat,x=a∧a<l.length∧p<a∧parOf l a=p:=by
 rw[jK w.ok] at hx
 obtain⟨a,ha,h1,h2⟩:=Bw.1 hx
 rw[Nat.zero_add] at h1
 refine⟨a,h1,ha,?_,by rw[qP ha];exact h2⟩
 rcases Nat.eq_zero_or_pos a with h | h
 ·subst h
  have:=w.ok.par0 ha
  omega
 ·obtain⟨q,h3,h4⟩:=w.ok.par a ha h
  omega
theorem Wf.kid_of (w:Wf l) {p k:Nat} (hk:k<l.length) (hp:parOf l k=p):(k:Int)∈C0 p 0 l:=by
 rw[jK w.ok]
 exact Bw.2 ⟨k,hk,by simp,by rw[←qP hk];exact hp⟩
theorem Wf.kids24 (w:Wf l) (p:Nat):(C0 p 0 l).length≤24:=by
 have:=Pp p l 0
 have:=w.ok.le
 omega
theorem oA {ks:List Int} {n:Nat} (h:n<ks.length):B4 ks (n:Int)∈ks:=by rw[O1 h];exact List.getElem_mem h
theorem Wf.arg (w:Wf l) {k:Nat} (hk:k<l.length) (h:C2 l k=6∨C2 l k=8):1≤U7 l k∧U7 l k≤99:=by
 have p:=(zY (w.at hk)).2.2.2.2.2.2.1
 rw[rE hk] at h
 have e:U7 l k=(l[k]).arg:=by simp[U7,hk]
 rw[e]
 rcases h with h | h<;>rw[h] at p<;>simp[aY,A0,A5,A6,B5] at p<;>exact p
def GoOk (l:List Step) (go:Bool→Nat→Chart→Option Chart):Prop:=
 ∀ b k c c',Inv l c→k<l.length→go b k c=some c'→fo (if b=true then 171 else 193) [aB l c,A (vI k)]=some (RB l c')∧Inv l c'
theorem GoOk.ent {go} (g:GoOk l go) {k:Nat} {c c':Chart} (h:Inv l c) (hk:k<l.length) (hc:go true k c=some c'):fo 171 [aB l c,A (vI k)]=some (RB l c')∧Inv l c':=g true k c c' h hk hc
theorem GoOk.ovr {go} (g:GoOk l go) {k:Nat} {c c':Chart} (h:Inv l c) (hk:k<l.length) (hc:go false k c=some c'):fo 193 [aB l c,A (vI k)]=some (RB l c')∧Inv l c':=g false k c c' h hk hc
theorem c0e (w:Wf l) {go} (g:GoOk l go) (all:List Int) (B9:all.length≤24) (H8:∀ k,k∈all→∃ x:Nat,k=x∧x<l.length):∀ (rest:List Int) (i:Nat) (c c':Chart),all.drop i=rest→Inv l c→iI go rest c=some c'→
  B7 E (orc E) (171:Nat) (rest.length+1) (C1 f171 0) ⟨130,[(0,.ptr 0 0 [] 0),(47,iS all),(48,vI all.length),(49,vI i)],[(0,⟨0,1,true,bO l c⟩)],2⟩=
  some (.exit 1,⟨130,[(0,.ptr 0 0 [] 0),(47,iS all),(48,vI all.length),(49,vI (i+rest.length:Nat)),(50,vB false)],[(0,⟨0,1,true,bO l c'⟩)],2⟩)∧Inv l c'
 | [],i,c,c',h,hI,hg=>by
  have G5:all.length≤i:=by simpa using h
  have A1:A3 (i:Int) (all.length:Int)=false:=C9 (by omega)
  simp only[iI,Option.some.injEq] at hg;subst hg
  refine⟨?_,hI⟩
  rw[D5]
  simp +contextual -dsimp [f171,A1]
 | k::rest,i,c,c',h,hI,hg=>by
  obtain⟨hi,hc,hr⟩:=F6 h
  obtain⟨x,hx,Z8⟩:=H8 k (by rw[←hc];exact List.getElem_mem _)
  have A1:=U2 hi
  have hw:=S6 hi (by omega)
  have he:i+1+rest.length=i+(rest.length+1):=by omega
  unfold iI at hg
  rw[hx,Int.toNat_natCast] at hg
  cases q:go true x c with
  | none=>rw[q] at hg;simp at hg
  | some c1=>
   rw[q] at hg
   obtain⟨g1,g2⟩:=g.ent hI Z8 q
   obtain⟨ih,hI'⟩:=c0e w g all B9 H8 rest (i+1) c1 c' hr g2 hg
   rw[he] at ih
   refine⟨D6 ?_ (by simpa only[List.length_cons] using ih),hI'⟩
   rw[hx] at hc
   simp (maxSteps:=1000000) +contextual -dsimp [f171,A1,hi,hc,hw,g1]
theorem e0j (w:Wf l) {go} (g:GoOk l go) (k:Nat) (hk:k<l.length) (c c':Chart) (hI:Inv l c)
  (h:(if A0 c.status 1=true then oS go l k { c with acts:=c.acts.set k 1 } else some c)=some c'):fo 171 [aB l c,A (vI k)]=some (RB l c')∧Inv l c':=by
 have tU:=w.ok.le
 cases q0:A0 c.status 1
 ·rw[q0,if_neg (by simp)] at h
  simp only[Option.some.injEq] at h;subst h
  refine⟨?_,hI⟩
  refine oN 1 ?_
  simp (maxSteps:=1000000) +contextual -dsimp [f171,q0]
 rw[q0,if_pos rfl] at h
 have gk:=wW l (by omega) k
 have P1:k<c.acts.length:=by rw[hI.acts];exact hk
 have M9:k<c.dues.length:=by rw[hI.dues];exact hk
 have V8:(l[k]).kind=C2 l k:=(rE hk).symm
 have pD:(l[k]).arg=U7 l k:=by simp[U7,hk]
 have oM:(l[k]).expr=kK l k:=by simp[kK,hk]
 have hn:=w.kidsN hk
 have hT:=w.kids24 k
 obtain⟨c1,K3⟩:∃ c1:Chart,c1={ c with acts:=c.acts.set k 1 }:=⟨_,rfl⟩
 have J9:Inv l c1:=by rw[K3];exact hI.act k 1
 have e1:c1.status=c.status:=by rw[K3]
 have e2:c1.now=c.now:=by rw[K3]
 have e3:c1.vars=c.vars:=by rw[K3]
 have e4:c1.acts=c.acts.set k 1:=by rw[K3]
 have e5:c1.dues=c.dues:=by rw[K3]
 rw[←K3] at h
 generalize H8:C0 k 0 l=ks at *
 have dM:∀ x,x∈ks→∃ a:Nat,x=a∧a<l.length:=fun x hx=>by
  rw[←H8] at hx
  obtain⟨a,h1,h2,_⟩:=w.kid hx
  exact⟨a,h1,h2⟩
 unfold oS at h
 rw[H8] at h
 cases q1:A0 (C2 l k) 1
 ·cases q4:A0 (C2 l k) 4
  ·cases q3:A0 (C2 l k) 3
   ·cases q8:A0 (C2 l k) 8
    ·cases q6:A0 (C2 l k) 6
     ·cases q7:A0 (C2 l k) 7
      ·simp only[q1,q4,q3,q8,q6,q7,Bool.false_eq_true,if_false,Option.some.injEq] at h
       subst h
       refine⟨?_,J9⟩
       refine oN 1 ?_
       simp (maxSteps:=1000000) +contextual -dsimp [f171,q0,hk,P1,gk,V8,q1,q4,q3,q8,q6,q7,e1,e2,e3,e4,e5,List.set]
      ·simp only[q1,q4,q3,q8,q6,q7,Bool.false_eq_true,if_false,if_true] at h
       have h7:(l[k]).kind=7:=by rw[V8];simpa[A0] using q7
       obtain⟨okx,a0,a3⟩:=w.expr hk h7
       rw[oM] at okx
       rw[pD] at a0 a3
       obtain⟨m,hm⟩:=Int.eq_ofNat_of_zero_le a0
       have fB:m<c.vars.length:=by rw[hI.vars];omega
       have ge:=c4y (kK l k) okx c.vars hI.vars
       rw[e3] at h
       cases ev:gM (kK l k) c.vars with
       | none=>
        rw[ev] at h ge
        simp only[RE] at ge
        simp only[Option.some.injEq] at h
        have gs:=Tg l (by omega) c1 3
        subst h
        refine⟨?_,J9.stop 3⟩
        rw[K3] at gs ⊢
        simp only[aB,bO,RB,aU,iE,List.map_set] at gs ⊢
        refine oN 1 ?_
        simp (maxSteps:=1000000) +contextual -dsimp [f171,q0,hk,P1,gk,V8,oM,q1,q4,q3,q8,q6,q7,ge,gs,List.set]
       | some v=>
        rw[ev] at h ge
        simp only[RE] at ge
        simp only[hm,Int.toNat_natCast] at h
        obtain⟨g1,g2⟩:=g.ovr (J9.var m (Ou okx ev)) hk (by rw[e3];exact h)
        rw[K3] at g1
        simp only[aB,bO,RB,iE,List.map_set] at g1
        refine⟨?_,g2⟩
        refine oN 1 ?_
        simp (maxSteps:=1000000) +contextual -dsimp [f171,q0,hk,P1,gk,V8,oM,pD,hm,fB,q1,q4,q3,q8,q6,q7,ge,g1,List.set]
     ·simp only[q1,q4,q3,q8,q6,Bool.false_eq_true,if_false,if_true,Option.some.injEq] at h
      obtain⟨a1,a2⟩:=w.arg hk (.inl (by simpa[A0] using q6))
      have hw:IntKind.i64.wrap (c.now+U7 l k)=c.now+U7 l k:=by have:=hI.now0;have:=hI.now1;rw[B6]<;>omega
      subst h
      refine⟨?_,by simpa only[e5,e2] using J9.due k (c.now+U7 l k)⟩
      refine oN 1 ?_
      simp (maxSteps:=1000000) +contextual -dsimp [f171,q0,hk,P1,M9,gk,V8,pD,hw,q1,q4,q3,q8,q6,e1,e2,e3,e4,e5,List.set]
    ·simp only[q1,q4,q3,q8,Bool.false_eq_true,if_false,if_true] at h
     have h8:C2 l k=8:=by simpa[A0] using q8
     obtain⟨a1,a2⟩:=w.arg hk (.inr h8)
     have hw:IntKind.i64.wrap (c.now+U7 l k)=c.now+U7 l k:=by have:=hI.now0;have:=hI.now1;rw[B6]<;>omega
     rw[h8] at hn
     obtain⟨x,r,rfl⟩:∃ x r,ks=x::r:=by
      cases ks with
      | nil=>simp[T3,A0,A5,A6,B5] at hn
      | cons x r=>exact⟨x,r,rfl⟩
     obtain⟨y,rfl,cP⟩:=dM x (by simp)
     have es:B4 ((y:Int)::r) 0=y:=rfl
     rw[es,Int.toNat_natCast] at h
     obtain⟨g1,g2⟩:=g.ent (J9.due k (c1.now+U7 l k)) cP h
     rw[K3] at g1
     simp only[aB,bO,RB,iE,List.map_set] at g1
     refine⟨?_,g2⟩
     refine oN 1 ?_
     simp (maxSteps:=1000000) +contextual -dsimp [f171,q0,hk,P1,M9,gk,V8,pD,hw,q1,q4,q3,q8,g1,List.set]
   ·simp only[q1,q4,q3,Bool.false_eq_true,if_false,if_true] at h
    have Hj:H3 l c1.vars ks=-1∨H3 l c1.vars ks=-2∨H3 l c1.vars ks∈ks:=by
     clear h hn hT H8 gk
     induction ks with
     | nil=>exact .inr (.inl rfl)
     | cons x r ih=>
      have ih:=ih (fun y hy=>dM y (by simp[hy]))
      unfold H3 kU
      split
      ·split
       ·exact .inl rfl
       ·split
        ·exact .inr (.inr (by simp))
        ·rcases ih with h | h | h
         ·exact .inl h
         ·exact .inr (.inl h)
         ·exact .inr (.inr (by simp[h]))
      ·exact .inr (.inr (by simp))
    have key:(H3 l c1.vars ks=-2→c'=c1)∧(H3 l c1.vars ks=-1→c'=aU l 3 c1)∧(0≤H3 l c1.vars ks→fo 171 [aB l c1,A (vI (H3 l c1.vars ks))]=some (RB l c'))∧Inv l c':=by
     rcases Hj with q | q | q
     ·rw[q] at h ⊢
      simp[A0] at h
      subst h
      exact⟨fun h=>absurd h (by omega),fun _=>rfl,fun h=>absurd h (by omega),J9.stop 3⟩
     ·rw[q] at h ⊢
      simp[A0] at h
      subst h
      exact⟨fun _=>rfl,fun h=>absurd h (by omega),fun h=>absurd h (by omega),J9⟩
     ·obtain⟨y,hy,cP⟩:=dM _ q
      rw[hy] at h ⊢
      rw[if_neg (by simp[A0]<;>omega),if_neg (by simp[A0]<;>omega),Int.toNat_natCast] at h
      obtain⟨g1,g2⟩:=g.ent J9 cP h
      exact⟨fun h=>absurd h (by omega),fun h=>absurd h (by omega),fun _=>g1,g2⟩
    obtain⟨k0,k1,k2,k3⟩:=key
    have gc:=e7h w c1 J9.vars ks hT dM c' k0 k1 k2
    rw[K3] at gc
    simp only[aB,bO,RB,iE,List.map_set] at gc
    refine⟨?_,k3⟩
    refine oN 1 ?_
    simp (maxSteps:=1000000) +contextual -dsimp [f171,q0,hk,P1,gk,V8,q1,q4,q3,gc,List.set]
  ·simp only[q1,q4,Bool.false_eq_true,if_false,if_true] at h
   obtain⟨g1,g2⟩:=c0e w g ks hT dM ks 0 c1 c' rfl J9 h
   refine⟨?_,g2⟩
   rw[K3] at g1
   simp only[bO,iE,List.map_set] at g1
   simp -dsimp [f171] at g1
   refine oN (ks.length+1) ?_
   simp (maxSteps:=1000000) +contextual -dsimp [f171,q0,hk,P1,gk,V8,q1,q4,g1,List.set]
 ·simp only[q1,if_true] at h
  have h1:C2 l k=1:=by simpa[A0] using q1
  rw[h1] at hn
  obtain⟨x,r,rfl⟩:∃ x r,ks=x::r:=by
   cases ks with
   | nil=>simp[T3,A0,A5,A6,B5] at hn
   | cons x r=>exact⟨x,r,rfl⟩
  obtain⟨y,rfl,cP⟩:=dM x (by simp)
  have es:B4 ((y:Int)::r) 0=y:=rfl
  rw[es,Int.toNat_natCast] at h
  obtain⟨g1,g2⟩:=g.ent J9 cP h
  rw[K3] at g1
  simp only[aB,bO,RB,iE,List.map_set] at g1
  refine⟨?_,g2⟩
  refine oN 1 ?_
  simp (maxSteps:=1000000) +contextual -dsimp [f171,q0,hk,P1,gk,V8,q1,g1,List.set]
end
theorem a1s {p:Int→Bool}:∀ {l:List Int} {i:Nat},(∃ x,x∈l∧p x=true)→∃ j:Nat,G8 p i l=(i+j:Nat)∧j<l.length∧p (B4 l j)=true
 | [],i,h=>by obtain⟨x,hx,_⟩:=h;simp at hx
 | y::l,i,h=>by
  unfold G8
  cases c:p y
  ·have h2:∃ x,x∈l∧p x=true:=by
    obtain⟨x,hx,hp⟩:=h
    rcases List.mem_cons.1 hx with rfl | hx
    ·rw[c] at hp;simp at hp
    ·exact⟨x,hx,hp⟩
   obtain⟨j,h3,h4,h5⟩:=a1s (i:=i+1) h2
   refine⟨j+1,by simp;rw[h3];omega,by simp;omega,?_⟩
   rw[O1 (by simp;omega)]
   rw[O1 h4] at h5
   simpa using h5
  ·exact⟨0,by simp,by simp,by rw[O1 (by simp)];simpa using c⟩
theorem zZ {v:Int} {l:List Int} (h:v∈l):∃ j:Nat,gP v l=j∧j<l.length∧B4 l j=v:=by
 obtain⟨j,h1,h2,h3⟩:=a1s (p:=fun x=>A0 v x) (i:=0) ⟨v,h,by simp[A0]⟩
 rw[Nat.zero_add] at h1
 refine⟨j,h1,h2,?_⟩
 have:v=B4 l j:=by simpa[A0] using h3
 exact this.symm
theorem cQ (l:List Int) (k:Nat) (x:Int):Q9 ((iE l).set k [vI x])=(iE l).set k [vI x]:=by
 have:(iE l).set k [vI x]=iE (l.set k x):=by simp[iE]
 rw[this];exact Y3 _
attribute [local simp] cQ
section
variable {l:List Step}
theorem e0o (w:Wf l) {go} (g:GoOk l go) (k:Nat) (hk:k<l.length) (c c':Chart) (hI:Inv l c)
    (h:qE go l k (bM (O7 l k) c)=some c'):fo 193 [aB l c,A (vI k)]=some (RB l c')∧Inv l c':=by
  have tU:=w.ok.le
  have gi:=Ze w c hI.acts hI.dues k hk
  obtain⟨c1,K3⟩:∃ c1:Chart,c1=bM (O7 l k) c:=⟨_,rfl⟩
  have J9:Inv l c1:=by rw[K3];exact hI.idle _
  rw[←K3] at gi h
  unfold qE at h
  cases q0:A0 (k:Int) 0
  · rw [q0, if_neg (by simp)] at h
    have mQ:0<k:=by
     rcases Nat.eq_zero_or_pos k with e|e
     ·subst e;simp [A0] at q0
     ·exact e
    obtain⟨p,hp,gQ⟩:=w.par hk mQ
    have R8:p<l.length:=by omega
    rw[hp,Int.toNat_natCast] at h
    have hp':(l[k]).parent=(p:Int):=by rw[←qP hk];exact hp
    have fH:(l[p]).kind=C2 l p:=(rE R8).symm
    have gk:=wW l (by omega) p
    have P1:k<c1.acts.length:=by rw[J9.acts];exact hk
    have hT:=w.kids24 p
    have R7:=w.kid_of hk hp
    unfold Al at h
    generalize H8:C0 p 0 l=ks at *
    have dM:∀ x,x∈ks→∃ a:Nat,x=a∧a<l.length:=fun x hx=>by
      rw[←H8] at hx
      obtain⟨a,h1,h2,_⟩:=w.kid hx
      exact⟨a,h1,h2⟩
    cases q1:A0 (C2 l p) 1
    · cases q4 : A0 (C2 l p) 4
      · simp only [q1, q4, Bool.false_eq_true, if_false] at h
        obtain⟨g1,g2⟩:=g.ovr J9 R8 h
        refine⟨?_,g2⟩
        refine uP 1 ?_
        simp (maxSteps:=1000000) +contextual -dsimp [f193,gi,q0,hk,hp',R8,fH,gk,q1,q4,g1,List.set]
      · simp only [q1, q4, Bool.false_eq_true, if_false, if_true] at h
        obtain⟨c2,P5⟩:∃ c2:Chart,c2={ c1 with acts:=c1.acts.set k 2 }:=⟨_,rfl⟩
        have lE:Inv l c2:=by rw[P5];exact J9.act k 2
        have ea:c2.acts=c1.acts.set k 2:=by rw[P5]
        rw[←P5,←ea] at h
        have gn:=d8e (g:=249) (cap:=[.ipt (bT l c2)]) (by simp) (eC c2.acts) ks (by omega) (fun x hx=>by
          obtain⟨a,rfl,ha⟩:=dM x hx
          exact e6m l c2 a (by rw[lE.acts];exact ha))
        cases q5:aH (eC c2.acts) ks
        · rw [q5] at h gn
          simp only[Bool.false_eq_true,if_false] at h
          obtain⟨g1,g2⟩:=g.ovr lE R8 h
          refine⟨?_,g2⟩
          rw[P5] at gn g1
          simp only[aB,bO,bT,iS,RB,iE,List.map_set] at gn g1
          refine uP 1 ?_
          simp (maxSteps:=1000000) +contextual -dsimp [f193,gi,q0,hk,P1,hp',R8,fH,gk,q1,q4,gn,g1,List.set]
        · rw [q5] at h gn
          simp only[if_true,Option.some.injEq] at h
          subst h
          refine⟨?_,lE⟩
          rw[P5] at gn ⊢
          simp only[aB,bO,bT,iS,RB,iE,List.map_set] at gn ⊢
          refine uP 1 ?_
          simp (maxSteps:=1000000) +contextual -dsimp [f193,gi,q0,hk,P1,hp',R8,fH,gk,q1,q4,gn,List.set]
    · simp only [q1, if_true] at h
      have gx:=d5t ks (by omega) k
      obtain⟨j,e1,e2,e3⟩:=zZ R7
      rw[e1] at h gx
      obtain⟨j1,Kk⟩:∃ j1,j1=j+1:=⟨_,rfl⟩
      have hw:IntKind.i64.wrap ((j:Int)+1)=(j1:Int):=by rw[B6]<;>omega
      have aQ:(j:Int)+1=(j1:Int):=by omega
      rw[aQ] at h
      cases q2:A3 (j1:Int) ks.length
      · rw [q2, if_neg (by simp)] at h
        obtain⟨g1,g2⟩:=g.ovr J9 R8 h
        refine⟨?_,g2⟩
        refine uP 1 ?_
        simp (maxSteps:=1000000) +contextual -dsimp [f193,gi,q0,hk,hp',R8,fH,gk,q1,gx,hw,q2,g1,List.set]
      · rw [q2, if_pos rfl] at h
        have hj:j1<ks.length:=by simp[A3] at q2;omega
        obtain⟨y,hy,cP⟩:=dM _ (oA hj)
        have hy2:ks[j1]=(y:Int):=by rw[←O1 hj];exact hy
        rw[hy,Int.toNat_natCast] at h
        obtain⟨g1,g2⟩:=g.ent J9 cP h
        refine⟨?_,g2⟩
        refine uP 1 ?_
        simp (maxSteps:=1000000) +contextual -dsimp [f193,gi,q0,hk,hp',R8,fH,gk,q1,gx,hw,q2,hj,hy2,g1,List.set]
  · rw [q0, if_pos rfl] at h
    simp only[Option.some.injEq] at h
    subst h
    have gs:=Tg l (by omega) c1 2
    refine⟨?_,J9.stop 2⟩
    refine uP 1 ?_
    simp (maxSteps:=1000000) +contextual -dsimp [f193,gi,q0,gs,List.set]
theorem yC (w:Wf l):∀ f,GoOk l (V1 l f)
 | 0,_,_,_,_,_,_,h=>by simp[V1] at h
 | f+1,true,k,c,c',hI,hk,h=>by
  unfold V1 at h
  exact e0j w (yC w f) k hk c c' hI h
 | f+1,false,k,c,c',hI,hk,h=>by
  unfold V1 at h
  exact e0o w (yC w f) k hk c c' hI h
end
attribute [local simp] cQ Zc
theorem a5n (b:Bool):fo 297 [A (vB b)]=some (R (vI (ci b 1))):=by
 refine d6e 1 ?_
 cases b<;>simp (maxSteps:=1000000) +contextual -dsimp [f297,ci]
def jS (k a b:Int):Int×Bool:=if U1 k b=true then (0,false) else (T5 k a b,A2 (badV (T5 k a b)))
theorem d1d (k a b:Int) (oP:-1000000≤a) (X8:a≤1000000) (bQ:-1000000≤b) (T9:b≤1000000):
  fo 271 [A (vI k),A (vI a),A (vI b)]=some (R2 (vI (jS k a b).1) (vB (jS k a b).2)):=by
 have hm:=c5j oP X8 bQ T9
 have hd:=b1l (b:=b) oP X8
 have w1:IntKind.i64.wrap (a+b)=a+b:=by rw[B6]<;>omega
 have w2:IntKind.i64.wrap (a - b)=a - b:=by rw[B6]<;>omega
 have w3:IntKind.i64.wrap (a*b)=a*b:=by rw[B6]<;>omega
 have w4:IntKind.i64.wrap (Int.tdiv a b)=Int.tdiv a b:=by rw[B6]<;>omega
 have w5:IntKind.i64.wrap (1 - a)=1 - a:=by rw[B6]<;>omega
 have hn:∀ v,A2 (badV v)=A5 v (-1000000) 1000000:=fun v=>by simp[badV,A2]
 refine f1y 1 ?_
 by_cases h3:k=3
 ·subst h3
  simp (maxSteps:=1000000) +contextual -dsimp [f271,w1,jS,U1,T5,hn,G0,D2,show A0 3 6=false from rfl,A6]
 by_cases h4:k=4
 ·subst h4
  simp (maxSteps:=1000000) +contextual -dsimp [f271,w2,jS,U1,T5,hn,G0,D2,show A0 4 6=false from rfl,show A0 4 3=false from rfl,A6]
 by_cases h5:k=5
 ·subst h5
  simp (maxSteps:=1000000) +contextual -dsimp [f271,w3,jS,U1,T5,hn,G0,D2,show A0 5 6=false from rfl,show A0 5 3=false from rfl,show A0 5 4=false from rfl,A6]
 by_cases h6:k=6
 ·subst h6
  by_cases hb:b=0
  ·subst hb
   simp (maxSteps:=1000000) +contextual -dsimp [f271,jS,U1,D2,show A0 6 3=false from rfl,show A0 6 4=false from rfl,show A0 6 5=false from rfl,A6]
  ·have q:=Up Tryz.prog 2 (.tmp 31) (.tmp 32) a b hb
   have hb':A0 b 0=false:=by simp[A0,hb]
   simp (maxSteps:=1000000) +contextual -dsimp [f271,w4,q,hb',jS,U1,T5,hn,G0,D2,show A0 6 3=false from rfl,show A0 6 4=false from rfl,show A0 6 5=false from rfl,A6]
 by_cases h7:k=7
 ·subst h7
  simp (maxSteps:=1000000) +contextual -dsimp [f271,a5n,jS,U1,T5,hn,G0,D2,show A0 7 6=false from rfl,show A0 7 3=false from rfl,show A0 7 4=false from rfl,show A0 7 5=false from rfl,A6]
 by_cases h8:k=8
 ·subst h8
  simp (maxSteps:=1000000) +contextual -dsimp [f271,a5n,jS,U1,T5,hn,G0,D2,show A0 8 6=false from rfl,show A0 8 3=false from rfl,show A0 8 4=false from rfl,show A0 8 5=false from rfl,show A0 8 7=false from rfl,A6]
 have f3:A0 k 3=false:=by simp[A0,h3]
 have f4:A0 k 4=false:=by simp[A0,h4]
 have f5:A0 k 5=false:=by simp[A0,h5]
 have f6:A0 k 6=false:=by simp[A0,h6]
 have f7:A0 k 7=false:=by simp[A0,h7]
 have f8:A0 k 8=false:=by simp[A0,h8]
 cases q9:A0 k 9
 ·simp (maxSteps:=1000000) +contextual -dsimp [f271,w5,jS,U1,T5,hn,G0,f3,f4,f5,f6,f7,f8,q9,A6]
 ·simp (maxSteps:=1000000) +contextual -dsimp [f271,w3,jS,U1,T5,hn,G0,f3,f4,f5,f6,f7,f8,q9,A6]
abbrev Cc (l:List Node) (vars:List Int) (i:Nat) (acc:List Int):St:=
 ⟨65,[(0,nS 219 l),(1,iS vars),(6,.ref 6 1 [] 0 acc.length),(7,vI i)],[(6,⟨1,1,false,[.own 2 (iE acc)]⟩)],2⟩
theorem d2b (l:List Node) (ok:ExprOk l) (vars:List Int) (hv:vars.length=4) (hr:∀ x,x∈vars→badV x=false):
  iK 0 (fun acc=>⟨65,[(0,nS 219 l),(1,iS vars),(6,.ref 6 1 [] 0 acc.length),(7,vI l.length),(16,vB false)],[(6,⟨1,1,false,[.own 2 (iE acc)]⟩)],2⟩)
   (fun _ st=>∃ rt,st=⟨65,[(4,vI 0),(5,vB false)],rt,2⟩) (B7 E (orc E) (227:Nat) (l.length+1) (C1 f227 0) (Cc l vars 0 [])) (Q7 (iG vars) 0 [] l):=by
 have D8:=ok.le
 have h:=sA (f:=227) (id:=0) (code:=C1 f227 0) l (Vals l) (Cc l vars) (iG vars) (fun acc=>⟨65,[(0,nS 219 l),(1,iS vars),(6,.ref 6 1 [] 0 acc.length),(7,vI l.length),(16,vB false)],[(6,⟨1,1,false,[.own 2 (iE acc)]⟩)],2⟩)
  (fun _ st=>∃ rt,st=⟨65,[(4,vI 0),(5,vB false)],rt,2⟩)
 refine h ?_ ?_ l 0 [] rfl (Nat.zero_le _) ⟨rfl,fun k h=>by simp at h,fun k h=>by simp at h⟩
 ·intro k s _
  have A1:=cF l.length
  simp +contextual -dsimp [f227,A1]
 ·intro k i acc hi hI
  have hn:l[i]?=some l[i]:=List.getElem?_eq_getElem hi
  have S2:=hI.len
  have A1:=U2 hi
  have hw:=S6 hi (by omega)
  have H9:acc.length+1≤D0:=by unfold D0;omega
  unfold iG Ii
  generalize hc:l[i]=n at *
  have nk:=Cw (ok.node i n hn)
  have nx:badV (Y4 vars acc n)=false→Vals l (i+1) (acc++[Y4 vars acc n]):=fun hb=>by
   have:=hI.next ok hi (vars:=vars)
   rw[hc] at this
   exact this hb
  generalize rB:Y4 vars acc n=v at *
  by_cases k1:n.kind=1
  ·have ev:v=n.value:=by rw[←rB];simp[Y4,k1,A0]
   have ez:U1 n.kind (B4 acc n.right)=false:=by simp[U1,k1,A0,A6]
   rw[←ev] at nk
   cases hb:badV v
   ·refine⟨fun s' hs=>?_,fun e he=>by simp[ez,hb,A7] at he⟩
    simp[ez,hb,A7] at hs
    subst hs
    refine⟨?_,nx hb⟩
    simp (maxSteps:=1000000) +contextual -dsimp [f227,A1,hi,hc,hw,H9,k1,←ev,show A0 1 2=false from rfl,show A3 2 1=false from rfl,List.set]
   ·exfalso
    simp[badV,A2,A5,A6,B5] at hb
    omega
  by_cases k2:n.kind=2
  ·obtain⟨m,hm⟩:=Int.eq_ofNat_of_zero_le (show 0≤n.value by omega)
   have fB:m<vars.length:=by omega
   have ev:v=vars[m]:=by rw[←rB];unfold Y4;rw[if_neg (by simp[k2,A0]),if_pos (by simp[k2,A0]),hm,O1 fB]
   have ez:U1 n.kind (B4 acc n.right)=false:=by simp[U1,k2,A0,A6]
   have hb:badV v=false:=by rw[ev];exact hr _ (List.getElem_mem _)
   refine⟨fun s' hs=>?_,fun e he=>by simp[ez,hb,A7] at he⟩
   simp[ez,hb,A7] at hs
   subst hs
   refine⟨?_,nx hb⟩
   simp (maxSteps:=1000000) +contextual -dsimp [f227,A1,hi,hc,hw,H9,k2,hm,fB,←ev,D2,show A3 2 2=false from rfl,List.set]
  have k3:2<n.kind:=by omega
  obtain⟨a,ha⟩:=Int.eq_ofNat_of_zero_le (show 0≤n.left by omega)
  obtain⟨b,hb⟩:=Int.eq_ofNat_of_zero_le (show 0≤n.right by omega)
  have jY:a<acc.length:=by omega
  have gA:b<acc.length:=by omega
  have ra:=hI.rng a jY
  have rb:=hI.rng b gA
  have e2:A0 n.kind 2=false:=by simp[A0];omega
  have e3:A3 2 n.kind=true:=by simp[A3];omega
  have ev:v=T5 n.kind acc[a] acc[b]:=by rw[←rB];unfold Y4;rw[if_neg (by simp[A0];omega),if_neg (by simp[A0];omega),ha,hb,O1 jY,O1 gA]
  have ez:U1 n.kind (B4 acc n.right)=U1 n.kind acc[b]:=by rw[hb,O1 gA]
  have g:=d1d n.kind acc[a] acc[b] ra.1 ra.2 rb.1 rb.2
  unfold jS at g
  rw[←ev,←ez] at g
  cases hz:U1 n.kind (B4 acc n.right)
  ·rw[hz,if_neg (by simp)] at g
   cases iP:badV v
   ·refine⟨fun s' hs=>?_,fun e he=>by simp[iP,A7] at he⟩
    simp[iP,A7] at hs
    subst hs
    refine⟨?_,nx iP⟩
    rw[iP,Dv] at g
    simp (maxSteps:=1000000) +contextual -dsimp [f227,A1,hi,hc,hw,H9,ha,hb,jY,gA,e2,e3,g,List.set]
   ·refine⟨fun s' hs=>by simp[iP,A7] at hs,fun e he=>⟨_,?_,[(6,⟨1,1,false,[.own 2 (iE acc)]⟩)],rfl⟩⟩
    rw[iP,Ca] at g
    simp (maxSteps:=1000000) +contextual -dsimp [f227,A1,hi,hc,hw,H9,ha,hb,jY,gA,e2,e3,g,List.set]
  ·rw[hz,if_pos rfl] at g
   refine⟨fun s' hs=>by simp[A7] at hs,fun e he=>⟨_,?_,[(6,⟨1,1,false,[.own 2 (iE acc)]⟩)],rfl⟩⟩
   simp (maxSteps:=1000000) +contextual -dsimp [f227,A1,hi,hc,hw,H9,ha,hb,jY,gA,e2,e3,g,List.set]
theorem Xy (l:List Node) (ok:ExprOk l) (vars:List Int) (hv:vars.length=4) (hr:∀ x,x∈vars→badV x=false):fo 227 [A (nS 219 l),A (iS vars)]=some (RE (gM l vars)):=by
 have A4:=d2b l ok vars hv hr
 have dO:=ok.pos
 have D8:=ok.le
 refine e0g (l.length+1) ?_
 unfold gM
 cases q:Q7 (iG vars) 0 [] l with
 | inl e=>
  rw[q] at A4
  obtain⟨_,A4,rt,rfl⟩:=A4
  simp -dsimp [f227,Cc,iE] at A4
  simp (maxSteps:=1000000) +contextual -dsimp [f227,A4,RE,List.set]
 | inr acc=>
  rw[q] at A4
  unfold iK at A4
  simp -dsimp [f227,Cc,iE] at A4
  have D7:=Fy q
  simp at D7
  have A1:l.length - 1<acc.length:=by omega
  have hw:IntKind.i64.wrap ((acc.length:Int) - 1)=((l.length - 1:Nat):Int):=by rw[B6]<;>omega
  have e1:B4 acc ((l.length:Int) - 1)=acc[l.length - 1]:=by
   have:((l.length:Int) - 1)=((l.length - 1:Nat):Int):=by omega
   rw[this,O1 A1]
  simp (maxSteps:=1000000) +contextual -dsimp [f227,A4,hw,A1,e1,RE,List.set]
end Go.TM.Ft
namespace Go.TM.Ft
open Go Go.TM Go.Proofs Go.Proofs.Tryz
set_option maxRecDepth 20000
attribute [local congr] O3
attribute [local simp] L9 M4 K0 L6 J6 L4 J8 J1 K5 I6 Y3 cQ
abbrev cO (c:Chart):List T:=[vI c.status,vI c.now,.own 2 (iE c.vars),.own 2 (iE c.acts),.own 2 (iE c.dues)]
abbrev aC (c:Chart):Arg:=⟨.ptr 1 0 [] 0,some ⟨0,0,true,cO c⟩⟩
abbrev Kb (c:Chart):Arg:=⟨.ptr 0 0 [] 0,some ⟨0,0,true,cO c⟩⟩
abbrev RC (c:Chart):Res:=⟨.tup [],[(1,cO c)],true⟩
abbrev Pt (c:Chart):Res:=⟨.tup [],[(0,cO c)],true⟩
theorem Me {α:Type}:∀ (r:List α) (i:Nat) (xs:List Int),i+r.length=xs.length→S8 (fun (i:Nat) (xs:List Int) (_:α)=>xs.set i 0) i xs r=xs.take i++List.replicate r.length 0
 | [],i,xs,h=>by
  simp only[S8,List.length_nil,List.replicate_zero,List.append_nil]
  rw[List.take_of_length_le (by simp at h;omega)]
 | x::r,i,xs,h=>by
  simp only[S8]
  rw[Me r (i+1) (xs.set i 0) (by simp at h ⊢;omega)]
  simp only[List.length_cons] at h
  rw[List.take_succ_eq_append_getElem (by simp;omega),List.take_set_of_le (Nat.le_refl _)]
  simp[List.replicate_succ]
theorem c6e {α:Type}:∀ (r:List α) (i:Nat) (c:Chart),S8 (fun (i:Nat) (c:Chart) (_:α)=>{ c with acts:=c.acts.set i 0,dues:=c.dues.set i 0 }) i c r=
  { c with acts:=S8 (fun (i:Nat) (xs:List Int) (_:α)=>xs.set i 0) i c.acts r,dues:=S8 (fun (i:Nat) (xs:List Int) (_:α)=>xs.set i 0) i c.dues r }
 | [],i,c=>rfl
 | x::r,i,c=>by simp only[S8];rw[c6e r]
theorem d4l (c:Chart) (hd:c.dues.length=c.acts.length) (hn:c.acts.length<2 ^ 62):
  B7 E (orc E) (226:Nat) (c.acts.length+1) (C1 f226 0) ⟨30,[(0,.ptr 0 0 [] 0),(4,vI (0:Nat))],[(0,⟨0,0,true,cO c⟩)],2⟩=
  some (.exit 0,⟨30,[(0,.ptr 0 0 [] 0),(4,vI c.acts.length),(15,vB false)],[(0,⟨0,0,true,cO { c with acts:=List.replicate c.acts.length 0,dues:=List.replicate c.acts.length 0 }⟩)],2⟩):=by
 have h:=iJ (f:=226) (id:=0) (code:=C1 f226 0) c.acts (fun _ c'=>c'.acts.length=c.acts.length∧c'.dues.length=c.acts.length)
  (fun i c'=>⟨30,[(0,.ptr 0 0 [] 0),(4,vI i)],[(0,⟨0,0,true,cO c'⟩)],2⟩) (fun (i:Nat) (c:Chart) (_:Int)=>{ c with acts:=c.acts.set i 0,dues:=c.dues.set i 0 })
  (fun c'=>⟨30,[(0,.ptr 0 0 [] 0),(4,vI c.acts.length),(15,vB false)],[(0,⟨0,0,true,cO c'⟩)],2⟩)
 have h2:=h ?_ ?_ c ⟨rfl,hd⟩
 ·rw[c6e,Me _ _ _ (by simp),Me _ _ _ (by simp[hd])] at h2
  simpa using h2
 ·intro k c' hI
  have A1:=cF c.acts.length
  have e:=hI.1
  simp +contextual -dsimp [f226,A1,e]
 ·intro k i c' hi hI
  have A1:=U2 hi
  have hw:=S6 hi hn
  have e:=hI.1
  have e1:i<c'.acts.length:=by omega
  have e2:i<c'.dues.length:=by omega
  refine⟨?_,by simp;exact hI⟩
  simp (maxSteps:=1000000) +contextual -dsimp [f226,A1,hi,hw,e,e1,e2,List.set]
theorem Fz {l:List Step} (c:Chart) (ha:c.acts.length=l.length) (hd:c.dues.length=l.length) (hl:l.length≤1000) (st:Int):fo 226 [Kb c,A (vI st)]=some (Pt (aU l st c)):=by
 have A4:=d4l { c with status:=st } (by simp[ha,hd]) (by simp[ha];omega)
 simp only[ha] at A4
 refine e5m (l.length+1) ?_
 simp -dsimp [f226] at A4
 simp (maxSteps:=1000000) +contextual -dsimp [f226,A4,aU,List.set]
def R6 (l:List Step) (a:Nat):Nat→Nat→List Int
 | 0,_=>[]
 | f+1,i=>if A6 (A3 (i:Int) l.length) (A3 (dep l a) (dep l i))=true then (i:Int)::R6 l a f (i+1) else []
theorem b4o {l:List Step} (w:Wf l) (a:Nat) (ha:a<l.length):∀ (f i:Nat) (acc:List Int),i+f=l.length→acc.length≤i→
  ∃ n:Nat,B7 E (orc E) (250:Nat) (f+1) (C1 f250 0) ⟨31,[(0,.sl 124 (l.map (sT 219))),(1,vI a),(5,.ref 5 1 [] 0 acc.length),(6,vI i)],[(5,⟨1,1,false,[.own 2 (iE acc)]⟩)],2⟩=
  some (.exit 0,⟨31,[(0,.sl 124 (l.map (sT 219))),(1,vI a),(5,.ref 5 1 [] 0 (acc++R6 l a f i).length),(6,vI n),(23,vB false)],[(5,⟨1,1,false,[.own 2 (iE (acc++R6 l a f i))]⟩)],2⟩)
 | 0,i,acc,h,hb=>by
  have A1:A3 (i:Int) (l.length:Int)=false:=C9 (by omega)
  refine⟨i,G3 ?_ (by simp)⟩
  simp (maxSteps:=1000000) +contextual -dsimp [f250,A1,R6]
 | f+1,i,acc,h,hb=>by
  have hi:i<l.length:=by omega
  have tU:=w.ok.le
  have A1:=U2 hi
  have hw:=S6 hi (by omega)
  have H9:acc.length+1≤D0:=by unfold D0;omega
  have g1:=Vp l tU i hi w.ahead
  have g2:=Vp l tU a ha w.ahead
  rw[show nV l i=dep l i from rfl] at g1
  rw[show nV l a=dep l a from rfl] at g2
  cases q:A3 (dep l a) (dep l i)
  ·refine⟨i,?_⟩
   have e:R6 l a (f+1) i=[]:=by simp[R6,q,A6]
   rw[e]
   refine G3 ?_ (by simp)
   simp (maxSteps:=1000000) +contextual -dsimp [f250,A1,g1,g2,q]
  ·have e:R6 l a (f+1) i=(i:Int)::R6 l a f (i+1):=by simp[R6,q,A1,A6]
   obtain⟨n,ih⟩:=b4o w a ha f (i+1) (acc++[(i:Int)]) (by omega) (by simp;omega)
   refine⟨n,?_⟩
   rw[e,show acc++(i:Int)::R6 l a f (i+1)=(acc++[(i:Int)])++R6 l a f (i+1) by simp]
   refine D6 ?_ ih
   simp (maxSteps:=1000000) +contextual -dsimp [f250,A1,hw,H9,g1,g2,q,List.set]
theorem c7k {l:List Step} (w:Wf l) (a:Nat):∀ (f i:Nat),i+f=l.length→a<i→Und l a (i - 1)→R6 l a f i=((List.range' i f).filter (lJ l a)).map (fun x:Nat=>(x:Int))
 | 0,i,h,_,_=>by simp[R6]
 | f+1,i,h,mS,hu=>by
  have hi:i<l.length:=by omega
  have A1:=U2 hi
  rw[List.range'_succ]
  cases q:A3 (dep l a) (dep l i)
  ·have e:R6 l a (f+1) i=[]:=by simp[R6,q,A6]
   rw[e]
   have hd:¬ dep l a<dep l i:=by simp[A3] at q;omega
   have hn:¬ Und l a i:=fun h=>hd ((w.piece hi h mS).2)
   have:(i::List.range' (i+1) f).filter (lJ l a)=[]:=by
    rw[List.filter_eq_nil_iff]
    intro j hj wQ
    have aQ:i≤j∧j<l.length:=by
     rcases List.mem_cons.1 hj with rfl | hj
     ·exact⟨Nat.le_refl _,hi⟩
     ·rw[List.mem_range'_1] at hj;omega
    have:=(Te w aQ.2).1 wQ
    exact hn (w.between aQ.2 this (j - i) i (by omega) (by omega))
   rw[this];rfl
  ·have e:R6 l a (f+1) i=(i:Int)::R6 l a f (i+1):=by simp[R6,q,A1,A6]
   have hd:dep l a<dep l i:=by simpa[A3] using q
   have wQ:=w.piece2 hi mS hu hd
   rw[e,c7k w a f (i+1) (by omega) (by omega) (by simpa using wQ),List.filter_cons_of_pos ((Te w hi).2 wQ)]
   rfl
theorem c9g {l:List Step} (w:Wf l) (a:Nat) (ha:a<l.length):(a:Int)::R6 l a (l.length - (a+1)) (a+1)=O7 l a:=by
 rw[Mk,c7k w a _ _ (by omega) (by omega) (by simpa using Und.self)]
 have e:l.length - a=(l.length - (a+1))+1:=by omega
 rw[e,List.range'_succ,List.filter_cons_of_pos ((Te w ha).2 .self)]
 rfl
theorem d7z {l:List Step} (w:Wf l) (a:Nat) (ha:a<l.length):fo 250 [A (.sl 124 (l.map (sT 219))),A (vI a)]=some ⟨.own 2 (iE (O7 l a)),[],true⟩:=by
 obtain⟨n,A4⟩:=b4o w a ha (l.length - (a+1)) (a+1) [(a:Int)] (by omega) (by simp)
 have hw:=S6 ha (by have:=w.ok.le;omega)
 rw[List.singleton_append,c9g w a ha] at A4
 have hc:K1 (iE (O7 l a))=true:=by generalize O7 l a=k;induction k<;>simp_all [K1,U9,clean]
 refine e9h (l.length - (a+1)+1) ?_
 simp -dsimp [f250,iE] at A4
 simp (maxSteps:=1000000) +contextual -dsimp [f250,hw,A4,hc,List.set]
theorem f0j (c:Chart) (ks:List Int) (hk:ks.length<2 ^ 62) (I5:∀ k,k∈ks→∃ x:Nat,k=x∧x<c.acts.length∧x<c.dues.length):
  B7 E (orc E) (197:Nat) (ks.length+1) (C1 f197 0) ⟨35,[(1,.ptr 1 0 [] 0),(6,iS ks),(7,vI (0:Nat))],[(1,⟨0,0,true,cO c⟩)],2⟩=
  some (.exit 0,⟨35,[(1,.ptr 1 0 [] 0),(6,iS ks),(7,vI ks.length),(14,vB false)],[(1,⟨0,0,true,cO (bM ks c)⟩)],2⟩):=by
 have h:=iJ (f:=197) (id:=0) (code:=C1 f197 0) ks (fun _ c'=>c'.acts.length=c.acts.length∧c'.dues.length=c.dues.length)
  (fun i c'=>⟨35,[(1,.ptr 1 0 [] 0),(6,iS ks),(7,vI i)],[(1,⟨0,0,true,cO c'⟩)],2⟩) (fun (_:Nat) (c:Chart) (k:Int)=>{ c with acts:=c.acts.set k.toNat 0,dues:=c.dues.set k.toNat 0 })
  (fun c'=>⟨35,[(1,.ptr 1 0 [] 0),(6,iS ks),(7,vI ks.length),(14,vB false)],[(1,⟨0,0,true,cO c'⟩)],2⟩)
 have h2:=h ?_ ?_ c ⟨rfl,rfl⟩
 ·rw[Li] at h2;exact h2
 ·intro k c' _
  have A1:=cF ks.length
  simp +contextual -dsimp [f197,A1]
 ·intro k i c' hi hI
  obtain⟨x,hx,h1,h2⟩:=I5 ks[i] (List.getElem_mem hi)
  have A1:=U2 hi
  have hw:=S6 hi hk
  have e1:x<c'.acts.length:=by omega
  have e2:x<c'.dues.length:=by omega
  refine⟨?_,by simp;exact hI⟩
  simp (maxSteps:=1000000) +contextual -dsimp [f197,A1,hi,hw,hx,e1,e2,List.set]
theorem b9n {l:List Step} (w:Wf l) (c:Chart) (ha:c.acts.length=l.length) (hd:c.dues.length=l.length) (k:Nat) (hk:k<l.length):
  fo 197 [A (.sl 124 (l.map (sT 219))),aC c,A (vI k)]=some (RC (bM (O7 l k) c)):=by
 have g:=d7z w k hk
 have D8:=c6u l k
 have hl:=w.ok.le
 have A4:=f0j c (O7 l k) (by omega) (fun k hk=>by
  obtain⟨x,h1,h2,h3,h4⟩:=c8z hk
  exact⟨x,h1,by omega,by omega⟩)
 refine d2i ((O7 l k).length+1) ?_
 simp -dsimp [f197] at A4
 simp (maxSteps:=1000000) +contextual -dsimp [f197,g,A4]
end Go.TM.Ft
