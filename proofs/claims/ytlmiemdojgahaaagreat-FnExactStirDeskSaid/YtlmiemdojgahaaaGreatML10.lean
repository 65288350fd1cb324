/- What functions of the program come to, by the machine. -/
import Derived.Test.YtlmiemdojgahaaaGreatML9
import Derived.Test.YtlmiemdojgahaaaGreatML8
set_option linter.unusedSimpArgs false
set_option linter.unusedVariables false
set_option maxHeartbeats 8000000
namespace Go.TM.Ft
open Go Go.TM Go.Proofs Go.Proofs.Tryz
set_option maxRecDepth 20000
attribute [local congr] O3
attribute [local simp] L9 M4 K0 L6 J6 L4 J8 J1 K5 I6 Y3 cQ
def xX (x:Int):Int:=if A0 x (-2)=true then -1 else x
theorem c7n {l:List Step} (w:Wf l) (c:Chart) (hv:c.vars.length=4) (W0:∀ x,x∈c.vars→badV x=false) (all:List Int) (B9:all.length≤24) (H8:∀ k,k∈all→∃ x:Nat,k=x∧x<l.length):∀ (rest:List Int) (i:Nat),all.drop i=rest→
    B7 E (orc E) (225:Nat) (rest.length+1) (C1 f225 0) ⟨53,[(0,.sl 124 (l.map (sT 219))),(1,.ipt (cT c)),(7,iS all),(8,vI i)],[],2⟩=
    (if A0 (H3 l c.vars rest) (-2) = true then some (.exit 0, ⟨53, [(0, .sl 124 (l.map (sT 219))), (1, .ipt (cT c)), (7, iS all), (8, vI (i + rest.length : Nat)), (18, vB false)], [], 2⟩)
     else some (.ret,⟨53,[(6,vI (H3 l c.vars rest))],[],2⟩))
  | [],i,h=>by
    have G5:all.length≤i:=by simpa using h
    have A1:A3 (i:Int) (all.length:Int)=false:=C9 (by omega)
    rw[D5]
    simp +contextual -dsimp [f225,A1,H3,D2]
  | k::rest,i,h=>by
    obtain⟨hi,hc,hr⟩:=F6 h
    obtain⟨x,hx,Z8⟩:=H8 k (by rw[←hc];exact List.getElem_mem _)
    have A1:=U2 hi
    have hw:=S6 hi (by omega)
    have he:i+1+rest.length=i+(rest.length+1):=by omega
    have ec:(l[x]).cond=condOf l x:=by simp[condOf,Z8]
    have hm:H3 l c.vars (k::rest)=(if A3 0 (condOf l x).length=true then kU (gM (condOf l x) c.vars) k (H3 l c.vars rest) else k):=by
      conv=>lhs;unfold H3
      rw[hx,Int.toNat_natCast]
    have wG:A0 (x:Int) (-2)=false:=by simp only[A0,beq_eq_false_iff_ne];omega
    cases q:A3 0 (condOf l x).length
    · have q0 : A0 (condOf l x).length 0 = true := by
        simp only[A3,decide_eq_false_iff_not] at q
        simp only[A0,beq_iff_eq];omega
      rw[q,if_neg (by simp)] at hm
      rw[hm,hx,wG,if_neg (by simp)]
      refine G3 ?_ (by simp)
      rw[hx] at hc
      simp (maxSteps:=1000000) +contextual -dsimp [f225,A1,hi,hc,Z8,ec,q0]
    · have q0 : A0 (condOf l x).length 0 = false := by
        simp only[A3,decide_eq_true_eq] at q
        simp only[A0,beq_eq_false_iff_ne];omega
      have g:=Xy (condOf l x) (w.condOf Z8 q) c.vars hv W0
      rw[q,if_pos rfl] at hm
      cases ev:gM (condOf l x) c.vars with
      | none=>
        rw[ev] at hm g
        simp only[RE] at g
        have hm:H3 l c.vars (k::rest)=-1:=hm
        have t1:A0 (-1) (-2)=false:=rfl
        rw[hm,t1,if_neg (by simp)]
        refine G3 ?_ (by simp)
        rw[hx] at hc
        simp (maxSteps:=1000000) +contextual -dsimp [f225,A1,hi,hc,Z8,ec,q0,g]
      | some v=>
        rw[ev] at hm g
        simp only[RE] at g
        cases q1:A0 v 1
        · have hm : H3 l c.vars (k :: rest) = H3 l c.vars rest := by simpa [q1, kU] using hm
          rw[hm]
          have ih:=c7n w c hv W0 all B9 H8 rest (i+1) hr
          rw[he] at ih
          refine D6 ?_ (by simpa only[List.length_cons] using ih)
          rw[hx] at hc
          simp (maxSteps:=1000000) +contextual -dsimp [f225,A1,hi,hc,hw,Z8,ec,q0,g,q1]
        · have hm : H3 l c.vars (k :: rest) = x := by simpa [q1, kU, hx] using hm
          rw[hm,wG,if_neg (by simp)]
          refine G3 ?_ (by simp)
          rw[hx] at hc
          simp (maxSteps:=1000000) +contextual -dsimp [f225,A1,hi,hc,Z8,ec,q0,g,q1]
theorem f1k {l:List Step} (w:Wf l) (c:Chart) (hv:c.vars.length=4) (W0:∀ x,x∈c.vars→badV x=false) (k:Nat):
  fo 225 [A (.sl 124 (l.map (sT 219))),A (.ipt (cT c)),A (vI k)]=some (R (vI (xX (H3 l c.vars (C0 k 0 l))))):=by
 have hT:=w.kids24 k
 have gk:=qK l (by have:=w.ok.le;omega) k
 rw[←jK w.ok] at gk
 generalize H8:C0 k 0 l=ks at *
 have A4:=c7n w c hv W0 ks hT (fun x hx=>by
  rw[←H8] at hx
  obtain⟨a,h1,h2,_⟩:=w.kid hx
  exact⟨a,h1,h2⟩) ks 0 rfl
 refine e6f (ks.length+1) ?_
 simp -dsimp [f225] at A4
 unfold xX
 cases q:A0 (H3 l c.vars ks) (-2)
 ·rw[q] at A4
  simp (maxSteps:=1000000) +contextual -dsimp [f225,gk,A4]
 ·rw[q] at A4
  simp (maxSteps:=1000000) +contextual -dsimp [f225,gk,A4]
theorem c7i (c:Chart) (all:List Int) (B9:all.length≤24) (H8:∀ k,k∈all→∃ x:Nat,k=x∧x<c.acts.length):∀ (rest:List Int) (i:Nat),all.drop i=rest→
  B7 E (orc E) (230:Nat) (rest.length+1) (C1 f230 0) ⟨29,[(1,.ipt (cT c)),(7,iS all),(8,vI i)],[],2⟩=
  (if aH (eC c.acts) rest=true then some (.ret,⟨29,[(6,vB false)],[],2⟩) else some (.exit 0,⟨29,[(1,.ipt (cT c)),(7,iS all),(8,vI (i+rest.length:Nat)),(15,vB false)],[],2⟩))
 | [],i,h=>by
  have G5:all.length≤i:=by simpa using h
  have A1:A3 (i:Int) (all.length:Int)=false:=C9 (by omega)
  have h0:aH (eC c.acts) []=false:=rfl
  rw[D5]
  simp +contextual -dsimp [f230,A1,h0]
 | k::rest,i,h=>by
  obtain⟨hi,hc,hr⟩:=F6 h
  obtain⟨x,hx,Z8⟩:=H8 k (by rw[←hc];exact List.getElem_mem _)
  have A1:=U2 hi
  have hw:=S6 hi (by omega)
  have he:i+1+rest.length=i+(rest.length+1):=by omega
  have hs:=O1 Z8
  have e:eC c.acts k=A2 (A0 c.acts[x] 2):=by unfold eC;rw[hx,hs]
  rw[hx] at hc
  cases q:A0 c.acts[x] 2
  ·have hm:aH (eC c.acts) (k::rest)=true:=by rw[rY];simp[e,q,A2]
   rw[hm,if_pos rfl]
   refine G3 ?_ (by simp)
   simp (maxSteps:=1000000) +contextual -dsimp [f230,A1,hi,hc,Z8,q]
  ·have hm:aH (eC c.acts) (k::rest)=aH (eC c.acts) rest:=by rw[rY,rY];simp[e,q,A2]
   rw[hm]
   have ih:=c7i c all B9 H8 rest (i+1) hr
   rw[he] at ih
   refine D6 ?_ (by simpa only[List.length_cons] using ih)
   simp (maxSteps:=1000000) +contextual -dsimp [f230,A1,hi,hc,Z8,hw,q]
theorem e4s {l:List Step} (w:Wf l) (c:Chart) (ha:c.acts.length=l.length) (k:Nat):
  fo 230 [A (.sl 124 (l.map (sT 219))),A (.ipt (cT c)),A (vI k)]=some (R (vB (A2 (aH (eC c.acts) (C0 k 0 l))))):=by
 have hT:=w.kids24 k
 have gk:=qK l (by have:=w.ok.le;omega) k
 rw[←jK w.ok] at gk
 generalize H8:C0 k 0 l=ks at *
 have A4:=c7i c ks hT (fun x hx=>by
  rw[←H8] at hx
  obtain⟨a,h1,h2,_⟩:=w.kid hx
  exact⟨a,h1,by omega⟩) ks 0 rfl
 refine f3e (ks.length+1) ?_
 simp -dsimp [f230] at A4
 cases q:aH (eC c.acts) ks
 ·rw[q] at A4
  simp (maxSteps:=1000000) +contextual -dsimp [f230,gk,A4]
 ·rw[q] at A4
  simp (maxSteps:=1000000) +contextual -dsimp [f230,gk,A4]
def eZ (v:Int):List Int→Int
 | x::y::r=>if A0 x v=true then y else eZ v (y::r)
 | _=>-1
theorem a8k {v:Int}:∀ {l:List Int},v∈l→eZ v l=if A3 (gP v l+1) l.length=true then B4 l (gP v l+1) else -1
 | [],h=>by simp at h
 | [x],h=>by
  have:x=v:=by simpa[eq_comm] using h
  subst this
  simp[eZ,gP,G8,D2,A3]
 | x::y::r,h=>by
  unfold eZ
  cases q:A0 x v
  ·have R5:x≠v:=by simpa[A0] using q
   have hm:v∈y::r:=by
    rcases List.mem_cons.1 h with h | h
    ·exact absurd h.symm R5
    ·exact h
   have ih:=a8k hm
   obtain⟨j,h1,h2,h3⟩:=zZ hm
   have e:gP v (x::y::r)=gP v (y::r)+1:=by
    have q':A0 v x=false:=by simp only[A0,beq_eq_false_iff_ne];exact fun h=>R5 h.symm
    have sh:∀ (l:List Int) (i:Nat),(∃ j:Nat,G8 (fun x=>A0 v x) i l=j)→G8 (fun x=>A0 v x) (i+1) l=G8 (fun x=>A0 v x) i l+1:=by
     intro l
     induction l with
     | nil=>intro i ⟨j,h⟩;simp only[G8] at h;omega
     | cons z l ih=>
      intro i ⟨j,h⟩
      unfold G8 at h ⊢
      split
      ·rename_i c;simp
      ·rename_i c;rw[if_neg c] at h;exact ih (i+1) ⟨j,h⟩
    have:gP v (x::y::r)=G8 (fun x=>A0 v x) 1 (y::r):=by
     unfold gP;conv=>lhs;unfold G8
     rw[q',if_neg (by simp)]
    rw[this]
    exact sh (y::r) 0 ⟨j,h1⟩
   simp only[Bool.false_eq_true,if_false]
   rw[ih,e,h1]
   have e1:((j:Int)+1+1)=((j+2:Nat):Int):=by omega
   have e2:((j:Int)+1)=((j+1:Nat):Int):=by omega
   rw[e1,e2]
   by_cases hj:j+1<(y::r).length
   ·rw[if_pos (by simp[A3];simp at hj;omega),if_pos (by simp[A3];simp at hj;omega),O1 hj,O1 (by simp at hj ⊢;omega)]
    rfl
   ·rw[if_neg (by simp[A3];simp at hj;omega),if_neg (by simp[A3];simp at hj;omega)]
  ·have:x=v:=by simpa[A0] using q
   subst this
   have e:gP x (x::y::r)=0:=by simp[gP,G8,D2]
   rw[e,if_pos rfl,if_pos (by simp only[A3,List.length_cons,decide_eq_true_eq];omega)]
   rfl
theorem a1h (v:Int) (all:List Int) (B9:all.length≤24) (hp:∀ x,x∈all→0≤x):∀ (rest:List Int) (i:Nat),all.drop i=rest→rest≠[]→
  ∃ n:Nat,B7 E (orc E) (229:Nat) (rest.length+1) (C1 f229 0) ⟨32,[(1,vI v),(5,iS all),(6,vI i)],[],2⟩=
  (if A0 (eZ v rest) (-1)=true then some (.exit 0,⟨32,[(1,vI v),(5,iS all),(6,vI n),(18,vB false)],[],2⟩) else some (.ret,⟨32,[(4,vI (eZ v rest))],[],2⟩))
 | [],i,h,hn=>absurd rfl hn
 | [x],i,h,hn=>by
  obtain⟨hi,hc,hr⟩:=F6 h
  have G5:all.length≤i+1:=by simpa using hr
  have hw:=S6 hi (by omega)
  have A1:A3 ((i+1:Nat):Int) (all.length:Int)=false:=C9 (by omega)
  refine⟨i,?_⟩
  have e1:A0 (eZ v [x]) (-1)=true:=rfl
  rw[e1,if_pos rfl]
  refine G3 ?_ (by simp)
  generalize i+1=i1 at *
  simp (maxSteps:=1000000) +contextual -dsimp [f229,hw,A1]
 | x::y::r,i,h,hn=>by
  obtain⟨hi,hc,hr⟩:=F6 h
  obtain⟨F8,P5,S0⟩:=F6 hr
  have hw:=S6 hi (by omega)
  have A1:=U2 F8
  have hx:0≤x:=hp x (by rw[←hc];exact List.getElem_mem _)
  have hy:0≤y:=hp y (by rw[←P5];exact List.getElem_mem _)
  cases q:A0 x v
  ·have hm:eZ v (x::y::r)=eZ v (y::r):=by
    conv=>lhs;unfold eZ
    rw[if_neg (by rw[q];simp)]
   rw[hm]
   obtain⟨n,ih⟩:=a1h v all B9 hp (y::r) (i+1) hr (by simp)
   refine⟨n,?_⟩
   have he:(x::y::r).length=(y::r).length+1:=rfl
   rw[he]
   refine D6 ?_ ih
   generalize i+1=i1 at *
   simp (maxSteps:=1000000) +contextual -dsimp [f229,hw,A1,hi,hc,q]
  ·have hm:eZ v (x::y::r)=y:=by
    conv=>lhs;unfold eZ
    rw[if_pos q]
   have fA:A0 y (-1)=false:=by simp[A0];omega
   refine⟨0,?_⟩
   rw[hm,fA,if_neg (by simp)]
   refine G3 ?_ (by simp)
   generalize i+1=i1 at *
   simp (maxSteps:=1000000) +contextual -dsimp [f229,hw,A1,hi,F8,hc,P5,q]
theorem e4k {l:List Step} (w:Wf l) (k p:Nat) (hk:k<l.length) (hp:parOf l k=p):
  fo 229 [A (.sl 124 (l.map (sT 219))),A (vI k)]=some (R (vI (eZ k (C0 p 0 l)))):=by
 have hT:=w.kids24 p
 have gk:=qK l (by have:=w.ok.le;omega) p
 rw[←jK w.ok] at gk
 have R7:=w.kid_of hk hp
 have hp':(l[k]).parent=(p:Int):=by rw[←qP hk];exact hp
 have dO:∀ x,x∈C0 p 0 l→0≤x:=fun x hx=>by obtain⟨a,h1,_⟩:=w.kid hx;omega
 generalize H8:C0 p 0 l=ks at *
 obtain⟨n,A4⟩:=a1h k ks hT dO ks 0 rfl (fun h=>by rw[h] at R7;simp at R7)
 refine e7f (ks.length+1) ?_
 simp -dsimp [f229] at A4
 cases q:A0 (eZ k ks) (-1)
 ·rw[q] at A4
  simp (maxSteps:=1000000) +contextual -dsimp [f229,hk,hp',gk,A4]
 ·rw[q] at A4
  have e:eZ k ks=-1:=by simpa[A0] using q
  simp (maxSteps:=1000000) +contextual -dsimp [f229,hk,hp',gk,A4,e]
section
variable {l:List Step}
theorem e3c (w:Wf l) (vars:List Int) {k:Nat} (hk:k<l.length) (h3:C2 l k=3):H3 l vars (C0 k 0 l)≠-2:=by
 have hn:=w.kidsN hk
 rw[h3] at hn
 have D7:2≤(C0 k 0 l).length:=by
  simp[T3,A0,A5,A6,B5] at hn;omega
 have hlast:∀ x,x∈C0 k 0 l→x=B4 (C0 k 0 l) ((C0 k 0 l).length - 1)→A3 0 (condOf l x.toNat).length=false:=by
  intro x hx he
  obtain⟨a,ha,S2,P1,yU⟩:=w.kid hx
  have hc:=w.ok.cond a S2
  unfold condFaultM at hc
  have zH:uG l a=0:=by
   split at hc
   ·exact hc
   ·rename_i c
    simp[A7,A2,A0] at c
    exact c.1
  have h2:=(P9 zH).2
  have hw:oQ l a=false:=by
   unfold oQ
   rw[yU,if_neg (by simp[A7,A2,A0,h3];omega),←he,ha]
   simp[A2,A0]
  rw[hw] at h2
  have hh:jI l a=false:=by
   cases q:jI l a
   ·rfl
   ·rw[q] at h2;simp[W4,A2] at h2
  rw[ha,Int.toNat_natCast]
  have e:A3 0 (condOf l a).length=jI l a:=by simp[jI,condOf,S2]
  rw[e];exact hh
 have dO:∀ x,x∈C0 k 0 l→0≤x:=fun x hx=>by obtain⟨a,h1,_⟩:=w.kid hx;omega
 have key:∀ (r:List Int),r≠[]→(∀ x,x∈r→0≤x)→A3 0 (condOf l (B4 r (r.length - 1)).toNat).length=false→H3 l vars r≠-2:=by
  intro r
  induction r with
  | nil=>intro h;exact absurd rfl h
  | cons x r ih=>
   intro _ hp hc
   unfold H3
   have hx:=hp x (by simp)
   cases r with
   | nil=>
    have:B4 [x] (([x]:List Int).length - 1)=x:=rfl
    rw[this] at hc
    rw[hc,if_neg (by simp)];omega
   | cons y r=>
    have e:B4 (x::y::r) ((x::y::r).length - 1)=B4 (y::r) ((y::r).length - 1):=by
     have e1:(((x::y::r).length:Int) - 1)=((r.length+1:Nat):Int):=by simp
     have e2:(((y::r).length:Int) - 1)=((r.length:Nat):Int):=by simp
     rw[e1,e2,O1 (by simp),O1 (by simp)]
     rfl
    rw[e] at hc
    have ih:=ih (by simp) (fun z hz=>hp z (by simp[hz])) hc
    unfold kU
    split
    ·split
     ·simp
     ·split
      ·omega
      ·exact ih
    ·omega
 have e1:(((C0 k 0 l).length:Int) - 1)=(((C0 k 0 l).length - 1:Nat):Int):=by omega
 refine key _ (fun h=>by rw[h] at D7;simp at D7) dO ?_
 refine hlast _ ?_ rfl
 rw[e1];exact oA (by omega)
def GoOk4 (l:List Step) (go:Bool→Nat→Chart→Option Chart):Prop:=
 ∀ b k c c',Inv l c→k<l.length→go b k c=some c'→fo (if b=true then 161 else 165) [A (.sl 124 (l.map (sT 219))),aC c,A (vI k)]=some (RC c')∧Inv l c'
theorem GoOk4.ent {go} (g:GoOk4 l go) {k:Nat} {c c':Chart} (h:Inv l c) (hk:k<l.length) (hc:go true k c=some c'):fo 161 [A (.sl 124 (l.map (sT 219))),aC c,A (vI k)]=some (RC c')∧Inv l c':=g true k c c' h hk hc
theorem GoOk4.ovr {go} (g:GoOk4 l go) {k:Nat} {c c':Chart} (h:Inv l c) (hk:k<l.length) (hc:go false k c=some c'):fo 165 [A (.sl 124 (l.map (sT 219))),aC c,A (vI k)]=some (RC c')∧Inv l c':=g false k c c' h hk hc
theorem c5e (w:Wf l) {go} (g:GoOk4 l go) (all:List Int) (B9:all.length≤24) (H8:∀ k,k∈all→∃ x:Nat,k=x∧x<l.length):∀ (rest:List Int) (i:Nat) (c c':Chart),all.drop i=rest→Inv l c→iI go rest c=some c'→
  B7 E (orc E) (161:Nat) (rest.length+1) (C1 f161 0) ⟨143,[(0,.sl 124 (l.map (sT 219))),(1,.ptr 1 0 [] 0),(6,iS all),(7,vI i)],[(1,⟨0,0,true,cO c⟩)],2⟩=
  some (.exit 1,⟨143,[(0,.sl 124 (l.map (sT 219))),(1,.ptr 1 0 [] 0),(6,iS all),(7,vI (i+rest.length:Nat)),(43,vB false)],[(1,⟨0,0,true,cO c'⟩)],2⟩)∧Inv l c'
 | [],i,c,c',h,hI,hg=>by
  have G5:all.length≤i:=by simpa using h
  have A1:A3 (i:Int) (all.length:Int)=false:=C9 (by omega)
  simp only[iI,Option.some.injEq] at hg;subst hg
  refine⟨?_,hI⟩
  rw[D5]
  simp +contextual -dsimp [f161,A1]
 | k::rest,i,c,c',h,hI,hg=>by
  obtain⟨hi,hc,hr⟩:=F6 h
  obtain⟨x,hx,Z8⟩:=H8 k (by rw[←hc];exact List.getElem_mem _)
  have A1:=U2 hi
  have hw:=S6 hi (by omega)
  have he:i+1+rest.length=i+(rest.length+1):=by omega
  unfold iI at hg
  rw[hx,Int.toNat_natCast] at hg
  cases q:go true x c with
  | none=>rw[q] at hg;simp at hg
  | some c1=>
   rw[q] at hg
   obtain⟨g1,g2⟩:=g.ent hI Z8 q
   obtain⟨ih,hI'⟩:=c5e w g all B9 H8 rest (i+1) c1 c' hr g2 hg
   rw[he] at ih
   refine⟨D6 ?_ (by simpa only[List.length_cons] using ih),hI'⟩
   rw[hx] at hc
   simp (maxSteps:=1000000) +contextual -dsimp [f161,A1,hi,hc,hw,g1]
theorem e2n (w:Wf l) {go} (g:GoOk4 l go) (k:Nat) (hk:k<l.length) (c c':Chart) (hI:Inv l c)
  (h:(if A0 c.status 1=true then oS go l k { c with acts:=c.acts.set k 1 } else some c)=some c'):fo 161 [A (.sl 124 (l.map (sT 219))),aC c,A (vI k)]=some (RC c')∧Inv l c':=by
 have tU:=w.ok.le
 cases q0:A0 c.status 1
 ·rw[q0,if_neg (by simp)] at h
  simp only[Option.some.injEq] at h;subst h
  refine⟨?_,hI⟩
  refine nF 1 ?_
  simp (maxSteps:=1000000) +contextual -dsimp [f161,q0]
 rw[q0,if_pos rfl] at h
 have gk:=qK l (by omega) k
 rw[←jK w.ok] at gk
 have P1:k<c.acts.length:=by rw[hI.acts];exact hk
 have M9:k<c.dues.length:=by rw[hI.dues];exact hk
 have V8:(l[k]).kind=C2 l k:=(rE hk).symm
 have pD:(l[k]).arg=U7 l k:=by simp[U7,hk]
 have oM:(l[k]).expr=kK l k:=by simp[kK,hk]
 have hn:=w.kidsN hk
 have hT:=w.kids24 k
 have Hu:=e3c w c.vars hk
 obtain⟨c1,K3⟩:∃ c1:Chart,c1={ c with acts:=c.acts.set k 1 }:=⟨_,rfl⟩
 have J9:Inv l c1:=by rw[K3];exact hI.act k 1
 have e1:c1.status=c.status:=by rw[K3]
 have e2:c1.now=c.now:=by rw[K3]
 have e3:c1.vars=c.vars:=by rw[K3]
 have e4:c1.acts=c.acts.set k 1:=by rw[K3]
 have e5:c1.dues=c.dues:=by rw[K3]
 have gcx:=f1k w c1 J9.vars J9.rng k
 rw[←K3] at h
 generalize H8:C0 k 0 l=ks at *
 have dM:∀ x,x∈ks→∃ a:Nat,x=a∧a<l.length:=fun x hx=>by
  rw[←H8] at hx
  obtain⟨a,h1,h2,_⟩:=w.kid hx
  exact⟨a,h1,h2⟩
 unfold oS at h
 rw[H8] at h
 cases q1:A0 (C2 l k) 1
 ·cases q4:A0 (C2 l k) 4
  ·cases q3:A0 (C2 l k) 3
   ·cases q8:A0 (C2 l k) 8
    ·cases q6:A0 (C2 l k) 6
     ·cases q7:A0 (C2 l k) 7
      ·simp only[q1,q4,q3,q8,q6,q7,Bool.false_eq_true,if_false,Option.some.injEq] at h
       subst h
       refine⟨?_,J9⟩
       refine nF 1 ?_
       simp (maxSteps:=1000000) +contextual -dsimp [f161,q0,hk,P1,gk,V8,q1,q4,q3,q8,q6,q7,e1,e2,e3,e4,e5,List.set]
      ·simp only[q1,q4,q3,q8,q6,q7,Bool.false_eq_true,if_false,if_true] at h
       have h7:(l[k]).kind=7:=by rw[V8];simpa[A0] using q7
       obtain⟨okx,a0,a3⟩:=w.expr hk h7
       rw[oM] at okx
       rw[pD] at a0 a3
       obtain⟨m,hm⟩:=Int.eq_ofNat_of_zero_le a0
       have fB:m<c.vars.length:=by rw[hI.vars];omega
       have ge:=Xy (kK l k) okx c.vars hI.vars hI.rng
       rw[e3] at h
       cases ev:gM (kK l k) c.vars with
       | none=>
        rw[ev] at h ge
        simp only[RE] at ge
        simp only[Option.some.injEq] at h
        have gs:=Fz (l:=l) c1 J9.acts J9.dues (by omega) 3
        subst h
        refine⟨?_,J9.stop 3⟩
        rw[K3] at gs ⊢
        simp only[aC,Kb,cO,RC,Pt,aU,iE,List.map_set] at gs ⊢
        refine nF 1 ?_
        simp (maxSteps:=1000000) +contextual -dsimp [f161,q0,hk,P1,gk,V8,oM,q1,q4,q3,q8,q6,q7,ge,gs,List.set]
       | some v=>
        rw[ev] at h ge
        simp only[RE] at ge
        simp only[hm,Int.toNat_natCast] at h
        obtain⟨g1,g2⟩:=g.ovr (J9.var m (Ou okx ev)) hk (by rw[e3];exact h)
        rw[K3] at g1
        simp only[aC,cO,RC,iE,List.map_set] at g1
        refine⟨?_,g2⟩
        refine nF 1 ?_
        simp (maxSteps:=1000000) +contextual -dsimp [f161,q0,hk,P1,gk,V8,oM,pD,hm,fB,q1,q4,q3,q8,q6,q7,ge,g1,List.set]
     ·simp only[q1,q4,q3,q8,q6,Bool.false_eq_true,if_false,if_true,Option.some.injEq] at h
      obtain⟨a1,a2⟩:=w.arg hk (.inl (by simpa[A0] using q6))
      have hw:IntKind.i64.wrap (c.now+U7 l k)=c.now+U7 l k:=by have:=hI.now0;have:=hI.now1;rw[B6]<;>omega
      subst h
      refine⟨?_,by simpa only[e5,e2] using J9.due k (c.now+U7 l k)⟩
      refine nF 1 ?_
      simp (maxSteps:=1000000) +contextual -dsimp [f161,q0,hk,P1,M9,gk,V8,pD,hw,q1,q4,q3,q8,q6,e1,e2,e3,e4,e5,List.set]
    ·simp only[q1,q4,q3,q8,Bool.false_eq_true,if_false,if_true] at h
     have h8:C2 l k=8:=by simpa[A0] using q8
     obtain⟨a1,a2⟩:=w.arg hk (.inr h8)
     have hw:IntKind.i64.wrap (c.now+U7 l k)=c.now+U7 l k:=by have:=hI.now0;have:=hI.now1;rw[B6]<;>omega
     rw[h8] at hn
     obtain⟨x,r,rfl⟩:∃ x r,ks=x::r:=by
      cases ks with
      | nil=>simp[T3,A0,A5,A6,B5] at hn
      | cons x r=>exact⟨x,r,rfl⟩
     obtain⟨y,rfl,cP⟩:=dM x (by simp)
     have es:B4 ((y:Int)::r) 0=y:=rfl
     rw[es,Int.toNat_natCast] at h
     obtain⟨g1,g2⟩:=g.ent (J9.due k (c1.now+U7 l k)) cP h
     rw[K3] at g1
     simp only[aC,cO,RC,iE,List.map_set] at g1
     refine⟨?_,g2⟩
     refine nF 1 ?_
     simp (maxSteps:=1000000) +contextual -dsimp [f161,q0,hk,P1,M9,gk,V8,pD,hw,q1,q4,q3,q8,g1,List.set]
   ·simp only[q1,q4,q3,Bool.false_eq_true,if_false,if_true] at h
    have Hj:H3 l c1.vars ks=-1∨H3 l c1.vars ks=-2∨H3 l c1.vars ks∈ks:=by
     clear h hn hT H8 gk Hu gcx
     induction ks with
     | nil=>exact .inr (.inl rfl)
     | cons x r ih=>
      have ih:=ih (fun y hy=>dM y (by simp[hy]))
      unfold H3 kU
      split
      ·split
       ·exact .inl rfl
       ·split
        ·exact .inr (.inr (by simp))
        ·rcases ih with h | h | h
         ·exact .inl h
         ·exact .inr (.inl h)
         ·exact .inr (.inr (by simp[h]))
      ·exact .inr (.inr (by simp))
    have Hu:=Hu (by simpa[A0] using q3)
    rw[e3] at Hj gcx h
    rcases Hj with q | q | q
    ·have q':xX (H3 l c.vars ks)=-1:=by rw[q];rfl
     rw[q] at h
     simp[A0] at h
     subst h
     have gs:=Fz (l:=l) c1 J9.acts J9.dues (by omega) 3
     rw[q'] at gcx
     refine⟨?_,J9.stop 3⟩
     rw[K3] at gs gcx ⊢
     simp only[aC,Kb,cO,cT,iS,RC,Pt,aU,iE,List.map_set] at gs gcx ⊢
     have l1:A3 (-1) 0=true:=rfl
     refine nF 1 ?_
     simp (maxSteps:=1000000) +contextual -dsimp [f161,q0,hk,P1,gk,V8,q1,q4,q3,gcx,gs,l1,List.set]
    ·exact absurd q Hu
    ·obtain⟨y,hy,cP⟩:=dM _ q
     have q':xX (H3 l c.vars ks)=y:=by rw[hy];simp[xX,A0]<;>omega
     rw[hy] at h
     rw[if_neg (by simp[A0]<;>omega),if_neg (by simp[A0]<;>omega),Int.toNat_natCast] at h
     obtain⟨g1,g2⟩:=g.ent J9 cP h
     rw[q'] at gcx
     refine⟨?_,g2⟩
     rw[K3] at g1 gcx
     simp only[aC,cO,cT,iS,RC,iE,List.map_set] at g1 gcx
     have l1:A3 (y:Int) 0=false:=C9 (by omega)
     refine nF 1 ?_
     simp (maxSteps:=1000000) +contextual -dsimp [f161,q0,hk,P1,gk,V8,q1,q4,q3,gcx,g1,l1,List.set]
  ·simp only[q1,q4,Bool.false_eq_true,if_false,if_true] at h
   obtain⟨g1,g2⟩:=c5e w g ks hT dM ks 0 c1 c' rfl J9 h
   refine⟨?_,g2⟩
   rw[K3] at g1
   simp only[cO,iE,List.map_set] at g1
   simp -dsimp [f161] at g1
   refine nF (ks.length+1) ?_
   simp (maxSteps:=1000000) +contextual -dsimp [f161,q0,hk,P1,gk,V8,q1,q4,g1,List.set]
 ·simp only[q1,if_true] at h
  have h1:C2 l k=1:=by simpa[A0] using q1
  rw[h1] at hn
  obtain⟨x,r,rfl⟩:∃ x r,ks=x::r:=by
   cases ks with
   | nil=>simp[T3,A0,A5,A6,B5] at hn
   | cons x r=>exact⟨x,r,rfl⟩
  obtain⟨y,rfl,cP⟩:=dM x (by simp)
  have es:B4 ((y:Int)::r) 0=y:=rfl
  rw[es,Int.toNat_natCast] at h
  obtain⟨g1,g2⟩:=g.ent J9 cP h
  rw[K3] at g1
  simp only[aC,cO,RC,iE,List.map_set] at g1
  refine⟨?_,g2⟩
  refine nF 1 ?_
  simp (maxSteps:=1000000) +contextual -dsimp [f161,q0,hk,P1,gk,V8,q1,g1,List.set]
end
section
variable {l:List Step}
theorem f0a (w:Wf l) {go} (g:GoOk4 l go) (k:Nat) (hk:k<l.length) (c c':Chart) (hI:Inv l c)
    (h:qE go l k (bM (O7 l k) c)=some c'):fo 165 [A (.sl 124 (l.map (sT 219))),aC c,A (vI k)]=some (RC c')∧Inv l c':=by
  have tU:=w.ok.le
  have gi:=b9n w c hI.acts hI.dues k hk
  obtain⟨c1,K3⟩:∃ c1:Chart,c1=bM (O7 l k) c:=⟨_,rfl⟩
  have J9:Inv l c1:=by rw[K3];exact hI.idle _
  rw[←K3] at gi h
  unfold qE at h
  cases q0:A0 (k:Int) 0
  · rw [q0, if_neg (by simp)] at h
    have mQ:0<k:=by
     rcases Nat.eq_zero_or_pos k with e|e
     ·subst e;simp [A0] at q0
     ·exact e
    obtain⟨p,hp,gQ⟩:=w.par hk mQ
    have R8:p<l.length:=by omega
    rw[hp,Int.toNat_natCast] at h
    have hp':(l[k]).parent=(p:Int):=by rw[←qP hk];exact hp
    have lN:A3 (p:Int) 0=false:=C9 (by omega)
    have fH:(l[p]).kind=C2 l p:=(rE R8).symm
    have ga:=e4k w k p hk hp
    have P1:k<c1.acts.length:=by rw[J9.acts];exact hk
    have R7:=w.kid_of hk hp
    rw[a8k R7] at ga
    unfold Al at h
    have S2:∀ c2:Chart,Inv l c2→fo 230 [A (.sl 124 (l.map (sT 219))),A (.ipt (cT c2)),A (vI p)]=some (R (vB (A2 (aH (eC c2.acts) (C0 p 0 l))))):=fun c2 h2=>e4s w c2 h2.acts p
    generalize H8:C0 p 0 l=ks at *
    have dM:∀ x,x∈ks→∃ a:Nat,x=a∧a<l.length:=fun x hx=>by
      rw[←H8] at hx
      obtain⟨a,h1,h2,_⟩:=w.kid hx
      exact⟨a,h1,h2⟩
    cases q1:A0 (C2 l p) 1
    · cases q4 : A0 (C2 l p) 4
      · simp only [q1, q4, Bool.false_eq_true, if_false] at h
        obtain⟨g1,g2⟩:=g.ovr J9 R8 h
        refine⟨?_,g2⟩
        refine vN 1 ?_
        simp (maxSteps:=1000000) +contextual -dsimp [f165,gi,hk,hp',lN,R8,fH,q1,q4,g1,List.set]
      · simp only [q1, q4, Bool.false_eq_true, if_false, if_true] at h
        obtain⟨c2,P5⟩:∃ c2:Chart,c2={ c1 with acts:=c1.acts.set k 2 }:=⟨_,rfl⟩
        have lE:Inv l c2:=by rw[P5];exact J9.act k 2
        have ea:c2.acts=c1.acts.set k 2:=by rw[P5]
        rw[←P5,←ea] at h
        have gn:=S2 c2 lE
        cases q5:aH (eC c2.acts) ks
        · rw [q5] at h gn
          rw[Dv] at gn
          simp only[Bool.false_eq_true,if_false] at h
          obtain⟨g1,g2⟩:=g.ovr lE R8 h
          refine⟨?_,g2⟩
          rw[P5] at gn g1
          simp only[aC,cO,cT,iS,RC,iE,List.map_set] at gn g1
          refine vN 1 ?_
          simp (maxSteps:=1000000) +contextual -dsimp [f165,gi,hk,P1,hp',lN,R8,fH,q1,q4,gn,g1,List.set]
        · rw [q5] at h gn
          rw[Ca] at gn
          simp only[if_true,Option.some.injEq] at h
          subst h
          refine⟨?_,lE⟩
          rw[P5] at gn ⊢
          simp only[aC,cO,cT,iS,RC,iE,List.map_set] at gn ⊢
          refine vN 1 ?_
          simp (maxSteps:=1000000) +contextual -dsimp [f165,gi,hk,P1,hp',lN,R8,fH,q1,q4,gn,List.set]
    · simp only [q1, if_true] at h
      obtain⟨j,e1,e2,e3⟩:=zZ R7
      rw[e1] at h ga
      obtain⟨j1,Kk⟩:∃ j1,j1=j+1:=⟨_,rfl⟩
      have aQ:(j:Int)+1=(j1:Int):=by omega
      rw[aQ] at h ga
      cases q2:A3 (j1:Int) ks.length
      · rw [q2, if_neg (by simp)] at h ga
        have l1:B5 0 (-1)=false:=rfl
        obtain⟨g1,g2⟩:=g.ovr J9 R8 h
        refine⟨?_,g2⟩
        refine vN 1 ?_
        simp (maxSteps:=1000000) +contextual -dsimp [f165,gi,hk,hp',lN,R8,fH,q1,ga,l1,g1,List.set]
      · rw [q2, if_pos rfl] at h ga
        have hj:j1<ks.length:=by simp[A3] at q2;omega
        obtain⟨y,hy,cP⟩:=dM _ (oA hj)
        rw[hy] at ga h
        rw[Int.toNat_natCast] at h
        have l1:B5 0 (y:Int)=true:=b7s (by omega)
        obtain⟨g1,g2⟩:=g.ent J9 cP h
        refine⟨?_,g2⟩
        refine vN 1 ?_
        simp (maxSteps:=1000000) +contextual -dsimp [f165,gi,hk,hp',lN,R8,fH,q1,ga,l1,g1,List.set]
  · rw [q0, if_pos rfl] at h
    simp only[Option.some.injEq] at h
    subst h
    have mQ : k = 0 :=by
     have : (k : Int) = 0 := by simpa [A0] using q0
     omega
    subst mQ
    have hp':(l[0]).parent=-1:=w.ok.par0 hk
    have l1:A3 (-1) 0=true:=rfl
    have gs:=Fz (l:=l) c1 J9.acts J9.dues (by omega) 2
    have e0:((0:Nat):Int)=0:=rfl
    rw[e0] at gi ⊢
    refine⟨?_,J9.stop 2⟩
    refine vN 1 ?_
    simp (maxSteps:=1000000) +contextual -dsimp [f165,gi,hk,hp',l1,gs,List.set]
theorem Ck (w:Wf l):∀ f,GoOk4 l (V1 l f)
 | 0,_,_,_,_,_,_,h=>by simp[V1] at h
 | f+1,true,k,c,c',hI,hk,h=>by
  unfold V1 at h
  exact e2n w (Ck w f) k hk c c' hI h
 | f+1,false,k,c,c',hI,hk,h=>by
  unfold V1 at h
  exact f0a w (Ck w f) k hk c c' hI h
end
end Go.TM.Ft
namespace Go.TM.Ft
open Go Go.TM Go.Proofs Go.Proofs.Tryz
set_option maxRecDepth 20000
section
variable {l:List Step}
theorem Ya (a:Nat):∀ (f i:Nat),(R6 l a f i).length≤f
 | 0,_=>by simp[R6]
 | f+1,i=>by
  unfold R6
  split
  ·have:=Ya a f (i+1);simp;omega
  ·simp
theorem Zk (w:Wf l) (a:Nat):∀ (f i:Nat),i+f=l.length→a<i→Und l a (i - 1)→∀ j,i≤j→j<i+(R6 l a f i).length→Und l a j
 | 0,i,_,_,_,j,h1,h2=>by simp[R6] at h2;omega
 | f+1,i,h,mS,hu,j,h1,h2=>by
  unfold R6 at h2
  split at h2
  ·rename_i c
   have hi:i<l.length:=by omega
   have hd:dep l a<dep l i:=by simp[A6,A3] at c;exact c.2
   have wL:=w.piece2 hi mS hu hd
   rcases Nat.lt_or_ge i j with h' | h'
   ·simp only[List.length_cons] at h2
    exact Zk w a f (i+1) (by omega) (by omega) (by simpa using wL) j h' (by omega)
   ·have:j=i:=by omega
    rw[this];exact wL
  ·simp at h2;omega
theorem Za (w:Wf l) (a:Nat):∀ (f i m:Nat),i+f=l.length→a<i→m<l.length→(∀ j,i≤j→j≤m→Und l a j)→m+1≤i+(R6 l a f i).length
 | 0,i,m,h,_,hm,_=>by omega
 | f+1,i,m,h,mS,hm,hu=>by
  rcases Nat.lt_or_ge m i with h' | h'
  ·omega
  ·have hi:i<l.length:=by omega
   have wL:=hu i (Nat.le_refl _) h'
   have hd:=(w.piece hi wL mS).2
   have hc:A6 (A3 (i:Int) l.length) (A3 (dep l a) (dep l i))=true:=by simp[A6,A3];exact⟨by omega,hd⟩
   unfold R6
   rw[if_pos hc]
   have:=Za w a f (i+1) m (by omega) (by omega) hm (fun j h1 h2=>hu j (by omega) h2)
   simp;omega
def en (l:List Step) (k:Nat):Nat:=k+(R6 l k (l.length - (k+1)) (k+1)).length
theorem a6t (k:Nat):k≤en l k:=by unfold en;omega
theorem Hk {k:Nat} (hk:k<l.length):en l k<l.length:=by
 have:=Ya (l:=l) k (l.length - (k+1)) (k+1)
 unfold en;omega
theorem Uj (w:Wf l) {k j:Nat} (hk:k<l.length) (h1:k≤j) (h2:j≤en l k):Und l k j:=by
 rcases Nat.lt_or_ge k j with h | h
 ·exact Zk w k (l.length - (k+1)) (k+1) (by omega) (by omega) (by simpa using Und.self) j (by omega) (by unfold en at h2;omega)
 ·have:j=k:=by omega
  rw[this];exact .self
theorem e0s (w:Wf l) {k j:Nat} (hk:k<l.length) (hj:j<l.length) (hu:Und l k j):j≤en l k:=by
 rcases Nat.lt_or_ge k j with h | h
 ·have:=Za w k (l.length - (k+1)) (k+1) j (by omega) (by omega) hj (fun i h1 h2=>w.between hj hu (j - i) i (by omega) (by omega))
  unfold en;omega
 ·unfold en;omega
theorem e0r (w:Wf l) {k p:Nat} (hk:k<l.length) (hp:parOf l k=(p:Int)) (gQ:p<k):en l k≤en l p:=
 e0s w (by omega) (Hk hk) ((Und.up hk hp gQ .self).trans (Uj w hk (a6t k) (Nat.le_refl _)))
theorem f2q (w:Wf l) {k s p:Nat} (hk:k<l.length) (hs:s<l.length) (H8:k<s) (hp:parOf l s=(p:Int)) (gQ:p<k):en l k<s:=by
 rcases Nat.lt_or_ge (en l k) s with h | h
 ·exact h
 ·have hu:=Uj w hk (Nat.le_of_lt H8) h
  have:=(hu.down (by omega) hp).le
  omega
theorem d6w (w:Wf l) {k:Nat} (hk:k<l.length) (h:C0 k 0 l=[]):en l k=k:=by
 rcases Nat.lt_or_ge k (en l k) with h1 | h1
 ·exfalso
  have hu:=Uj w hk (Nat.le_succ k) h1
  have iA:k+1<l.length:=by have:=Hk hk;omega
  obtain⟨q,h2,h3⟩:=w.par iA (by omega)
  have:=(hu.down (by omega) h2).le
  have e:q=k:=by omega
  rw[e] at h2
  have:=w.kid_of iA h2
  rw[h] at this;simp at this
 ·have:=a6t (l:=l) k;omega
theorem c2y {p:Int}:∀ (r:List Step) (i:Nat),(D4 p i r).Pairwise (· < ·)∧∀ x,x∈D4 p i r→(i:Int)≤x
 | [],i=>by simp[D4]
 | s::r,i=>by
  obtain⟨h1,h2⟩:=c2y (p:=p) r (i+1)
  unfold D4
  split
  ·refine⟨List.pairwise_cons.2 ⟨fun x hx=>by have:=h2 x hx;omega,h1⟩,fun x hx=>?_⟩
   rcases List.mem_cons.1 hx with rfl | hx
   ·omega
   ·have:=h2 x hx;omega
  ·exact⟨h1,fun x hx=>by have:=h2 x hx;omega⟩
def mu (l:List Step):Bool→Nat→Nat
 | true,k=>(l.length - k)*26+25
 | false,k=>(l.length - en l k)*26+k
theorem c6k {go:Bool→Nat→Chart→Option Chart}:∀ (ks:List Int) (c:Chart),(∀ x,x∈ks→∀ c,∃ c',go true x.toNat c=some c')→∃ c',iI go ks c=some c'
 | [],c,_=>⟨c,rfl⟩
 | k::r,c,h=>by
  obtain⟨c1,h1⟩:=h k (by simp) c
  obtain⟨c2,h2⟩:=c6k r c1 (fun x hx=>h x (by simp[hx]))
  exact⟨c2,by simp only[iI,h1,h2]⟩
theorem Ss (l:List Step) (vars:List Int):∀ (ks:List Int),H3 l vars ks=-1∨H3 l vars ks=-2∨H3 l vars ks∈ks
 | []=>.inr (.inl rfl)
 | x::r=>by
  have ih:=Ss l vars r
  unfold H3 kU
  split
  ·split
   ·exact .inl rfl
   ·split
    ·exact .inr (.inr (by simp))
    ·rcases ih with h | h | h
     ·exact .inl h
     ·exact .inr (.inl h)
     ·exact .inr (.inr (by simp[h]))
  ·exact .inr (.inr (by simp))
theorem Wf.kid0 (w:Wf l) {k:Nat} (hk:k<l.length) (h:C2 l k=1∨C2 l k=8):∃ a:Nat,B4 (C0 k 0 l) 0=a∧a<l.length∧k<a:=by
 have hn:=w.kidsN hk
 have dO:0<(C0 k 0 l).length:=by rcases h with h | h<;>rw[h] at hn<;>simp[T3,A0,A5,A6,B5] at hn<;>omega
 have hm:=oA dO
 obtain⟨a,h1,h2,h3,_⟩:=w.kid hm
 exact⟨a,h1,h2,h3⟩
theorem e7w (w:Wf l) (f k:Nat) (hk:k<l.length) (hm:mu l true k<f+1) (ent:∀ (a:Nat) (c:Chart),a<l.length→k<a→∃ c',V1 l f true a c=some c') (c:Chart)
  (ovr:∀ c,mu l false k<f→∃ c',V1 l f false k c=some c'):∃ c',oS (V1 l f) l k c=some c':=by
  unfold oS
  split
  ·rename_i q
   obtain⟨a,h1,h2,h3⟩:=w.kid0 hk (.inl (by simpa[A0] using q))
   rw[h1,Int.toNat_natCast]
   exact ent a _ h2 h3
  split
  ·refine c6k _ _ fun x hx c=>?_
   obtain⟨a,h1,h2,h3,_⟩:=w.kid hx
   rw[h1,Int.toNat_natCast]
   exact ent a _ h2 h3
  split
  ·split
   ·exact⟨_,rfl⟩
   ·rename_i n1
    split
    ·exact⟨_,rfl⟩
    ·rename_i n2
     rcases Ss l _ (C0 k 0 l) with h | h | h
     ·exact absurd (by rw[h];rfl) n1
     ·exact absurd (by rw[h];rfl) n2
     ·obtain⟨a,h1,h2,h3,_⟩:=w.kid h
      rw[h1,Int.toNat_natCast]
      exact ent a _ h2 h3
  split
  ·rename_i q
   obtain⟨a,h1,h2,h3⟩:=w.kid0 hk (.inr (by simpa[A0] using q))
   rw[h1,Int.toNat_natCast]
   exact ent a _ h2 h3
  split
  ·exact⟨_,rfl⟩
  split
  ·rename_i q
   have h7:C2 l k=7:=by simpa[A0] using q
   have hn:=w.kidsN hk
   rw[h7] at hn
   have h0:C0 k 0 l=[]:=by
    have e:T3 7=(0,0):=rfl
    rw[e] at hn
    simp only[A5,A6,B5,Bool.and_eq_true,decide_eq_true_eq] at hn
    exact List.length_eq_zero_iff.1 (by omega)
   split
   ·exact⟨_,rfl⟩
   ·refine ovr _ ?_
    simp only[mu,d6w w hk h0] at hm ⊢
    have:=w.ok.le
    omega
  ·exact⟨_,rfl⟩
theorem zD (w:Wf l):∀ (f:Nat) (b:Bool) (k:Nat) (c:Chart),k<l.length→mu l b k<f→∃ c',V1 l f b k c=some c'
 | 0,_,_,_,_,h=>by omega
 | f+1,true,k,c,hk,hm=>by
  have ent:∀ (a:Nat) (c:Chart),a<l.length→k<a→∃ c',V1 l f true a c=some c':=fun a c ha P1=>zD w f true a c ha (by simp only[mu] at hm ⊢;omega)
  unfold V1
  by_cases q0:A0 c.status 1=true
  ·rw[if_pos q0]
   exact e7w w f k hk hm ent _ (fun c=>zD w f false k c hk)
  ·rw[if_neg q0];exact⟨c,rfl⟩
 | f+1,false,k,c,hk,hm=>by
  unfold V1 qE
  split
  ·exact⟨_,rfl⟩
  rename_i q0
  have mQ:0<k:=by
   rcases Nat.eq_zero_or_pos k with e | e
   ·subst e;exact absurd rfl q0
   ·exact e
  obtain⟨p,hp,gQ⟩:=w.par hk mQ
  have R8:p<l.length:=by omega
  rw[hp,Int.toNat_natCast]
  have hen:=e0r w hk hp gQ
  have V3:=Hk R8
  have ovr:∀ c,∃ c',V1 l f false p c=some c':=fun c=>zD w f false p c R8 (by simp only[mu] at hm ⊢;omega)
  unfold Al
  split
  ·split
   ·rename_i q2
    have R7:=w.kid_of hk hp
    obtain⟨j,e1,e2,e3⟩:=zZ R7
    have ej:(j:Int)+1=((j+1:Nat):Int):=by omega
    rw[e1,ej] at q2 ⊢
    have hj:j+1<(C0 p 0 l).length:=by simp[A3] at q2;omega
    obtain⟨s,h1,h2,h3,h4⟩:=w.kid (oA hj)
    rw[h1,Int.toNat_natCast]
    have H8:k<s:=by
     have hs:=(c2y (p:=(p:Int)) l 0).1
     rw[←jK w.ok] at hs
     have:=List.pairwise_iff_getElem.1 hs j (j+1) e2 hj (by omega)
     rw[←O1 e2,←O1 hj,e3,h1] at this
     omega
    have hns:=f2q w hk h2 H8 h4 gQ
    refine zD w f true s _ h2 ?_
    have:=Hk hk
    simp only[mu] at hm ⊢
    omega
   ·exact ovr _
  split
  ·split
   ·exact⟨_,rfl⟩
   ·exact ovr _
  ·exact ovr _
theorem d7c (w:Wf l) (b:Bool) (k:Nat) (hk:k<l.length):mu l b k<700:=by
 have:=w.ok.le
 cases b<;>simp only[mu]<;>omega
def J4 (l:List Step) (b:Bool) (k:Nat) (c:Chart):Chart:=(V1 l 700 b k c).getD c
theorem tK (w:Wf l) (b:Bool) (k:Nat) (c:Chart) (hk:k<l.length):V1 l 700 b k c=some (J4 l b k c):=by
 obtain⟨c',h⟩:=zD w 700 b k c hk (d7c w b k hk)
 unfold J4
 rw[h];rfl
theorem b8d (w:Wf l) {c:Chart} (hI:Inv l c) (k:Nat) (hk:k<l.length):fo 171 [aB l c,A (vI k)]=some (RB l (J4 l true k c))∧Inv l (J4 l true k c):=(yC w 700).ent hI hk (tK w true k c hk)
theorem b9m (w:Wf l) {c:Chart} (hI:Inv l c) (k:Nat) (hk:k<l.length):fo 193 [aB l c,A (vI k)]=some (RB l (J4 l false k c))∧Inv l (J4 l false k c):=(yC w 700).ovr hI hk (tK w false k c hk)
theorem a0u (w:Wf l) {c:Chart} (hI:Inv l c) (k:Nat) (hk:k<l.length):fo 161 [A (.sl 124 (l.map (sT 219))),aC c,A (vI k)]=some (RC (J4 l true k c)):=((Ck w 700).ent hI hk (tK w true k c hk)).1
theorem b8k (w:Wf l) {c:Chart} (hI:Inv l c) (k:Nat) (hk:k<l.length):fo 165 [A (.sl 124 (l.map (sT 219))),aC c,A (vI k)]=some (RC (J4 l false k c)):=((Ck w 700).ovr hI hk (tK w false k c hk)).1
end
end Go.TM.Ft
