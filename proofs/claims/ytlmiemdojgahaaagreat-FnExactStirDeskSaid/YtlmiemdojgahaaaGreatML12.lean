/- What functions of the program come to, by the machine. -/
import Derived.Test.YtlmiemdojgahaaaGreatML11
import Derived.Test.YtlmiemdojgahaaaGreatML8
set_option linter.unusedSimpArgs false
set_option linter.unusedVariables false
set_option maxHeartbeats 4000000
namespace Go.TM.Ft
open Go Go.TM Go.Proofs
set_option maxRecDepth 20000
attribute [local congr] O3
attribute [local simp] L9 M4 K0 L6 J6 L4 J8 J1 K5 I6 Y3 cQ gE
theorem c4u {l:List Step} (w:Wf l) {d:Nat} (hd:d<l.length) (h8:C2 l d=8):∃ (a b:Nat) (r:List Int),C0 d 0 l=(a:Int)::(b:Int)::r∧a<l.length∧b<l.length:=by
 obtain⟨a,b,e1,e2,h1,h2,h3⟩:=w.guard hd h8
 generalize C0 d 0 l=ks at *
 match ks,h3 with
 | x::y::r,_=>exact⟨a,b,r,by rw[←e1,←e2];rfl,h1,h2⟩
theorem c6o {l:List Step} {c:Chart} (hd:DueOk l c) {d:Nat} (R3:d<l.length) (h1:iN c.now (B4 c.dues d)=true) (q:A0 (C2 l d) 6=false):C2 l d=8:=by
 have hn:B4 c.dues d≠0:=fun e=>by rw[e] at h1;simp[iN,A6,A2,A0] at h1
 rcases hd d R3 hn with h | h
 ·rw[h] at q;simp[A0] at q
 ·exact h
def d1o (l:List Step) (now:Int) (c:Chart) (st:St):Prop:=∃ x,(x=[(41,vB false)]∨∃ d,x=[(9,vI d),(50,vB true)])∧
 st=⟨85,[(0,.sl 124 (l.map (sT 219))),(2,vI now),(6,.ptr 6 1 [] 0),(8,.ptr 30 1 [] 0)]++x,[(6,⟨1,1,true,mR⟩),(30,⟨1,1,true,bO l c⟩)],2⟩
theorem b8f {l:List Step} (w:Wf l) (now:Int):∀ (f:Nat) (c:Chart),Inv l c→DueOk l c→c.now=now→mA c.now c.dues<f→
  ∃ st,B7 E (orc E) (132:Nat) f (C1 Tryz.f132 0) ⟨85,[(0,.sl 124 (l.map (sT 219))),(2,vI now),(6,.ptr 6 1 [] 0),(8,.ptr 30 1 [] 0)],[(6,⟨1,1,true,mR⟩),(30,⟨1,1,true,bO l c⟩)],2⟩=some (.exit 0,st)∧d1o l now (fO l f c) st
 | 0,c,_,_,_,h=>by omega
 | f+1,c,hI,hD,hn,hc=>by
  have D8:=w.ok.le
  unfold fO
  cases q1:A0 c.status 1
  ·rw[if_neg (by simp)]
   refine⟨_,G3 ?_ (by simp),_,.inl rfl,rfl⟩
   simp (maxSteps:=1000000) +contextual -dsimp [Tryz.f132,q1,List.set]
  ·rw[if_pos rfl]
   have g1:=d9u c.dues (by rw[hI.dues];omega) now
   rw[hn]
   rcases Uh c.dues now with e | ⟨d,e,hd,rA⟩
   ·rw[e] at g1 ⊢
    have e1:A3 (-1) 0=true:=rfl
    rw[e1,if_pos rfl]
    refine⟨_,G3 ?_ (by simp),_,.inr ⟨-1,rfl⟩,rfl⟩
    simp (maxSteps:=1000000) +contextual -dsimp [Tryz.f132,q1,g1,e1,List.set]
   ·rw[e] at g1 ⊢
    have e1:A3 (d:Int) 0=false:=C9 (by omega)
    rw[e1,if_neg (by simp),Int.toNat_natCast]
    have R3:d<l.length:=by rw[←hI.dues];exact hd
    rw[←hn] at rA
    obtain⟨t1,t2,t3,t4⟩:=Nn w hI hD R3 rA
    obtain⟨st,ih1,ih2⟩:=b8f w now f (cL l d c) t1 t2 (t4.trans hn) (by omega)
    refine⟨st,?_,ih2⟩
    refine D6 ?_ ih1
    have hk:=rE R3
    cases q6:A0 (C2 l d) 6
    ·have h8:=c6o hD R3 rA q6
     obtain⟨a,b,r,H8,ha,hb⟩:=c4u w R3 h8
     have gk:=wW l (by omega) d
     have i0:Inv l { c with dues:=c.dues.set d 0 }:=hI.due d 0
     have i1:Inv l (cN l d c):=i0.idle _
     have s0:B4 (C0 d 0 l) 0=a:=by rw[H8];rfl
     have s1:B4 (C0 d 0 l) 1=b:=by rw[H8];rfl
     have g2:=Ze w { c with dues:=c.dues.set d 0 } i0.acts i0.dues a ha
     have eg:bM (O7 l a) { c with dues:=c.dues.set d 0 }=cN l d c:=by unfold cN;rw[s0];rfl
     rw[eg] at g2
     obtain⟨g3,_⟩:=b8d w i1 b hb
     have et:cL l d c=J4 l true b (cN l d c):=by unfold cL;rw[q6,if_neg (by simp),s1];rfl
     rw[et]
     generalize J4 l true b (cN l d c)=c2 at *
     generalize cN l d c=c1 at *
     simp only[aB,bO,RB,iE,List.map_set] at g2
     rw[H8] at gk
     rw[hk] at q6
     generalize C0 d 0 l=ks at *
     subst H8
     simp (maxSteps:=1000000) +contextual -dsimp [Tryz.f132,q1,g1,e1,R3,q6,gk,hd,g2,g3,List.set]
    ·obtain⟨g2,_⟩:=b9m w hI d R3
     have et:cL l d c=J4 l false d c:=by unfold cL;rw[q6,if_pos rfl]
     rw[et]
     rw[hk] at q6
     generalize J4 l false d c=c1 at *
     simp (maxSteps:=1000000) +contextual -dsimp [Tryz.f132,q1,g1,e1,R3,q6,g2,List.set]
def tF (l:List Step) (c:Chart) (now:Int):Int:=C5 (chartM l c) (ci (A2 (A5 now c.now 1000000)) 3)
def wA (l:List Step) (c:Chart) (now:Int):Int×Chart:=if A2 (A0 (tF l c now) 0)=true then (tF l c now,gG) else (0,fO l 30 { c with now:=now })
theorem Ap {l:List Step} {c:Chart} {now:Int} (hI:Inv l c) (hd:DueOk l c) (h1:c.now≤now) (h2:now≤1000000):Inv l { c with now:=now }∧DueOk l { c with now:=now }:=
 ⟨⟨hI.vars,hI.acts,hI.dues,by have:=hI.now0;show 0≤now;omega,h2,hI.rng⟩,hd⟩
theorem c3n {l:List Step} (w:Wf l) {c:Chart} (hI:Inv l c):mA c.now c.dues<30:=by
 have h1:mA c.now c.dues≤c.dues.length:=List.countP_le_length
 have:=hI.dues
 have:=w.ok.le
 omega
theorem e0l (l:List Step) (hl:l.length<2 ^ 62) (hf:∀ s,s∈l→FitS s) (c:Chart) (hc:FitC c) (now:Int):
  fo 132 [A (.sl 124 (l.map (sT 219))),A (.agg (cT c)),A (vI now)]=some (RR (wA l c now)):=by
 have g1:=Ud l hl hf c hc
 have g3:=Y8 (chartM l c) (ci (A2 (A5 now c.now 1000000)) 3)
 rw[show C5 (chartM l c) (ci (A2 (A5 now c.now 1000000)) 3)=tF l c now from rfl] at g3
 unfold wA
 cases q:A0 (tF l c now) 0
 ·refine b0h 1 ?_
  simp (maxSteps:=1000000) +contextual -dsimp [Tryz.f132,g1,g3,H5,O4,q,gG,List.set]
 ·have q0:tF l c now=0:=by simpa[A0] using q
  obtain⟨z1,z2⟩:=P9 q0
  have z2:=jT (by omega) z2
  have z2:A5 now c.now 1000000=true:=by cases e:A5 now c.now 1000000<;>simp[e,A2] at z2 ⊢
  simp only[A5,A6,B5,Bool.and_eq_true,decide_eq_true_eq] at z2
  obtain⟨hI,w,_,_⟩:=jU z1
  obtain⟨i1,d1⟩:=Ap hI (Vn z1) z2.1 z2.2
  obtain⟨st,h1,x,hx,rfl⟩:=b8f w now 30 _ i1 d1 rfl (c3n w i1)
  have g5:=Ll c (hI.few w)
  have q1:A0 0 0=true:=rfl
  rw[q0] at g3
  have n0:A2 true=false:=rfl
  rw[n0,if_neg (by simp)]
  generalize fO l 30 { c with now:=now }=c' at *
  simp -dsimp [Tryz.f132] at h1
  refine b0h 30 ?_
  rcases hx with rfl | ⟨d,rfl⟩<;>simp (maxSteps:=1000000) +contextual -dsimp [Tryz.f132,g1,g3,g5,h1,H5,O4,q1,List.set]
theorem c1j {l:List Step} (w:Wf l):∀ (f:Nat) (c:Chart),Inv l c→DueOk l c→mA c.now c.dues<f→
  ∃ ex st,B7 E (orc E) (130:Nat) f (C1 Tryz.f130 0) ⟨52,[(0,.sl 124 (l.map (sT 219))),(1,.ptr 1 0 [] 0)],[(1,⟨0,0,true,cO c⟩)],2⟩=some (ex,st)∧(ex=.exit 0∧st=⟨52,[(0,.sl 124 (l.map (sT 219))),(1,.ptr 1 0 [] 0),(16,vB false)],[(1,⟨0,0,true,cO (fO l f c)⟩)],2⟩∨
   ex=.ret∧∃ d,st=⟨52,[(0,.sl 124 (l.map (sT 219))),(1,.ptr 1 0 [] 0),(6,vI d),(20,vB true)],[(1,⟨0,0,true,cO (fO l f c)⟩)],2⟩)
 | 0,c,_,_,h=>by omega
 | f+1,c,hI,hD,hc=>by
  have D8:=w.ok.le
  unfold fO
  cases q1:A0 c.status 1
  ·rw[if_neg (by simp)]
   refine⟨_,_,G3 ?_ (by simp),.inl ⟨rfl,rfl⟩⟩
   simp (maxSteps:=1000000) +contextual -dsimp [Tryz.f130,q1,List.set]
  ·rw[if_pos rfl]
   have g1:=e1b c (by rw[hI.dues];omega)
   rcases Uh c.dues c.now with e | ⟨d,e,hd,rA⟩
   ·rw[e] at g1 ⊢
    have e1:A3 (-1) 0=true:=rfl
    rw[e1,if_pos rfl]
    refine⟨_,_,G3 ?_ (by simp),.inr ⟨rfl,-1,rfl⟩⟩
    simp (maxSteps:=1000000) +contextual -dsimp [Tryz.f130,q1,g1,e1,List.set]
   ·rw[e] at g1 ⊢
    have e1:A3 (d:Int) 0=false:=C9 (by omega)
    rw[e1,if_neg (by simp),Int.toNat_natCast]
    have R3:d<l.length:=by rw[←hI.dues];exact hd
    obtain⟨t1,t2,t3,t4⟩:=Nn w hI hD R3 rA
    obtain⟨ex,st,ih1,ih2⟩:=c1j w f (cL l d c) t1 t2 (by omega)
    refine⟨ex,st,?_,ih2⟩
    refine D6 ?_ ih1
    have hk:=rE R3
    cases q6:A0 (C2 l d) 6
    ·have h8:=c6o hD R3 rA q6
     obtain⟨a,b,r,H8,ha,hb⟩:=c4u w R3 h8
     have gk:=qK l (by omega) d
     rw[←jK w.ok] at gk
     have i0:Inv l { c with dues:=c.dues.set d 0 }:=hI.due d 0
     have i1:Inv l (cN l d c):=i0.idle _
     have s0:B4 (C0 d 0 l) 0=a:=by rw[H8];rfl
     have s1:B4 (C0 d 0 l) 1=b:=by rw[H8];rfl
     have g2:=b9n w { c with dues:=c.dues.set d 0 } i0.acts i0.dues a ha
     have eg:bM (O7 l a) { c with dues:=c.dues.set d 0 }=cN l d c:=by unfold cN;rw[s0];rfl
     rw[eg] at g2
     have g3:=a0u w i1 b hb
     have et:cL l d c=J4 l true b (cN l d c):=by unfold cL;rw[q6,if_neg (by simp),s1];rfl
     rw[et]
     generalize J4 l true b (cN l d c)=c2 at *
     generalize cN l d c=c1 at *
     simp only[aC,cO,RC,iE,List.map_set] at g2
     rw[H8] at gk
     rw[hk] at q6
     generalize C0 d 0 l=ks at *
     subst H8
     simp (maxSteps:=1000000) +contextual -dsimp [Tryz.f130,q1,g1,e1,R3,q6,gk,hd,g2,g3,List.set]
    ·have g2:=b8k w hI d R3
     have et:cL l d c=J4 l false d c:=by unfold cL;rw[q6,if_pos rfl]
     rw[et]
     rw[hk] at q6
     generalize J4 l false d c=c1 at *
     simp (maxSteps:=1000000) +contextual -dsimp [Tryz.f130,q1,g1,e1,R3,q6,g2,List.set]
theorem d7e {l:List Step} (w:Wf l) (c:Chart) (hI:Inv l c) (hD:DueOk l c) (now:Int) (h1:c.now≤now) (h2:now≤1000000):
  fo 130 [A (.sl 124 (l.map (sT 219))),aC c,A (vI now)]=some (RC (fO l 30 { c with now:=now })):=by
 obtain⟨i1,d1⟩:=Ap hI hD h1 h2
 obtain⟨ex,st,h,hx⟩:=c1j w 30 _ i1 d1 (c3n w i1)
 generalize fO l 30 { c with now:=now }=c' at *
 refine e8r 30 ?_
 rcases hx with⟨rfl,rfl⟩ | ⟨rfl,d,rfl⟩<;>(simp -dsimp [Tryz.f130] at h;simp (maxSteps:=1000000) +contextual -dsimp [Tryz.f130,h,List.set])
structure Act where
 kind:Int
 at_:Int
 vars:List Int
def wT (l:List Step) (c:Chart) (a:Act):Int×Chart:=
 if A0 a.kind 1=true then a7w l c a.at_ a.vars else if A0 a.kind 2=true then cX l c a.at_ else wA l c (c.now+a.at_)
theorem Cr {l:List Step} (w:Wf l):∀ (f:Nat) (c:Chart),Inv l c→DueOk l c→Inv l (fO l f c)
 | 0,c,h,_=>h
 | f+1,c,h,hD=>by
  unfold fO
  split
  ·split
   ·exact h
   ·rename_i e
    rcases Uh c.dues c.now with q | ⟨d,q,hd,rA⟩
    ·rw[q] at e;exact absurd rfl e
    ·rw[q,Int.toNat_natCast]
     obtain⟨t1,t2,_,_⟩:=Nn w h hD (by rw[←h.dues];exact hd) rA
     exact Cr w f _ t1 t2
  ·exact h
theorem Xm {l:List Step} {c:Chart} {a:Act} (h:(wT l c a).1=0):Inv l (wT l c a).2:=by
 unfold wT at h ⊢
 split
 ·rename_i q
  rw[if_pos q] at h
  unfold a7w at h ⊢
  split
  ·rename_i q1;rw[if_pos q1] at h;simp only at h;rw[h] at q1;simp[A2,A0] at q1
  ·rename_i q1
   rw[if_neg q1] at h
   split
   ·rename_i q2;rw[if_pos q2] at h;simp at h
   ·rename_i q2
    have z:C5 (chartM l c) (W6 a.vars)=0:=by simpa[A2,A0] using q1
    obtain⟨z1,z2⟩:=P9 z
    obtain⟨hI,w,_,_⟩:=jU z1
    obtain⟨v1,v2⟩:=Tv z2
    have q3:qN l c.acts a.at_=true:=by simpa[A2] using q2
    obtain⟨k,e,hk,_⟩:=d3j q3
    rw[e,Int.toNat_natCast]
    exact As w _ _ _ ⟨v1,hI.acts,hI.dues,hI.now0,hI.now1,v2⟩ hk
 ·rename_i q
  rw[if_neg q] at h
  split
  ·rename_i q'
   rw[if_pos q'] at h
   unfold cX at h ⊢
   split
   ·rename_i q1;rw[if_pos q1] at h;simp only at h;rw[h] at q1;simp[A2,A0] at q1
   ·rename_i q1
    rw[if_neg q1] at h
    have z:lD l c a.at_=0:=by simpa[A2,A0] using q1
    obtain⟨z1,z2⟩:=P9 z
    obtain⟨hI,w,_,_⟩:=jU z1
    cases e:Q7 (fF c.acts a.at_) 0 () l with
    | inr s=>rw[e] at h;simp[vG] at h
    | inl k=>
     have hk:k<l.length:=by
      have key:∀ (r:List Step) (i:Nat),Q7 (fF c.acts a.at_) i () r=.inl k→k<i+r.length:=by
       intro r
       induction r with
       | nil=>intro i he;simp[Q7] at he
       | cons s r ih=>
        intro i he
        unfold Q7 at he
        unfold fF at he
        split at he
        ·rename_i s' hs'
         have:=ih (i+1) he
         simp;omega
        ·rename_i e' hs'
         split at hs'
         ·simp only[Sum.inl.injEq] at hs' he
          simp;omega
         ·simp at hs'
      have:=key l 0 e
      omega
     exact As w _ _ _ hI hk
  ·rename_i q'
   rw[if_neg q'] at h
   unfold wA at h ⊢
   split
   ·rename_i q1;rw[if_pos q1] at h;simp only at h;rw[h] at q1;simp[A2,A0] at q1
   ·rename_i q1
    have z:tF l c (c.now+a.at_)=0:=by simpa[A2,A0] using q1
    obtain⟨z1,z2⟩:=P9 z
    obtain⟨hI,w,_,_⟩:=jU z1
    have z2:=jT (by omega) z2
    have z2:A5 (c.now+a.at_) c.now 1000000=true:=by cases e:A5 (c.now+a.at_) c.now 1000000<;>simp[e,A2] at z2 ⊢
    simp only[A5,A6,B5,Bool.and_eq_true,decide_eq_true_eq] at z2
    obtain⟨i1,d1⟩:=Ap hI (Vn z1) z2.1 z2.2
    exact Cr w 30 _ i1 d1
end Go.TM.Ft
namespace Go.TM.Ft
open Go Go.TM
structure EngR where
 code:Int
 value:Int
 eng:Engine
abbrev rG (p:EngR):List T:=[vI p.code,vI p.value,.sl 160 (p.eng.procs.map (pT 124 219)),.sl 163 (p.eng.insts.map xT),vI p.eng.now]
structure DeskR where
 code:Int
 value:Int
 desk:Desk
abbrev Cf (p:DeskR):List T:=[vI p.code,vI p.value,.sl 160 (p.desk.eng.procs.map (pT 124 219)),.sl 163 (p.desk.eng.insts.map xT),vI p.desk.eng.now,.sl 150 (p.desk.claims.map kT)]
open Go Go.TM Go.Proofs
set_option maxRecDepth 20000
attribute [local congr] O3
attribute [local simp] L9 M4 K0 L6 J6 L4 J8 J1 K5 I6
theorem e4a (e:Engine) (x:Inst):nD e x=jX e x:=by
 unfold nD jX sK
 rw[a8p]
 cases A5 x.proc 0 ((e.procs.length:Int) - 1)
 ·rfl
 ·by_cases h:chartM (stepsOf e x) x.chart=0
  ·rw[h]
   cases A0 x.chart.now e.now<;>rfl
  ·have:A0 (chartM (stepsOf e x) x.chart) 0=false:=by simp[A0,h]
   simp[A2,C5,this]
theorem a7k (e:Engine):∀ l,gI e l=aW e l
 | []=>rfl
 | x::l=>by
  unfold gI aW
  rw[e4a,a7k e l]
theorem b3h:∀ l,fR l=fK l
 | []=>rfl
 | x::l=>by
  unfold fR fK
  rw[Gg,b3h l]
theorem f0w (l:List (List Step)):qQ l=jW l:=by
 unfold qQ jW
 rw[b3h]
 by_cases h:1≤l.length∧l.length≤3
 ·rw[if_neg (by simp[A7,A3];omega),if_neg (by simp[A2,A5,A6,B5];omega)]
 ·rw[if_pos (by simp[A7,A3];omega),if_pos (by simp[A2,A5,A6,B5];omega)]
theorem Cj (e:Engine):Dq e=K2 e:=by
 unfold Dq K2 pZ
 rw[a7k,f0w]
 cases q1:A3 6 e.insts.length
 ·by_cases q2:jW e.procs=0
  ·have q3:A5 e.procs.length 1 3=true:=by
    unfold jW at q2
    split at q2
    ·simp at q2
    ·rename_i c;simpa[A2] using c
   rw[q2,q3]
   cases A5 e.now 0 1000000<;>rfl
  ·have e0:A0 (jW e.procs) 0=false:=by simp[A0,q2]
   have e1:C5 (jW e.procs) (ci (A2 (A5 e.now 0 1000000)) 3)=jW e.procs:=by simp[C5,e0]
   rw[e1,e0]
   cases q3:A5 e.procs.length 1 3
   ·unfold jW;rw[q3];rfl
   ·rfl
 ·cases A5 e.procs.length 1 3<;>rfl
theorem c2j (a b:Claim):B5 0 (yY a b)=A2 (Bv a b):=by
 unfold yY Bv tX C5
 rcases Int.lt_trichotomy a.inst b.inst with h | h | h
 ·simp[A3,h,A0,B5,A2,A7]
 ·rcases Int.lt_trichotomy a.step b.step with h2 | h2 | h2
  ·simp[A3,h,h2,A0,B5,A2,A7,A6]
  ·simp[A3,h,h2,A0,B5,A2,A7,A6]
  ·have:¬ a.step<b.step:=by omega
   simp[A3,h,h2,this,A0,B5,A2,A7,A6]
 ·have h1:¬ a.inst<b.inst:=by omega
  have h2:¬ a.inst=b.inst:=by omega
  simp[A3,h,h1,h2,A0,B5,A2,A7,A6]
theorem Uv (d:Desk) (hf:FitE d.eng) (h0:K2 d.eng=0) (F4:d.claims.length≤60):∀ (rest:List Claim) (i:Nat),d.claims.drop i=rest→
    B7 E (orc E) (151:Nat) (rest.length+1) (C1 Tryz.f151 0) ⟨76,[(0,.ipt (dT d)),(4,vI i)],[],2⟩=
    (if A0 (P4 d i rest) 0 = true then some (.exit 0, ⟨76, [(0, .ipt (dT d)), (4, vI (i + rest.length : Nat)), (25, vB false)], [], 2⟩)
     else some (.ret,⟨76,[(2,vI (P4 d i rest))],[],2⟩))
  | [],i,h=>by
    have G5:d.claims.length≤i:=by simpa using h
    have A1:A3 (i:Int) (d.claims.length:Int)=false:=C9 (by omega)
    rw[D5]
    simp +contextual -dsimp [Tryz.f151,A1,P4,D2]
  | x::rest,i,h=>by
    obtain⟨hi,hc,hr⟩:=F6 h
    obtain⟨n1,n2,n3⟩:=iD h0
    have A1:A3 (i:Int) (d.claims.length:Int)=true:=F5 (by omega)
    have hw:IntKind.i64.wrap ((i:Int)+1)=((i+1:Nat):Int):=by rw[B6]<;>omega
    have nN:IntKind.i64.wrap ((d.eng.insts.length:Int) - 1)=(d.eng.insts.length:Int) - 1:=by rw[B6]<;>omega
    have he:i+1+rest.length=i+(rest.length+1):=by omega
    have out:∀ k:Int,P6 d i x=k→A0 k 0=false→P4 d i (x::rest)=k:=fun k h1 h2=>by simp[P4,h1,h2]
    cases q1:A5 x.inst 0 ((d.eng.insts.length:Int) - 1)
    · have h3 : P6 d i x = 3 := by simp [P6, q1, A2, A7]
      have hm:=out 3 h3 rfl
      have Z1:A0 (3:Int) 0=false:=rfl
      rw[hm,Z1,if_neg (by simp)]
      refine G3 ?_ (by simp)
      simp (maxSteps:=1000000) +contextual -dsimp [Tryz.f151,A1,hi,hc,nN,G0,q1,List.set]
    cases q2:A5 x.user 1 9
    · have h3 : P6 d i x = 3 := by simp [P6, q1, q2, A2, A7]
      have hm:=out 3 h3 rfl
      have Z1:A0 (3:Int) 0=false:=rfl
      rw[hm,Z1,if_neg (by simp)]
      refine G3 ?_ (by simp)
      simp (maxSteps:=1000000) +contextual -dsimp [Tryz.f151,A1,hi,hc,nN,G0,yL,q1,q2,List.set]
    obtain⟨b,hb,Lv⟩:∃ b:Nat,x.inst=b∧b<d.eng.insts.length:=by
      simp[A5,A6,B5] at q1
      obtain⟨k,hk⟩:=Int.eq_ofNat_of_zero_le q1.1
      exact⟨k,hk,by omega⟩
    obtain⟨a,ha,hx,e2,ok,D7⟩:=(n3 (d.eng.insts[b]) (List.getElem_mem _)).at_
    have g1:=Yi d.eng [.sl 150 (d.claims.map kT)] b Lv a hx ha (by have:=ok.le;omega) D7 x.step
    rw[←hb] at g1
    have g2:=e4l (sJ d.claims (i - 1)) x
    cases q3:eQ d.eng x.inst x.step
    · have h3 : P6 d i x = 4 := by simp [P6, q1, q2, q3, A2, A7]
      have hm:=out 4 h3 rfl
      have Z1:A0 (4:Int) 0=false:=rfl
      rw[hm,Z1,if_neg (by simp)]
      refine G3 ?_ (by simp)
      simp (maxSteps:=1000000) +contextual -dsimp [Tryz.f151,A1,hi,hc,nN,G0,yL,g1,q1,q2,q3,List.set]
    rcases Nat.eq_zero_or_pos i with yM | yM
    · have G2 : A3 0 (i : Int) = false := C9 (by omega)
      have h3:P6 d i x=0:=by simp[P6,q1,q2,q3,G2,A2,A7,A6]
      have ih:=Uv d hf h0 F4 rest (i+1) hr
      rw[he] at ih
      have hm:P4 d i (x::rest)=P4 d (i+1) rest:=by simp[P4,h3,D2]
      rw[hm]
      refine D6 ?_ (by simpa only[List.length_cons] using ih)
      simp (maxSteps:=1000000) +contextual -dsimp [Tryz.f151,A1,hi,hc,hw,nN,G0,yL,g1,q1,q2,q3,G2,List.set]
    · have G2 : A3 0 (i : Int) = true := F5 (by omega)
      have eX:i - 1<d.claims.length:=by omega
      have T7:IntKind.i64.wrap ((i:Int) - 1)=((i - 1:Nat):Int):=by rw[B6]<;>omega
      have tB:sJ d.claims (i - 1)=d.claims[i - 1]:=by simp[sJ,eX]
      rw[tB] at g2
      cases q4:Bv (d.claims[i - 1]) x
      · have h3 : P6 d i x = 1 := by simp [P6, q1, q2, q3, G2, tB, c2j, q4, A2, A7, A6]
        have hm:=out 1 h3 rfl
        have Z1:A0 (1:Int) 0=false:=rfl
        rw[hm,Z1,if_neg (by simp)]
        refine G3 ?_ (by simp)
        simp (maxSteps:=1000000) +contextual -dsimp [Tryz.f151,A1,hi,hc,nN,G0,yL,g1,g2,q1,q2,q3,q4,G2,eX,T7,List.set]
      · have h3 : P6 d i x = 0 := by simp [P6, q1, q2, q3, G2, tB, c2j, q4, A2, A7, A6]
        have ih:=Uv d hf h0 F4 rest (i+1) hr
        rw[he] at ih
        have hm:P4 d i (x::rest)=P4 d (i+1) rest:=by simp[P4,h3,D2]
        rw[hm]
        refine D6 ?_ (by simpa only[List.length_cons] using ih)
        simp (maxSteps:=1000000) +contextual -dsimp [Tryz.f151,A1,hi,hc,hw,nN,G0,yL,g1,g2,q1,q2,q3,q4,G2,eX,T7,List.set]
theorem f2p (d:Desk) (hf:FitE d.eng) (hc:d.claims.length<2 ^ 62):fo 151 [A (.ipt (dT d))]=some (R (vI (dE d))):=by
 have g1:=Gk d.eng [.sl 150 (d.claims.map kT)] hf
 rw[Cj] at g1
 unfold dE pC
 refine e5x (d.claims.length+1) ?_
 cases q1:A0 (K2 d.eng) 0
 ·simp (maxSteps:=1000000) +contextual -dsimp [Tryz.f151,g1,q1,C5]
 ·have e0:K2 d.eng=0:=by simpa[A0] using q1
  cases q2:A3 60 d.claims.length
  ·have A4:=Uv d hf e0 (by simp[A3] at q2;omega) d.claims 0 rfl
   simp -dsimp [Tryz.f151] at A4
   cases q4:A0 (P4 d 0 d.claims) 0
   ·rw[q4] at A4
    simp (maxSteps:=1000000) +contextual -dsimp [Tryz.f151,g1,e0,q2,D2,C5,ci,A4]
   ·rw[q4] at A4
    have e1:P4 d 0 d.claims=0:=by simpa[A0] using q4
    simp (maxSteps:=1000000) +contextual -dsimp [Tryz.f151,g1,e0,q2,e1,D2,C5,ci,A4]
  ·have h20:A0 (2:Int) 0=false:=rfl
   simp (maxSteps:=1000000) +contextual -dsimp [Tryz.f151,g1,e0,q2,D2,C5,ci,h20]
end Go.TM.Ft
namespace Go.TM.Ft
open Go Go.TM Go.Proofs
abbrev Jp (e:Engine):List T:=[.sl 225 (e.procs.map (pT 111 267)),.sl 229 (e.insts.map xT),vI e.now]
abbrev zJ (d:Desk):List T:=[.sl 225 (d.eng.procs.map (pT 111 267)),.sl 229 (d.eng.insts.map xT),vI d.eng.now,.sl 222 (d.claims.map kT)]
end Go.TM.Ft
