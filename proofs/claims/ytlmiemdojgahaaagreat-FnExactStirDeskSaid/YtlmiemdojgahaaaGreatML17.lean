/- What functions of the program come to, by the machine. -/
import Derived.Test.YtlmiemdojgahaaaGreatML13
import Derived.Test.YtlmiemdojgahaaaGreatMTm4
import Derived.Test.YtlmiemdojgahaaaGreatML12
import Derived.Test.YtlmiemdojgahaaaGreatML14
import Derived.Test.YtlmiemdojgahaaaGreatML16
import Derived.Test.YtlmiemdojgahaaaGreatML7
import Derived.Test.YtlmiemdojgahaaaGreatML2
import Derived.Test.YtlmiemdojgahaaaGreatML15
set_option linter.unusedSimpArgs false
set_option linter.unusedVariables false
set_option maxHeartbeats 4000000
namespace Go.TM.Ft
open Go Go.TM Go.Proofs Go.Proofs.Tryz
set_option maxRecDepth 20000
attribute [local congr] O3
attribute [local simp] L9 M4 K0 L6 J6 L4 J8 J1 K5 I6
structure FitD (d:Desk):Prop where
 eng:FitE d.eng
 claims:d.claims.length<2 ^ 62
theorem f1f {s:Step} (h:FitS s):wP s:=⟨h.name,h.cond,h.expr⟩
theorem d8b {p:List Step} (h:FitP p):vH p:=⟨h.len,fun s hs=>f1f (h.steps s hs)⟩
theorem d4t {c:Chart} (h:FitC c):Hf c:=⟨h.vars,h.acts,h.dues⟩
theorem e6b {e:Engine} (h:FitE e):Ig e:=⟨⟨h.np,fun p hp=>d8b (h.procs p hp)⟩,⟨h.ni,fun x hx=>d4t (h.insts x hx)⟩⟩
theorem d2j {d:Desk} (h:FitD d):Wa d:=⟨e6b h.eng,h.claims⟩
theorem bU {n:Nat} {ts:List T} (h:P0 Tryz.prog (n+1) 2 ts):∃ x,ts=[vI x]∧-9223372036854775808≤x∧x<9223372036854775808:=by
 unfold P0 at h
 rw[Tryz.underlying2] at h
 obtain⟨x,rfl,hw⟩:=h
 have:=bounds_i64 hw
 exact⟨x,rfl,by omega,by omega⟩
theorem c7e {α β:Type} {f:α→β} {p:α→Prop}:∀ {l:List β},(∀ c,c∈l→∃ x,c=f x∧p x)→∃ xs:List α,l=xs.map f∧∀ x,x∈xs→p x
 | [],_=>⟨[],rfl,fun x hx=>by simp at hx⟩
 | c::l,h=>by
  obtain⟨x,rfl,hx⟩:=h c (by simp)
  obtain⟨xs,rfl,wY⟩:=c7e (f:=f) (p:=p) (l:=l) fun d hd=>h d (by simp[hd])
  exact⟨x::xs,rfl,fun y hy=>by
   rcases List.mem_cons.1 hy with rfl | hy
   ·exact hx
   ·exact wY y hy⟩
theorem sI {α:Type} {P:Program} {n:Nat} {t e:TypeId} {ts:List T} {f:α→List T} {p:α→Prop} (hu:P.underlying t=some (.slice e)) (h:P0 P (n+1) t ts)
  (hx:∀ c,P0 P n e c→∃ x,c=f x∧p x):∃ l:List α,ts=[.sl e (l.map f)]∧l.length<2 ^ 62∧∀ x,x∈l→p x:=by
 unfold P0 at h
 rw[hu] at h
 obtain⟨es,rfl,hl,h2⟩:=h
 obtain⟨xs,rfl,hp⟩:=c7e (f:=f) (p:=p) (l:=es) fun c hc=>hx c (h2 c hc)
 refine⟨xs,rfl,?_,hp⟩
 simp at hl;unfold reachBytes at hl;omega
theorem a6j {n:Nat} {ts:List T} (h:P0 Tryz.prog (n+2) 267 ts):∃ x,ts=nT x∧True:=by
 unfold P0 at h
 rw[Tryz.underlying267] at h
 obtain⟨c1,r1,rfl,h1,c2,r2,rfl,h2,c3,r3,rfl,h3,c4,r4,rfl,h4,rfl⟩:=h
 obtain⟨x1,rfl,_⟩:=bU h1
 obtain⟨x2,rfl,_⟩:=bU h2
 obtain⟨x3,rfl,_⟩:=bU h3
 obtain⟨x4,rfl,_⟩:=bU h4
 exact⟨⟨x1,x2,x3,x4⟩,rfl,trivial⟩
theorem e3j {n:Nat} {ts:List T} (h:P0 Tryz.prog (n+4) 111 ts):∃ s:Step,ts=sT 267 s∧FitS s:=by
 unfold P0 at h
 rw[Tryz.underlying111] at h
 obtain⟨c1,r1,rfl,h1,c2,r2,rfl,h2,c3,r3,rfl,h3,c4,r4,rfl,h4,c5,r5,rfl,h5,c6,r6,rfl,h6,rfl⟩:=h
 obtain⟨x1,rfl,_⟩:=bU h1
 obtain⟨x2,rfl,p1,p2⟩:=bU h2
 obtain⟨x4,rfl,_⟩:=bU h4
 obtain⟨x5,rfl,l5,_⟩:=sI (f:=nT) (p:=fun _=>True) Tryz.underlying109 h5 fun c hc=>a6j hc
 obtain⟨x6,rfl,l6,_⟩:=sI (f:=nT) (p:=fun _=>True) Tryz.underlying109 h6 fun c hc=>a6j hc
 simp only at h3
 unfold P0 at h3
 rw[Tryz.underlying9] at h3
 obtain⟨x3,rfl,l3⟩:=h3
 exact⟨⟨x1,x2,x3,x4,x5,x6⟩,rfl,p1,p2,by unfold reachBytes at l3;simp;omega,l5,l6⟩
theorem e1c {n:Nat} {ts:List T} (h:P0 Tryz.prog (n+6) 225 ts):∃ p:List Step,ts=pT 111 267 p∧FitP p:=by
 unfold P0 at h
 rw[Tryz.underlying225] at h
 obtain⟨c1,r1,rfl,h1,rfl⟩:=h
 obtain⟨l,rfl,hl,hf⟩:=sI (f:=sT 267) (p:=FitS) Tryz.underlying22 h1 fun c hc=>e3j hc
 exact⟨l,rfl,hl,hf⟩
theorem Lt {n:Nat} {ts:List T} (h:P0 Tryz.prog (n+2) 23 ts):∃ l:List Int,ts=[iS l]∧l.length<2 ^ 62:=by
 obtain⟨l,rfl,hl,_⟩:=sI (f:=fun n=>[vI n]) (p:=fun _=>True) Tryz.underlying23 h fun c hc=>by
  obtain⟨x,rfl,_⟩:=bU hc
  exact⟨x,rfl,trivial⟩
 exact⟨l,rfl,hl⟩
theorem d0t {n:Nat} {ts:List T} (h:P0 Tryz.prog (n+3) 227 ts):∃ c:Chart,ts=cT c∧FitC c:=by
 unfold P0 at h
 rw[Tryz.underlying227] at h
 obtain⟨c1,r1,rfl,h1,c2,r2,rfl,h2,c3,r3,rfl,h3,c4,r4,rfl,h4,c5,r5,rfl,h5,rfl⟩:=h
 obtain⟨x1,rfl,_⟩:=bU h1
 obtain⟨x2,rfl,_⟩:=bU h2
 obtain⟨x3,rfl,l3⟩:=Lt h3
 obtain⟨x4,rfl,l4⟩:=Lt h4
 obtain⟨x5,rfl,l5⟩:=Lt h5
 exact⟨⟨x1,x2,x3,x4,x5⟩,rfl,l3,l4,l5⟩
theorem d0j {n:Nat} {ts:List T} (h:P0 Tryz.prog (n+4) 229 ts):∃ x:Inst,ts=xT x∧FitC x.chart:=by
 unfold P0 at h
 rw[Tryz.underlying229] at h
 obtain⟨c1,r1,rfl,h1,c2,r2,rfl,h2,rfl⟩:=h
 obtain⟨x1,rfl,_⟩:=bU h1
 obtain⟨x2,rfl,f2⟩:=d0t h2
 exact⟨⟨x1,x2⟩,rfl,f2⟩
theorem e7y {n:Nat} {ts:List T} (h:P0 Tryz.prog (n+2) 222 ts):∃ x:Claim,ts=kT x∧True:=by
 unfold P0 at h
 rw[Tryz.underlying222] at h
 obtain⟨c1,r1,rfl,h1,c2,r2,rfl,h2,c3,r3,rfl,h3,rfl⟩:=h
 obtain⟨x1,rfl,_⟩:=bU h1
 obtain⟨x2,rfl,_⟩:=bU h2
 obtain⟨x3,rfl,_⟩:=bU h3
 exact⟨⟨x1,x2,x3⟩,rfl,trivial⟩
theorem e3s {n:Nat} {ts:List T} (h:P0 Tryz.prog (n+8) 51 ts):∃ e:Engine,ts=Jp e∧FitE e:=by
 unfold P0 at h
 rw[Tryz.underlying51] at h
 obtain⟨c1,r1,rfl,h1,c2,r2,rfl,h2,c3,r3,rfl,h3,rfl⟩:=h
 obtain⟨x1,rfl,l1,f1⟩:=sI (f:=pT 111 267) (p:=FitP) Tryz.underlying48 h1 fun c hc=>e1c hc
 obtain⟨x2,rfl,l2,f2⟩:=sI (f:=xT) (p:=fun x=>FitC x.chart) Tryz.underlying49 h2 fun c hc=>d0j hc
 obtain⟨x3,rfl,_⟩:=bU h3
 exact⟨⟨x1,x2,x3⟩,rfl,l1,l2,f1,f2⟩
theorem e3q {ts:List T} (h:P0 Tryz.prog 9 54 ts):∃ d:Desk,ts=zJ d∧FitD d:=by
 unfold P0 at h
 rw[Tryz.underlying54] at h
 obtain⟨c1,r1,rfl,h1,c2,r2,rfl,h2,rfl⟩:=h
 obtain⟨x1,rfl,f1⟩:=e3s h1
 obtain⟨x2,rfl,l2,_⟩:=sI (f:=kT) (p:=fun _=>True) Tryz.underlying52 h2 fun c hc=>e7y hc
 exact⟨⟨x1,x2⟩,rfl,f1,l2⟩
attribute [local simp] Y3 cQ gE
theorem e2u {l:List Step} {vars:List Int} {now:Int} (h:(eW l vars now).1=0):Wf l∧Inv l (eW l vars now).2:=by
 unfold eW at h ⊢
 split
 ·rename_i q;rw[if_pos q] at h;simp only at h;rw[h] at q;simp[A2,A0] at q
 ·rename_i q
  have z:dU l vars now=0:=by simpa[A2,A0] using q
  obtain⟨hI,w⟩:=Lp z
  exact⟨w,As w true 0 _ hI w.ok.pos⟩
end Go.TM.Ft
namespace Go.TM.Ft
open Go Go.TM Go.Proofs Go.Proofs.Tryz
theorem Gd {α:Type} (w:α→Nat) (s:List α→Nat) (h0:∀ x r,s (x::r)=w x+s r):∀ {l:List α} {x:α},x∈l→w x≤s l
 | [],x,h=>by simp at h
 | y::l,x,h=>by
  rw[h0]
  rcases List.mem_cons.1 h with rfl | h
  ·omega
  ·have:=Gd w s h0 h;omega
theorem e0f {e:Engine} (h:H6 e≤1048576):SmE e:=by
 have h1:Z9 e.procs≤1048576:=by simp only[H6] at h;omega
 have h2:X6 e.insts≤1048576:=by simp only[H6] at h;omega
 refine⟨by simp only[Z9] at h1;omega,by simp only[X6] at h2;omega,fun p hp=>?_,fun x hx=>?_⟩
 ·have hw:N4 p≤1048576:=by
   have:=Gd N4 U4 (fun _ _=>rfl) hp
   simp only[Z9] at h1;omega
  simp only[N4,dW] at hw
  refine⟨by omega,fun s hs=>?_⟩
  have:=Gd L5 V7 (fun _ _=>rfl) hs
  simp only[L5] at this
  exact⟨by omega,by omega⟩
 ·have hw:K9 x≤1048576:=by
   have:=Gd K9 N1 (fun _ _=>rfl) hx
   simp only[X6] at h2;omega
  simp only[K9,M3] at hw
  exact⟨by omega,by omega,by omega⟩
theorem f3k (l:List Inst) (x:Inst):N1 (l++[x])=N1 l+K9 x:=by
 induction l with
 | nil=>simp only[List.nil_append,N1];omega
 | cons y l ih=>simp only[List.cons_append,N1,ih];omega
theorem b3e:∀ (l:List Inst) (n:Nat) (x:Inst),N1 (l.set n x)≤N1 l+K9 x
 | [],n,x=>by simp[N1]
 | y::l,0,x=>by simp only[List.set_cons_zero,N1];omega
 | y::l,n+1,x=>by have:=b3e l n x;simp only[List.set_cons_succ,N1];omega
theorem b7t (e:Engine) (n:Nat) (c:Chart):H6 (tO e n c)≤H6 e+M3 c:=by
 unfold tO
 split
 ·rename_i x hx
  have:=b3e e.insts n ⟨x.proc,c⟩
  simp only[H6,X6,List.length_set,K9] at this ⊢
  omega
 ·omega
theorem Hn {l:List Step} {c:Chart} (h:Inv l c) (w:Wf l):M3 c≤100:=by
 have:=w.ok.le
 have:=h.vars
 have:=h.acts
 have:=h.dues
 simp only[M3];omega
theorem Lq:M3 gG≤100:=by simp[M3,gG]
theorem qV (k:Int):kD (N8 k)≤100:=by simp[kD,N8,bZ,H6,Z9,X6,U4,N1]
theorem e6s (e:Engine) (n:Nat) (r:Int×Chart) (h:M3 r.2≤100):kD (mL e n r)≤H6 e+100:=by
 unfold mL
 split
 ·have:=qV r.1;omega
 ·have:=b7t e n r.2;simp only[kD];omega
theorem f1z (l:List Step) (c:Chart) (msg:Int):M3 (cX l c msg).2≤100:=by
 by_cases h:(cX l c msg).1=0
 ·have e:wT l c ⟨2,msg,[]⟩=cX l c msg:=by simp[wT,A0]
  have hI:=Xm (l:=l) (c:=c) (a:=⟨2,msg,[]⟩) (by rw[e];exact h)
  rw[e] at hI
  refine Hn hI ?_
  unfold cX at h
  split at h
  ·rename_i q;simp only at h;rw[h] at q;simp[A2,A0] at q
  ·rename_i q
   have z:lD l c msg=0:=by simpa[A2,A0] using q
   exact (jU (P9 z).1).2.1
 ·unfold cX at h ⊢
  split
  ·exact Lq
  ·rename_i q1
   rw[if_neg q1] at h
   cases q:Q7 (fF c.acts msg) 0 () l with
   | inl k=>rw[q] at h;exact absurd rfl h
   | inr u=>exact Lq
theorem d3g (l:List Step) (vars:List Int) (now:Int):M3 (eW l vars now).2≤100:=by
 by_cases h:(eW l vars now).1=0
 ·obtain⟨w,hI⟩:=e2u h
  exact Hn hI w
 ·unfold eW at h ⊢
  split
  ·exact Lq
  ·rename_i q
   rw[if_neg q] at h
   exact absurd rfl h
theorem e5c (e:Engine) (inst msg:Int):kD (nI e inst msg)≤H6 e+1000:=by
 unfold nI
 split
 ·have:=qV (U6 e inst);omega
 ·have:=e6s e inst.toNat _ (f1z (stepsOf e (X4 e inst)) (X4 e inst).chart msg);omega
theorem f2w (e:Engine) (proc:Int) (vars:List Int):kD (mW e proc vars)≤H6 e+1000:=by
 unfold mW
 split
 ·have:=qV (eR e proc);omega
 ·unfold zM
  split
  ·have:=qV (eW (rH e proc) vars e.now).1;omega
  ·have h1:=d3g (rH e proc) vars e.now
   have h2:=f3k e.insts ⟨proc,(eW (rH e proc) vars e.now).2⟩
   simp only[kD,H6,X6,List.length_append,List.length_cons,List.length_nil,K9] at h2 ⊢
   omega
theorem b8n {e:Engine} {n:Int} (h:bB e n=0):∀ (l:List Inst),(∀ x,x∈l→x∈e.insts)→N1 (l.map (I8 e n))≤100*l.length
 | [],_=>Nat.le_refl _
 | x::l,hl=>by
  have ih:=b8n h l fun y hy=>hl y (by simp[hy])
  obtain⟨a,ha,hp,e2,i1,w,du,dZ,_⟩:=Fv h (hl x (by simp))
  obtain⟨_,_,_,_,h5,_⟩:=nW h
  have h0:=(nW h).2.1
  obtain⟨i2,d2⟩:=Ap i1 du (now:=e.now+n) (by omega) h5
  have i3:=Cr w 30 _ i2 d2
  have hw:M3 (I8 e n x).chart≤100:=by
   unfold I8;simp only;rw[e2];exact Hn i3 w
  have:K9 (I8 e n x)≤100:=by simpa only[K9] using hw
  simp only[List.map_cons,N1,List.length_cons]
  omega
theorem e7q (e:Engine) (n:Int):kD (mN e n)≤H6 e+1000:=by
 unfold mN
 split
 ·have:=qV (bB e n);omega
 ·rename_i h
  have hz:bB e n=0:=by simpa[A2,A0] using h
  have h1:=b8n hz e.insts fun x hx=>hx
  have h2:=(iD (nW hz).1).2.1
  simp only[kD,H6,X6,List.length_map] at *
  omega
set_option maxRecDepth 20000
attribute [local congr] O3
attribute [local simp] L9 M4 K0 L6 J6 L4 J8 J1 K5 I6
theorem e8m {d:Desk} (h:dE d=0):K2 d.eng=0∧d.claims.length≤60∧P4 d 0 d.claims=0:=by
 unfold dE at h
 cases q:A0 (pC d) 0
 ·rw[q] at h;simp only[A2,Bool.not_false,if_true] at h
  rw[h] at q;simp[A0] at q
 ·rw[q] at h
  have e0:pC d=0:=by simpa[A0] using q
  have z:=P9 e0
  have z2:=jT (by omega) z.2
  exact⟨z.1,by simp[A3] at z2;omega,by simpa[A2] using h⟩
theorem e4h {i:Int} {n:Nat} (q:A5 i 0 ((n:Int) - 1)=true):∃ b:Nat,i=b∧b<n:=by
 simp[A5,A6,B5] at q
 obtain⟨k,hk⟩:=Int.eq_ofNat_of_zero_le q.1
 exact⟨k,hk,by omega⟩
attribute [local simp] Y3 cQ gE pM gX W5 V6 dR hC
theorem d1v (l:List Claim):((l.map kT).all fun c=>c.all dJ)=true:=by
 rw[List.all_eq_true];intro c hc;obtain⟨x,_,rfl⟩:=List.mem_map.1 hc;rfl
theorem d7i (l:List Claim) (hl:l.length≤1048576):fo 149 [A (.sl 150 (l.map kT))]=some ⟨.own 150 (l.map kT),[],true⟩:=by
 refine Ds (g:=kM 150) rfl ?_
 have h1:=d1v l
 have h2:=wO hl
 simp only[kM]
 rw[if_pos ⟨trivial,h1,by simpa using h2⟩,hC]
structure SmD (d:Desk):Prop where
 eng:SmE d.eng
 claims:d.claims.length≤1048576
def tH:Desk:=⟨⟨[],[],0⟩,[]⟩
def jL (k:Int):DeskR:=⟨k,0,tH⟩
abbrev vV (r:DeskR):Res:=⟨.agg (a8v r),[],true⟩
theorem c4o (k:Int):fo 94 [A (vI k)]=some (vV (jL k)):=by
 refine d9z 1 ?_
 simp (maxSteps:=1000000) +contextual -dsimp [f94,jL,tH,List.set]
theorem a6i {α:Type} (p:α→Bool):∀ (r:List α) (i:Nat) (acc:List α),S8 (fun _ acc x=>if p x=true then acc++[x] else acc) i acc r=acc++r.filter p
 | [],_,acc=>by simp[S8]
 | x::r,i,acc=>by
  simp only[S8];rw[a6i p r]
  cases q:p x<;>simp[q]
end Go.TM.Ft
namespace Go.TM.Ft
open Go Go.TM Go.Proofs Go.Proofs.Tryz
def Ah (a b:Claim):Prop:=a.inst<b.inst∨(a.inst=b.inst∧a.step<b.step)
theorem Ah.trans {a b c:Claim} (h1:Ah a b) (h2:Ah b c):Ah a c:=by unfold Ah at *;omega
set_option maxRecDepth 20000
attribute [local congr] O3
attribute [local simp] L9 M4 K0 L6 J6 L4 J8 J1 K5 I6 Y3 cQ gE pM gX W5 V6 dR hC
end Go.TM.Ft
namespace Go.TM.Ft
open Go Go.TM Go.Proofs Go.Proofs.Tryz
set_option maxRecDepth 20000
attribute [local congr] O3
attribute [local simp] L9 M4 K0 L6 J6 L4 J8 J1 K5 I6
theorem b0l {args:List Arg} {r:Res} (n:Nat) (h:gZ E (orc E) n (217:Nat) f217 args=some r):fo 217 args=some r:=A9 n rfl rfl rfl func217 h
def pS (p:Claim→Bool):List Claim→Nat→Int
 | [],_=>-1
 | c::r,i=>if p c=true then (i:Int) else pS p r (i+1)
theorem Wr (p:Claim→Bool):∀ (l:List Claim) (i:Nat),(pS p l i=-1∧∀ c,c∈l→p c=false)∨∃ k,k<l.length∧pS p l i=((i+k:Nat):Int)∧(l.take k).filter (fun c=>!p c)=l.take k∧∃ c,l[k]?=some c∧p c=true
 | [],i=>.inl ⟨rfl,fun c hc=>by simp at hc⟩
 | c::r,i=>by
  simp only[pS]
  cases h:p c
  ·rw[if_neg (by simp)]
   rcases Wr p r (i+1) with⟨e,ha⟩ | ⟨k,hk,e,ht,c',hc',hp⟩
   ·exact .inl ⟨e,fun x hx=>by rcases List.mem_cons.1 hx with rfl | hx;exact h;exact ha x hx⟩
   ·exact .inr ⟨k+1,by simp;omega,by rw[e];congr 1;omega,by simp[h,ht],c',by simpa using hc',hp⟩
  ·rw[if_pos rfl]
   exact .inr ⟨0,by simp,by simp,by simp,c,by simp,h⟩
section df
variable {cp:List T} {p:Claim→Bool} {all:List Claim}
theorem a0y (hl:all.length≤1048576) (hp:∀ c,c∈all→fo 218 [A (.agg (kT c)),A (.ipt cp)]=some (R (vB (p c)))):∀ (rest:List Claim) (i:Nat),all.drop i=rest→
  (pS p rest i=-1∧B7 E (orc E) (260:Nat) (rest.length+1) (C1 f260 0) ⟨19,[(0,.sl 150 (all.map kT)),(1,.clo 218 [.ipt cp]),(7,vI all.length),(8,vI i)],[],2⟩=
    some (.exit 0,⟨19,[(0,.sl 150 (all.map kT)),(1,.clo 218 [.ipt cp]),(7,vI all.length),(8,vI (i+rest.length:Nat)),(9,vB false)],[],2⟩))∨
   ∃ k:Nat,pS p rest i=k∧B7 E (orc E) (260:Nat) (rest.length+1) (C1 f260 0) ⟨19,[(0,.sl 150 (all.map kT)),(1,.clo 218 [.ipt cp]),(7,vI all.length),(8,vI i)],[],2⟩=some (.ret,⟨19,[(4,vI k)],[],2⟩)
 | [],i,h=>by
  have G5:all.length≤i:=by simpa using h
  have A1:A3 (i:Int) (all.length:Int)=false:=C9 (by omega)
  refine .inl ⟨rfl,?_⟩
  rw[D5]
  simp +contextual -dsimp [f260,A1]
 | c::rest,i,h=>by
  obtain⟨hi,hc,hr⟩:=F6 h
  have A1:A3 (i:Int) (all.length:Int)=true:=F5 (by omega)
  have hw:IntKind.i64.wrap ((i:Int)+1)=((i+1:Nat):Int):=by rw[B6]<;>omega
  have g:=hp c (by rw[←hc];exact List.getElem_mem hi)
  have he:i+1+rest.length=i+(rest.length+1):=by omega
  simp only[pS]
  cases q:p c
  ·rw[if_neg (by simp)]
   rw[q] at g
   have step:∀ {r},B7 E (orc E) (260:Nat) (rest.length+1) (C1 f260 0) ⟨19,[(0,.sl 150 (all.map kT)),(1,.clo 218 [.ipt cp]),(7,vI all.length),(8,vI (i+1:Nat))],[],2⟩=r→
     B7 E (orc E) (260:Nat) (rest.length+1+1) (C1 f260 0) ⟨19,[(0,.sl 150 (all.map kT)),(1,.clo 218 [.ipt cp]),(7,vI all.length),(8,vI i)],[],2⟩=r:=fun ih=>by
    refine D6 ?_ ih
    simp (maxSteps:=1000000) +contextual -dsimp [f260,A1,hi,hc,hw,g,List.set]
   rcases a0y hl hp rest (i+1) hr with⟨e,ih⟩ | ⟨k,e,ih⟩
   ·refine .inl ⟨e,?_⟩
    rw[he] at ih
    exact step ih
   ·exact .inr ⟨k,e,step ih⟩
  ·rw[if_pos rfl]
   rw[q] at g
   refine .inr ⟨i,rfl,G3 ?_ (by simp)⟩
   simp (maxSteps:=1000000) +contextual -dsimp [f260,A1,hi,hc,hw,g,List.set]
theorem e7l (hl:all.length≤1048576) (hp:∀ c,c∈all→fo 218 [A (.agg (kT c)),A (.ipt cp)]=some (R (vB (p c)))):fo 260 [A (.sl 150 (all.map kT)),A (.clo 218 [.ipt cp])]=some (R (vI (pS p all 0))):=by
 refine e9i (all.length+1) ?_
 rcases a0y hl hp all 0 rfl with⟨e,ih⟩ | ⟨k,e,ih⟩
 ·rw[e]
  simp -dsimp [f260] at ih
  simp (maxSteps:=1000000) +contextual -dsimp [f260,ih,List.set]
 ·rw[e]
  simp -dsimp [f260] at ih
  simp (maxSteps:=1000000) +contextual -dsimp [f260,ih,List.set]
def fN (p:Claim→Bool):List Claim→List (List T)×Nat→List (List T)×Nat
 | [],s=>s
 | c::r,s=>fN p r (if p c=true then s else (s.1.set s.2 (kT c),s.2+1))
theorem Mv (p:Claim→Bool):∀ (rest:List Claim) (j:Nat) (es:List (List T)) (w:Nat),w<j→j+rest.length=es.length→es.all (·.all aF)=true→
  (fN p rest (es,w)).1.length=es.length∧(fN p rest (es,w)).2<es.length∧(fN p rest (es,w)).1.all (·.all aF)=true∧(fN p rest (es,w)).1.take (fN p rest (es,w)).2=es.take w++(rest.filter fun c=>!p c).map kT
 | [],j,es,w,h1,h2,h3=>by simp only[List.length_nil,Nat.add_zero] at h2;exact⟨rfl,by simp only[fN];omega,h3,by simp[fN]⟩
 | c::rest,j,es,w,h1,h2,h3=>by
  simp only[List.length_cons] at h2
  simp only[fN]
  cases q:p c
  ·rw[if_neg (by simp)]
   have h3':(es.set w (kT c)).all (·.all aF)=true:=by
    rw[List.all_eq_true] at h3 ⊢
    intro x hx
    rcases List.mem_or_eq_of_mem_set hx with hx | rfl
    ·exact h3 x hx
    ·rfl
   obtain⟨a1,a2,a3,a4⟩:=Mv p rest (j+1) (es.set w (kT c)) (w+1) (by omega) (by rw[List.length_set];omega) h3'
   rw[List.length_set] at a1 a2
   refine⟨a1,a2,a3,?_⟩
   rw[a4]
   have:(es.set w (kT c)).take (w+1)=es.take w++[kT c]:=by
    rw[List.set_eq_take_append_cons_drop,if_pos (by omega),List.take_append,List.length_take,Nat.min_eq_left (by omega),List.take_of_length_le (by rw[List.length_take];omega),show w+1 - w=1 by omega]
    simp
   rw[this]
   simp[q]
  ·rw[if_pos rfl]
   obtain⟨a1,a2,a3,a4⟩:=Mv p rest (j+1) es w (by omega) (by omega) h3
   exact⟨a1,a2,a3,by rw[a4];simp[q]⟩
def r7 (x:Option Claim):List (Nat×Root):=match x with | none=>[] | some c=>[(7,⟨1,1,true,kT c⟩)]
theorem Pq (hl:all.length≤1048576) (hp:∀ c,c∈all→fo 218 [A (.agg (kT c)),A (.ipt cp)]=some (R (vB (p c)))):∀ (rest:List Claim) (j:Nat) (es:List (List T)) (w:Nat) (x:Option Claim),all.drop j=rest→w<j→es.length=all.length→(∀ k,j≤k→es[k]?=(all.map kT)[k]?)→(∀ x,x∈es→x.length=3)→
  ∃ x',B7 E (orc E) (217:Nat) (rest.length+1) (C1 f217 0) ⟨42,[(0,.ref 0 0 [] 0 all.length),(1,.clo 218 [.ipt cp]),(5,vI w),(6,vI j)],(0,⟨0,0,false,[.own 150 es]⟩)::r7 x,2⟩=
   some (.exit 0,⟨42,[(0,.ref 0 0 [] 0 all.length),(1,.clo 218 [.ipt cp]),(5,vI (fN p rest (es,w)).2),(6,vI (j+rest.length:Nat)),(19,vB false)],(0,⟨0,0,false,[.own 150 (fN p rest (es,w)).1]⟩)::r7 x',2⟩)
 | [],j,es,w,x,h,h1,h2,h3,_=>by
  have G5:all.length≤j:=by simpa using h
  have A1:A3 (j:Int) (all.length:Int)=false:=C9 (by omega)
  refine⟨x,?_⟩
  rw[D5]
  cases x<;>simp +contextual -dsimp [f217,A1,h2,fN,r7]
 | c::rest,j,es,w,x,h,h1,h2,h3,h4=>by
  obtain⟨hi,hc,hr⟩:=F6 h
  have A1:A3 (j:Int) (all.length:Int)=true:=F5 (by omega)
  have hw:IntKind.i64.wrap ((j:Int)+1)=((j+1:Nat):Int):=by rw[B6]<;>omega
  have Q2:IntKind.i64.wrap ((w:Int)+1)=((w+1:Nat):Int):=by rw[B6]<;>omega
  have g:=hp c (by rw[←hc];exact List.getElem_mem hi)
  have he:j+1+rest.length=j+(rest.length+1):=by omega
  have hej:es[j]?=some (kT c):=by rw[h3 j (Nat.le_refl _)];simp[hi,hc]
  have Ox:j<es.length:=by omega
  have nN:w<es.length:=by omega
  have hwa:w<all.length:=by omega
  have hej':es[j]=kT c:=by rw[List.getElem?_eq_getElem Ox] at hej;simpa using hej
  simp only[fN]
  cases q:p c
  ·obtain⟨x',ih⟩:=Pq hl hp rest (j+1) (es.set w (kT c)) (w+1) (some c) hr (by omega) (by rw[List.length_set];exact h2) (fun k hk=>by rw[List.getElem?_set_ne (by omega)];exact h3 k (by omega)) (fun x hx=>by
    rcases List.mem_or_eq_of_mem_set hx with hx | rfl
    ·exact h4 x hx
    ·rfl)
   rw[q] at g
   rw[if_neg (by simp)]
   rw[he] at ih
   obtain⟨t1,t2,t3,hew⟩:∃ t1 t2 t3,es[w]=[t1,t2,t3]:=by
    have:=h4 _ (List.getElem_mem nN)
    match h5:es[w],this with
    | [t1,t2,t3],_=>exact⟨t1,t2,t3,rfl⟩
   refine⟨x',D6 ?_ ih⟩
   cases x<;>simp (maxSteps:=1000000) +contextual -dsimp [f217,A1,hi,hwa,Ox,nN,hej',hew,h2,hw,Q2,g,r7,List.set]
  ·obtain⟨x',ih⟩:=Pq hl hp rest (j+1) es w (some c) hr (by omega) h2 (fun k hk=>h3 k (by omega)) h4
   rw[q] at g
   rw[if_pos rfl]
   rw[he] at ih
   refine⟨x',D6 ?_ ih⟩
   cases x<;>simp (maxSteps:=1000000) +contextual -dsimp [f217,A1,hi,Ox,hej',h2,hw,g,r7,List.set]
theorem f2v (hl:all.length≤1048576) (hp:∀ c,c∈all→fo 218 [A (.agg (kT c)),A (.ipt cp)]=some (R (vB (p c)))):
  fo 217 [⟨.ref 0 0 [] 0 all.length,some ⟨0,0,false,[.own 150 (all.map kT)]⟩⟩,A (.clo 218 [.ipt cp])]=some ⟨.own 150 ((all.filter fun c=>!p c).map kT),[],true⟩:=by
 have g1:=e7l hl hp
 have mO:Q9 (all.map kT)=all.map kT:=iH (f:=kT) (g:=kT) (fun a=>by simp[V2,R4]) all
 have F4:K1 ((all.filter fun c=>!p c).map kT)=true:=by
  generalize (all.filter fun c=>!p c)=l
  induction l with
  | nil=>rfl
  | cons c l ih=>simp[K1,U9,clean,ih]
 have R8:(all.map kT).all (·.all aF)=true:=by
  rw[List.all_eq_true]
  intro x hx
  obtain⟨c,_,rfl⟩:=List.mem_map.1 hx
  rfl
 rcases Wr p all 0 with⟨e,ha⟩ | ⟨i,hi,e,ht,c,hc,hpc⟩
 ·have hf:(all.filter fun c=>!p c)=all:=List.filter_eq_self.2 fun c hc=>by simp[ha c hc]
  rw[e] at g1
  rw[hf] at F4 ⊢
  have q1:A0 (-1) (-1)=true:=rfl
  refine b0l 1 ?_
  simp (maxSteps:=1000000) +contextual -dsimp [f217,g1,mO,F4,q1,List.set]
 ·rw[Nat.zero_add] at e
  rw[e] at g1
  have q1:A0 (i:Int) (-1)=false:=by simp[A0]
  have hw:IntKind.i64.wrap ((i:Int)+1)=((i+1:Nat):Int):=by rw[B6]<;>omega
  obtain⟨x',A4⟩:=Pq hl hp (all.drop (i+1)) (i+1) (all.map kT) i none rfl (by omega) (by simp) (fun k _=>rfl) (fun x hx=>by obtain⟨c,_,rfl⟩:=List.mem_map.1 hx;rfl)
  obtain⟨a1,a2,a3,a4⟩:=Mv p (all.drop (i+1)) (i+1) (all.map kT) i (by omega) (by simp;omega) R8
  have O0:(all.map kT).take i++((all.drop (i+1)).filter fun c=>!p c).map kT=(all.filter fun c=>!p c).map kT:=by
   have h1:all=all.take i++c::all.drop (i+1):=by
    have:=List.take_append_drop i all
    rw[List.drop_eq_getElem_cons hi] at this
    have h2:all[i]=c:=by rw[List.getElem?_eq_getElem hi] at hc;simpa using hc
    rw[h2] at this
    exact this.symm
   conv=>rhs;rw[h1]
   rw[List.filter_append,ht,List.filter_cons,hpc]
   simp[List.map_take]
  rw[O0] at a4
  rw[List.length_map] at a1 a2
  generalize fN p (all.drop (i+1)) (all.map kT,i)=sE at *
  obtain⟨es',w'⟩:=sE
  simp only at a1 a2 a3 a4 A4
  have D7:(all.drop (i+1)).length+1=(all.drop (i+1)).length+1:=rfl
  generalize hN:(all.drop (i+1)).length=N at A4
  have k0:(0:Int)≤(w':Int):=by omega
  have k1:(w':Int)<(all.length:Int):=by omega
  have k2:(w':Int)≤(all.length:Int):=by omega
  have k3:(es'.take w'++List.replicate (all.length - w') [vI 0,vI 0,vI 0]).length=all.length:=by rw[List.length_append,List.length_take,List.length_replicate];omega
  have k4:(es'.take w'++List.replicate (all.length - w') [vI 0,vI 0,vI 0]).take w'=(all.filter fun c=>!p c).map kT:=by
   rw[List.take_append_of_le_length (by rw[List.length_take];omega),List.take_take,Nat.min_self,a4]
  simp -dsimp [f217,r7] at A4
  refine b0l (N+1) ?_
  cases x'<;>simp (maxSteps:=1000000) +contextual -dsimp [f217,g1,mO,F4,q1,hw,A4,a1,a3,k0,k1,k2,k3,k4,r7,List.set]
end df
attribute [local simp] Y3 cQ gE pM gX W5 V6 dR hC
structure ActsAt (e:Engine) (k:Int):Prop where
 at_:∃ (i a:Nat) (hi:i<e.insts.length) (ha:a<e.procs.length),k=i∧(e.insts[i]).proc=a∧(e.procs[a]).length<2 ^ 62∧(e.insts[i]).chart.acts.length=(e.procs[a]).length
theorem b0c {e:Engine} (h:K2 e=0) (hf:FitE e) {i:Nat} (hi:i<e.insts.length):ActsAt e i:=by
 obtain⟨_,_,h3⟩:=iD h
 obtain⟨a,ha,hx,_,_,hl⟩:=(h3 _ (List.getElem_mem hi)).at_
 exact⟨i,a,hi,ha,rfl,hx,(hf.procs _ (List.getElem_mem ha)).len,hl⟩
theorem a1q {e:Engine} (h:K2 e=0) (hf:FitE e) {n:Nat} (hn:n<e.insts.length) {c:Chart} (hc:Inv (stepsOf e (X4 e n)) c) {i:Nat} (hi:i<e.insts.length):ActsAt (tO e n c) i:=by
 obtain⟨i',a,hi',ha,e1,hx,hl,tP⟩:=b0c h hf hi
 obtain rfl:i=i':=by omega
 obtain⟨b,hb,jR,e2,e3⟩:=tY h hn
 rw[Ax hn]
 rw[e2] at hc
 by_cases I5:n=i
 ·subst I5
  obtain rfl:a=b:=by omega
  exact⟨n,a,by simpa using hn,ha,rfl,by simpa using hx,hl,by simpa using hc.acts⟩
 ·exact⟨i,a,by simpa using hi,ha,rfl,by simpa[List.getElem_set,I5] using hx,hl,by simpa[List.getElem_set,I5] using tP⟩
def fS (e:Engine) (l:List Claim):List Claim:=l.filter fun c=>eQ e c.inst c.step
def wR (l:List Claim) (r:EngR):DeskR:=if A2 (A0 r.code 0)=true then jL r.code else ⟨0,r.value,⟨r.eng,fS r.eng l⟩⟩
theorem f0r (r:EngR) (c:Claim) (h:ActsAt r.eng c.inst):fo 218 [A (.agg (kT c)),A (.ipt (rG r))]=some (R (vB (A2 (eQ r.eng c.inst c.step)))):=by
 obtain⟨i,a,hi,ha,e1,hx,hl,tP⟩:=h
 have g:=a0r r.eng i hi a hx ha hl tP c.step
 rw[←e1] at g
 refine e3z 1 ?_
 simp (maxSteps:=1000000) +contextual -dsimp [f218,g,List.set]
abbrev aER (i:Nat) (r:EngR):Arg:=⟨.agg [vI r.code,vI r.value,.ref i 0 [] 2 r.eng.procs.length,.ref i 0 [] 3 r.eng.insts.length,vI r.eng.now],some ⟨0,0,false,[.dead,.dead,.own 160 (r.eng.procs.map L1),.own 163 (r.eng.insts.map P8),.dead]⟩⟩
theorem f2t (l:List Claim) (hl:l.length≤1048576) (r:EngR) (h:r.code=0→∀ c,c∈l→ActsAt r.eng c.inst):fo 150 [A (.sl 150 (l.map kT)),aER 1 r]=some (vV (wR l r)):=by
 unfold wR
 cases q:A0 r.code 0
 ·refine c2l 1 ?_
  simp (maxSteps:=1000000) +contextual -dsimp [f150,q,jL,tH,List.set]
 ·have q0:r.code=0:=by simpa[A0] using q
  have g1:=d7i l hl
  have g2:=f2v (all:=l) (cp:=rG r) (p:=fun c=>A2 (eQ r.eng c.inst c.step)) hl fun c hc=>f0r r c (h q0 c hc)
  have e:(l.filter fun c=>!(A2 (eQ r.eng c.inst c.step)))=fS r.eng l:=by
   unfold fS;congr 1;funext c;simp[A2]
  simp only[e] at g2
  have s1:=Av r.eng.procs
  have s2:=Be r.eng.insts
  have s3:=hC (fS r.eng l)
  generalize fS r.eng l=k at *
  obtain⟨code,value,⟨ps,xs,now⟩⟩:=r
  simp only at *
  subst q0
  refine c2l 1 ?_
  simp (maxSteps:=1000000) +contextual -dsimp [f150,q,g1,g2,s1,s2,s3,D2,List.set]
theorem a8b {d:Desk}:∀ {rest:List Claim} {i:Nat},P4 d i rest=0→∀ c,c∈rest→∃ b:Nat,c.inst=b∧b<d.eng.insts.length
 | [],_,_,c,hc=>by simp at hc
 | x::rest,i,hz,c,hc=>by
  simp only[P4] at hz
  cases q:A0 (P6 d i x) 0
  ·rw[q] at hz;simp only[Bool.false_eq_true,if_false] at hz
   rw[hz] at q;simp[A0] at q
  ·rw[q] at hz;simp only[if_true] at hz
   rcases List.mem_cons.1 hc with rfl | hc
   ·have e0:P6 d i c=0:=by simpa[A0] using q
    unfold P6 at e0
    split at e0
    ·omega
    ·rename_i h
     cases h9:A5 c.inst 0 ((d.eng.insts.length:Int) - 1)
     ·rw[h9] at h;simp[A7,A2] at h
     ·exact e4h h9
   ·exact a8b hz c hc
abbrev Aa:List T:=[vI 0,vI 0,.own 160 [],.own 163 [],vI 0,.own 150 []]
abbrev xC (r:EngR) (acc:List Claim):List T:=[vI 0,vI r.value,.sl 160 (r.eng.procs.map (pT 124 219)),.sl 163 (r.eng.insts.map xT),vI r.eng.now,.own 150 (acc.map kT)]
theorem e8q (r:EngR) (c:Claim) (h:ActsAt r.eng c.inst):fo 175 [A (.ipt [.sl 160 (r.eng.procs.map (pT 124 219)),.sl 163 (r.eng.insts.map xT),vI r.eng.now]),A (vI c.inst),A (vI c.step)]=some (R (vB (eQ r.eng c.inst c.step))):=by
 obtain⟨i,a,hi,ha,e1,hx,hl,tP⟩:=h
 have g:=Yi r.eng [] i hi a hx ha hl tP c.step
 rw[←e1] at g
 exact g
theorem d9x (l:List Claim) (hl:l.length≤1048576) (r:EngR) (h:∀ c,c∈l→ActsAt r.eng c.inst):
  B7 E (orc E) (148:Nat) (l.length+1) (C1 f148 0) ⟨49,[(0,.sl 150 (l.map kT)),(3,.ptr 3 1 [] 0),(4,.ptr 4 1 [] 0),(5,.ptr 5 1 [] 0),(6,vI (0:Nat))],[(3,⟨1,1,true,rG r⟩),(4,⟨1,1,true,Aa⟩),(5,⟨1,1,true,xC r []⟩)],2⟩=
  some (.exit 0,⟨49,[(0,.sl 150 (l.map kT)),(3,.ptr 3 1 [] 0),(4,.ptr 4 1 [] 0),(5,.ptr 5 1 [] 0),(6,vI l.length),(22,vB false)],[(3,⟨1,1,true,rG r⟩),(4,⟨1,1,true,Aa⟩),(5,⟨1,1,true,xC r (fS r.eng l)⟩)],2⟩):=by
 have h0:=iJ (σ:=List Claim) (f:=148) (id:=0) (code:=C1 f148 0) l (fun k acc=>acc.length≤k)
  (fun k acc=>⟨49,[(0,.sl 150 (l.map kT)),(3,.ptr 3 1 [] 0),(4,.ptr 4 1 [] 0),(5,.ptr 5 1 [] 0),(6,vI k)],[(3,⟨1,1,true,rG r⟩),(4,⟨1,1,true,Aa⟩),(5,⟨1,1,true,xC r acc⟩)],2⟩) (fun _ acc x=>if eQ r.eng x.inst x.step=true then acc++[x] else acc)
  (fun acc=>⟨49,[(0,.sl 150 (l.map kT)),(3,.ptr 3 1 [] 0),(4,.ptr 4 1 [] 0),(5,.ptr 5 1 [] 0),(6,vI l.length),(22,vB false)],[(3,⟨1,1,true,rG r⟩),(4,⟨1,1,true,Aa⟩),(5,⟨1,1,true,xC r acc⟩)],2⟩)
 have h2:=h0 ?_ ?_ [] (Nat.le_refl _)
 ·rw[a6i (fun x:Claim=>eQ r.eng x.inst x.step)] at h2;simpa[fS] using h2
 ·intro k acc _
  have A1:=cF l.length
  simp +contextual -dsimp [f148,A1]
 ·intro k j acc hi hI
  have A1:=U2 hi
  have hw:=S6 hi (by omega)
  have J7:acc.length+1≤D0:=by unfold D0;omega
  have g:=e8q r l[j] (h _ (List.getElem_mem hi))
  cases q:eQ r.eng l[j].inst l[j].step
  ·rw[q] at g
   refine⟨?_,by simp;omega⟩
   simp (maxSteps:=1000000) +contextual -dsimp [f148,A1,hi,hw,J7,g,List.set]
  ·rw[q] at g
   refine⟨?_,by simp;omega⟩
   simp (maxSteps:=1000000) +contextual -dsimp [f148,A1,hi,hw,J7,g,List.set]
def Ao (l:List Claim) (r:EngR):Res:=if A2 (A0 r.code 0)=true then vV (jL r.code) else ⟨.agg (xC r (fS r.eng l)),[],false⟩
theorem e5i (l:List Claim) (hl:l.length≤1048576) (r:EngR) (h:r.code=0→∀ c,c∈l→ActsAt r.eng c.inst):fo 148 [A (.sl 150 (l.map kT)),A (.agg (rG r))]=some (Ao l r):=by
 unfold Ao
 cases q:A0 r.code 0
 ·have g:=c4o r.code
  refine c0l 1 ?_
  simp (maxSteps:=1000000) +contextual -dsimp [f148,q,g,jL,tH,List.set]
 ·have q0:r.code=0:=by simpa[A0] using q
  have A4:=d9x l hl r (h q0)
  simp -dsimp [f148] at A4
  have s3:=hC (fS r.eng l)
  generalize fS r.eng l=k at *
  obtain⟨code,value,⟨ps,xs,now⟩⟩:=r
  simp only at *
  subst q0
  simp only[xC,rG,Aa,List.map_nil] at A4
  refine c0l (l.length+1) ?_
  simp (maxSteps:=1000000) +contextual -dsimp [f148,A4,s3,D2,List.set]
end Go.TM.Ft
namespace Go.TM.Ft
open Go Go.TM Go.Proofs Go.Proofs.Tryz
set_option maxRecDepth 20000
attribute [local congr] O3
attribute [local simp] L9 M4 K0 L6 J6 L4 J8 J1 K5 I6 Y3 cQ gE pM gX W5 V6 dR
def bL (e:Engine) (k at_ v:Int):EngR:=
 if A0 k 1=true then mW e at_ [v,v,v,v] else if A0 k 2=true then nI e at_ v
 else if A6 (A0 k 3) (A0 at_ 0)=true then mN e v else if A6 (A0 k 4) (A0 v 0)=true then oU e at_ else N8 1
@[simp] theorem mode_220:E.mode (220:Nat)=[]:=rfl
theorem e9g (v:Int):fo 220 [A (.sl 2 [[vI v]]),A (vI 4)]=some ⟨.own 2 (iE [v,v,v,v]),[],true⟩:=Ds (g:=Dg 2) rfl rfl
theorem d8v (v:Int):([v,v,v,v]:List Int).length<2 ^ 62:=by simp
theorem f0k (e:Engine) (hf:FitE e) (hs:SmE e) (k at_ v:Int):fo 154 [A (.agg (eT e)),A (vI k),A (vI at_),A (vI v)]=some (iT (bL e k at_ v)):=by
 have g0:fo 220 [A (.sl 2 [[vI v]]),A (vI 4)]=some ⟨.own 2 [[vI v],[vI v],[vI v],[vI v]],[],true⟩:=e9g v
 have g1:fo 41 [A (.agg (eT e)),A (vI at_),A (.sl 2 [[vI v],[vI v],[vI v],[vI v]])]=some (iT (mW e at_ [v,v,v,v])):=d5n e hf hs at_ [v,v,v,v] (d8v v)
 have g2:=e5n e hf hs at_ v
 have g3:=d3s e hf hs v
 have g4:=e7c e hf hs at_
 unfold bL
 cases q1:A0 k 1
 ·cases q2:A0 k 2
  ·cases q3:A6 (A0 k 3) (A0 at_ 0)
   ·cases q4:A6 (A0 k 4) (A0 v 0)
    ·refine yP 1 ?_
     simp (maxSteps:=1000000) +contextual -dsimp [f154,q1,q2,q3,q4,N8,bZ,List.set]
    ·refine yP 1 ?_
     generalize oU e at_=r at *
     simp (maxSteps:=1000000) +contextual -dsimp [f154,q1,q2,q3,q4,g4,List.set]
   ·refine yP 1 ?_
    generalize mN e v=r at *
    simp (maxSteps:=1000000) +contextual -dsimp [f154,q1,q2,q3,g3,List.set]
  ·refine yP 1 ?_
   generalize nI e at_ v=r at *
   simp (maxSteps:=1000000) +contextual -dsimp [f154,q1,q2,g2,List.set]
 ·refine yP 1 ?_
  generalize mW e at_ [v,v,v,v]=r at *
  simp (maxSteps:=1000000) +contextual -dsimp [f154,q1,g0,g1,List.set]
theorem d6x (d:Desk) (hf:FitE d.eng) (hs:SmE d.eng) (k at_ v:Int):fo 152 [A (.ipt (dT d)),A (vI k),A (vI at_),A (vI v)]=some (iT (bL d.eng k at_ v)):=by
 have g1:fo 39 [A (.agg (eT d.eng)),A (vI at_),A (.sl 2 [[vI v],[vI v],[vI v],[vI v]])]=some (iT (mW d.eng at_ [v,v,v,v])):=d3w d.eng hf hs at_ [v,v,v,v]
 have g2:=d3o d.eng hf hs at_ v
 have g3:=e7g d.eng hf hs v
 have g4:=f1p d.eng hf hs at_
 have gb:=lL 1
 unfold bL
 cases q1:A0 k 1
 ·cases q2:A0 k 2
  ·cases q3:A0 k 3
   ·cases q4:A0 k 4
    ·refine tA 1 ?_
     simp (maxSteps:=1000000) +contextual -dsimp [f152,q1,q2,q3,q4,gb,List.set]
    ·cases q5:A0 v 0
     ·refine tA 1 ?_
      simp (maxSteps:=1000000) +contextual -dsimp [f152,q1,q2,q3,q4,q5,gb,List.set]
     ·refine tA 1 ?_
      generalize oU d.eng at_=r at *
      simp (maxSteps:=1000000) +contextual -dsimp [f152,q1,q2,q3,q4,q5,g4,List.set]
   ·cases q5:A0 at_ 0
    ·have q4:A0 k 4=false:=by
      have h3:k=3:=by simpa[A0] using q3
      subst h3;rfl
     refine tA 1 ?_
     simp (maxSteps:=1000000) +contextual -dsimp [f152,q1,q2,q3,q4,q5,gb,List.set]
    ·refine tA 1 ?_
     generalize mN d.eng v=r at *
     simp (maxSteps:=1000000) +contextual -dsimp [f152,q1,q2,q3,q5,g3,List.set]
  ·refine tA 1 ?_
   generalize nI d.eng at_ v=r at *
   simp (maxSteps:=1000000) +contextual -dsimp [f152,q1,q2,g2,List.set]
 ·refine tA 1 ?_
  generalize mW d.eng at_ [v,v,v,v]=r at *
  simp (maxSteps:=1000000) +contextual -dsimp [f152,q1,g1,List.set]
end Go.TM.Ft
namespace Go.TM.Ft
open Go Go.TM Go.Proofs Go.Proofs.Tryz
theorem b8u {d:Desk} (h:P3 d≤1048576):SmD d:=⟨e0f (by simp only[P3] at h;omega),by simp only[P3] at h;omega⟩
theorem e1l (x:DeskR):gK x≤4*hJ x:=by
 have:=c1f x.desk
 simp only[gK,hJ];omega
theorem c8r (k:Int):hJ (jL k)≤100:=by simp[hJ,jL,tH,P3,H6,Z9,X6,U4,N1]
abbrev d8n (x:DeskR):List T:=[vI x.code,vI x.value,.sl 160 (x.desk.eng.procs.map (pT 124 219)),.sl 163 (x.desk.eng.insts.map xT),vI x.desk.eng.now,.own 150 (x.desk.claims.map kT)]
theorem d3t (e:Engine) (l:List Claim):(fS e l).length≤l.length:=by
 unfold fS;exact List.length_filter_le _ _
end Go.TM.Ft
