/- What functions of the program come to, by the machine. -/
import Derived.Test.YtlmiemdojgahaaaGreatKL17
import Derived.ProofKit
import Derived.SizedLaws
set_option linter.unusedSimpArgs false
set_option linter.unusedVariables false
set_option maxHeartbeats 16000000
namespace Go.TM.Ft
open Go Go.TM Go.Proofs
set_option maxRecDepth 20000
attribute [local congr] M0
attribute [local simp] K2 K6 J4 K3 H7 J9 H8 G9 J1 G3
structure FitD (d:Desk):Prop where
 eng:FitE d.eng
 claims:d.claims.length < 2 ^ 62
theorem i1n {s:Step} (h:FitS s):b2y s:=⟨h.name,h.cond,h.expr⟩
theorem i1o {p:List Step} (h:FitP p):b2z p:=⟨h.len,fun s hs=>i1n (h.steps s hs)⟩
theorem h4a {c:Chart} (h:FitC c):b8x c:=⟨h.vars,h.acts,h.dues⟩
theorem h0h {e:Engine} (h:FitE e):b8h e:=⟨⟨h.np,fun p hp=>i1o (h.procs p hp)⟩,⟨h.ni,fun x hx=>h4a (h.insts x hx)⟩⟩
theorem i1p {d:Desk} (h:FitD d):c8a d:=⟨h0h h.eng,h.claims⟩
theorem a0k {n:Nat} {ts:List T} (h:K4 Tryz.prog (n+1) 2 ts):∃ x,ts=[vI x]∧-9223372036854775808≤x∧x < 9223372036854775808:=by
 unfold K4 at h;rw[Tryz.underlying2] at h;obtain ⟨x,rfl,hw⟩:=h;have:=bounds_i64 hw;exact ⟨x,rfl,by omega,by omega⟩
theorem g1a {α β:Type} {f:α→β} {p:α→Prop}:∀ {l:List β},(∀ c,c∈l→∃ x,c=f x∧p x)→∃ xs:List α,l=xs.map f∧∀ x,x∈xs→p x
 | [],_=>⟨[],rfl,fun x hx=>by simp at hx⟩
 | c::l,h=>by
  obtain ⟨x,rfl,hx⟩:=h c (by simp);obtain ⟨xs,rfl,hxs⟩:=g1a (f:=f) (p:=p) (l:=l) fun d hd=>h d (by simp[hd]);exact ⟨x::xs,rfl,fun y hy=>by
   rcases List.mem_cons.1 hy with rfl | hy
   ·exact hx
   ·exact hxs y hy⟩
theorem b0e {α:Type} {P:Program} {n:Nat} {t e:TypeId} {ts:List T} {f:α→List T} {p:α→Prop} (hu:P.underlying t=some (.slice e)) (h:K4 P (n+1) t ts)
  (hx:∀ c,K4 P n e c→∃ x,c=f x∧p x):∃ l:List α,ts=[.sl e (l.map f)]∧l.length < 2 ^ 62∧∀ x,x∈l→p x:=by
 unfold K4 at h;rw[hu] at h;obtain ⟨es,rfl,hl,h2⟩:=h;obtain ⟨xs,rfl,hp⟩:=g1a (f:=f) (p:=p) (l:=es) fun c hc=>hx c (h2 c hc);refine ⟨xs,rfl,?_,hp⟩;simp at hl;unfold reachBytes at hl;omega
theorem d7e {n:Nat} {ts:List T} (h:K4 Tryz.prog (n+2) 267 ts):∃ x,ts=nT x∧True:=by
 unfold K4 at h;rw[Tryz.underlying267] at h;obtain ⟨c1,r1,rfl,h1,c2,r2,rfl,h2,c3,r3,rfl,h3,c4,r4,rfl,h4,rfl⟩:=h;obtain ⟨x1,rfl,_⟩:=a0k h1;obtain ⟨x2,rfl,_⟩:=a0k h2;obtain ⟨x3,rfl,_⟩:=a0k h3;obtain ⟨x4,rfl,_⟩:=a0k h4;exact ⟨⟨x1,x2,x3,x4⟩,rfl,trivial⟩
theorem h0i {n:Nat} {ts:List T} (h:K4 Tryz.prog (n+4) 111 ts):∃ s:Step,ts=sT 267 s∧FitS s:=by
 unfold K4 at h;rw[Tryz.underlying111] at h;obtain ⟨c1,r1,rfl,h1,c2,r2,rfl,h2,c3,r3,rfl,h3,c4,r4,rfl,h4,c5,r5,rfl,h5,c6,r6,rfl,h6,rfl⟩:=h;obtain ⟨x1,rfl,_⟩:=a0k h1;obtain ⟨x2,rfl,p1,p2⟩:=a0k h2;obtain ⟨x4,rfl,_⟩:=a0k h4;obtain ⟨x5,rfl,l5,_⟩:=b0e (f:=nT) (p:=fun _=>True) Tryz.underlying109 h5 fun c hc=>d7e hc;obtain ⟨x6,rfl,l6,_⟩:=b0e (f:=nT) (p:=fun _=>True) Tryz.underlying109 h6 fun c hc=>d7e hc;simp only at h3;unfold K4 at h3;rw[Tryz.underlying9] at h3;obtain ⟨x3,rfl,l3⟩:=h3;exact ⟨⟨x1,x2,x3,x4,x5,x6⟩,rfl,p1,p2,by unfold reachBytes at l3;simp;omega,l5,l6⟩
theorem h0j {n:Nat} {ts:List T} (h:K4 Tryz.prog (n+6) 225 ts):∃ p:List Step,ts=pT 111 267 p∧FitP p:=by
 unfold K4 at h;rw[Tryz.underlying225] at h;obtain ⟨c1,r1,rfl,h1,rfl⟩:=h;obtain ⟨l,rfl,hl,hf⟩:=b0e (f:=sT 267) (p:=FitS) Tryz.underlying22 h1 fun c hc=>h0i hc;exact ⟨l,rfl,hl,hf⟩
theorem b7p {n:Nat} {ts:List T} (h:K4 Tryz.prog (n+2) 23 ts):∃ l:List Int,ts=[iS l]∧l.length < 2 ^ 62:=by
 obtain ⟨l,rfl,hl,_⟩:=b0e (f:=fun n=>[vI n]) (p:=fun _=>True) Tryz.underlying23 h fun c hc=>by
  obtain ⟨x,rfl,_⟩:=a0k hc;exact ⟨x,rfl,trivial⟩
 exact ⟨l,rfl,hl⟩
theorem g7t {n:Nat} {ts:List T} (h:K4 Tryz.prog (n+3) 227 ts):∃ c:Chart,ts=cT c∧FitC c:=by
 unfold K4 at h;rw[Tryz.underlying227] at h;obtain ⟨c1,r1,rfl,h1,c2,r2,rfl,h2,c3,r3,rfl,h3,c4,r4,rfl,h4,c5,r5,rfl,h5,rfl⟩:=h;obtain ⟨x1,rfl,_⟩:=a0k h1;obtain ⟨x2,rfl,_⟩:=a0k h2;obtain ⟨x3,rfl,l3⟩:=b7p h3;obtain ⟨x4,rfl,l4⟩:=b7p h4;obtain ⟨x5,rfl,l5⟩:=b7p h5;exact ⟨⟨x1,x2,x3,x4,x5⟩,rfl,l3,l4,l5⟩
theorem h0k {n:Nat} {ts:List T} (h:K4 Tryz.prog (n+4) 229 ts):∃ x:Inst,ts=xT x∧FitC x.chart:=by
 unfold K4 at h;rw[Tryz.underlying229] at h;obtain ⟨c1,r1,rfl,h1,c2,r2,rfl,h2,rfl⟩:=h;obtain ⟨x1,rfl,_⟩:=a0k h1;obtain ⟨x2,rfl,f2⟩:=g7t h2;exact ⟨⟨x1,x2⟩,rfl,f2⟩
theorem g7u {n:Nat} {ts:List T} (h:K4 Tryz.prog (n+2) 222 ts):∃ x:Claim,ts=kT x∧True:=by
 unfold K4 at h;rw[Tryz.underlying222] at h;obtain ⟨c1,r1,rfl,h1,c2,r2,rfl,h2,c3,r3,rfl,h3,rfl⟩:=h;obtain ⟨x1,rfl,_⟩:=a0k h1;obtain ⟨x2,rfl,_⟩:=a0k h2;obtain ⟨x3,rfl,_⟩:=a0k h3;exact ⟨⟨x1,x2,x3⟩,rfl,trivial⟩
theorem g6c {n:Nat} {ts:List T} (h:K4 Tryz.prog (n+8) 51 ts):∃ e:Engine,ts=eTl e∧FitE e:=by
 unfold K4 at h;rw[Tryz.underlying51] at h;obtain ⟨c1,r1,rfl,h1,c2,r2,rfl,h2,c3,r3,rfl,h3,rfl⟩:=h;obtain ⟨x1,rfl,l1,f1⟩:=b0e (f:=pT 111 267) (p:=FitP) Tryz.underlying48 h1 fun c hc=>h0j hc;obtain ⟨x2,rfl,l2,f2⟩:=b0e (f:=xT) (p:=fun x=>FitC x.chart) Tryz.underlying49 h2 fun c hc=>h0k hc;obtain ⟨x3,rfl,_⟩:=a0k h3;exact ⟨⟨x1,x2,x3⟩,rfl,l1,l2,f1,f2⟩
theorem h0l {ts:List T} (h:K4 Tryz.prog 9 54 ts):∃ d:Desk,ts=dTl d∧FitD d:=by
 unfold K4 at h;rw[Tryz.underlying54] at h;obtain ⟨c1,r1,rfl,h1,c2,r2,rfl,h2,rfl⟩:=h;obtain ⟨x1,rfl,f1⟩:=g6c h1;obtain ⟨x2,rfl,l2,_⟩:=b0e (f:=kT) (p:=fun _=>True) Tryz.underlying52 h2 fun c hc=>g7u hc;exact ⟨⟨x1,x2⟩,rfl,f1,l2⟩
attribute [local simp] a2h a5d a7p
end Go.TM.Ft
namespace Go.TM.Ft
open Go Go.TM Go.Proofs
theorem b8y {α:Type} (w:α→Nat) (s:List α→Nat) (h0:∀ x r,s (x::r)=w x+s r):∀ {l:List α} {x:α},x∈l→w x≤s l
 | [],x,h=>by simp at h
 | y::l,x,h=>by
  rw[h0]
  rcases List.mem_cons.1 h with rfl | h
  ·omega
  ·have:=b8y w s h0 h;omega
theorem i4u {e:Engine} (h:D8 e≤1048576):SmE e:=by
 have h1:Q7 e.procs≤1048576:=by simp only[D8] at h;omega
 have h2:U8 e.insts≤1048576:=by simp only[D8] at h;omega
 refine ⟨by simp only[Q7] at h1;omega,by simp only[U8] at h2;omega,fun p hp=>?_,fun x hx=>?_⟩
 ·have hw:J5 p≤1048576:=by
   have:=b8y J5 N1 (fun _ _=>rfl) hp;simp only[Q7] at h1;omega
  simp only[J5,a1z] at hw;refine ⟨by omega,fun s hs=>?_⟩;have:=b8y H0 O9 (fun _ _=>rfl) hs;simp only[H0] at this;exact ⟨by omega,by omega⟩
 ·have hw:H9 x≤1048576:=by
   have:=b8y H9 L1 (fun _ _=>rfl) hx;simp only[U8] at h2;omega
  simp only[H9,J2] at hw;exact ⟨by omega,by omega,by omega⟩
theorem d3o:∀ (l:List Inst) (n:Nat) (x:Inst),L1 (l.set n x)≤L1 l+H9 x
 | [],n,x=>by simp[L1]
 | y::l,0,x=>by simp only[List.set_cons_zero,L1];omega
 | y::l,n+1,x=>by have:=d3o l n x;simp only[List.set_cons_succ,L1];omega
theorem i4v (e:Engine) (n:Nat) (c:Chart):D8 (b3s e n c)≤D8 e+J2 c:=by
 unfold b3s
 split
 ·rename_i x hx;have:=d3o e.insts n ⟨x.proc,c⟩;simp only[D8,U8,List.length_set,H9] at this ⊢;omega
 ·omega
theorem i6n {l:List Step} {c:Chart} (h:Inv l c) (w:Wf l):J2 c≤100:=by
 have:=w.ok.le;have:=h.vars;have:=h.acts;have:=h.dues;simp only[J2];omega
theorem g2o:J2 noC≤100:=by simp[J2,noC]
theorem g1b (k:Int):b1q (a4x k)≤100:=by simp[b1q,a4x,noE,D8,Q7,U8,N1,L1]
theorem i4w (e:Engine) (n:Nat) (r:Int × Chart) (h:J2 r.2≤100):b1q (a7e e n r)≤D8 e+100:=by
 unfold a7e
 split
 ·have:=g1b r.1;omega
 ·have:=i4v e n r.2;simp only[b1q];omega
theorem i4x (l:List Step) (c:Chart) (step:Int) (vars:List Int):J2 (a1i l c step vars).2≤100:=by
 by_cases h:(a1i l c step vars).1=0
 ·have e:b3r l c ⟨1,step,vars⟩=a1i l c step vars:=by simp[b3r,eqI]
  have hI:=e0s (l:=l) (c:=c) (a:=⟨1,step,vars⟩) (by rw[e];exact h);rw[e] at hI;refine i6n hI ?_;unfold a1i at h
  split at h
  ·rename_i q;simp only at h;rw[h] at q;simp[A0,eqI] at q
  ·rename_i q;have z:B5 (chartM l c) (M4 vars)=0:=by simpa[A0,eqI] using q
   exact (b2x (O1 z).1).2.1
 ·unfold a1i at h ⊢
  split
  ·exact g2o
  ·rename_i q1;rw[if_neg q1] at h
   split
   ·exact g2o
   ·rename_i q2;rw[if_neg q2] at h;exact absurd rfl h
theorem i1q (e:Engine) (inst step:Int) (vars:List Int):b1q (a0i e inst step vars)≤D8 e+1000:=by
 unfold a0i
 split
 ·have:=g1b (a2p e inst);omega
 ·have:=i4w e inst.toNat _ (i4x (stepsOf e (a1g e inst)) (a1g e inst).chart step vars);omega
theorem g1c {d:Desk} (h:K9 d≤1048576):SmD d:=⟨i4u (by simp only[K9] at h;omega),by simp only[K9] at h;omega⟩
theorem g4d (x:DeskR):a2s x≤4*a3o x:=by
 have:=f6a x.desk;simp only[a2s,a3o];omega
theorem c8h (k:Int):a3o (a1n k)≤100:=by simp[a3o,a1n,noD,K9,D8,Q7,U8,N1,L1]
abbrev i7b (x:DeskR):List T:=[vI x.code,vI x.value,.sl 160 (x.desk.eng.procs.map (pT 124 219)),.sl 163 (x.desk.eng.insts.map xT),vI x.desk.eng.now,.own 150 (x.desk.claims.map kT)]
theorem h4b (d:Desk) (u i s:Int) (vars:List Int):b3t d u i s vars=RDk (a7v d u i s vars)∨b3t d u i s vars=⟨.agg (i7b (a7v d u i s vars)),[],false⟩:=by
 unfold b3t a7v
 split
 ·exact .inl rfl
 split
 ·unfold b6g b2q
  split
  ·exact .inl rfl
  ·exact .inr rfl
 ·exact .inl rfl
theorem g6d (l:List Claim) (i s:Int):(U6 l i s).length≤l.length:=by
 unfold U6;exact List.length_filter_le _ _
theorem h4c (e:Engine) (l:List Claim):(a3f e l).length≤l.length:=by
 unfold a3f;exact List.length_filter_le _ _
theorem h0m (d:Desk) (u i s:Int) (vars:List Int):a3o (a7v d u i s vars)≤K9 d+1100:=by
 unfold a7v
 split
 ·have:=c8h (L8 d u i s);omega
 split
 ·unfold b2q
  split
  ·have:=c8h (a0i d.eng i s vars).code;omega
  ·have h1:=i1q d.eng i s vars;have h2:=h4c (a0i d.eng i s vars).eng (U6 d.claims i s);have h3:=g6d d.claims i s;simp only[a3o,K9,b1q] at *;omega
 ·have:=c8h 10;omega
set_option maxRecDepth 20000
attribute [local congr] M0
attribute [local simp] K2 K6 J4 K3 H7 J9 H8 G9 J1 G3 a2h a5d a7p
theorem g6e (d:Desk) (h_d:FitD d) (user:Int) (inst:Int) (step:Int) (vars:List Int) (h_vars:vars.length < 2 ^ 62):
  fo 11 [A (.agg (dTl d)),A (vI user),A (vI inst),A (vI step),A (iS vars)]=some (R (vB true)):=by
 cases c4:ltI 1048576 vars.length
 rotate_left
 ·refine b9p 1 ?_;simp (maxSteps:=1000000) +contextual -dsimp [Tryz.f11,c4,List.set]
 have l4:vars.length≤1048576:=by simp[ltI] at c4;omega
 have s0:=h3c d (1048576) (by omega) (by omega) (i1p h_d)
 cases c0:ltI (B8 (1048576) (K9 d)) 0
 rotate_left
 ·refine b9p 1 ?_;simp (maxSteps:=1000000) +contextual -dsimp [Tryz.f11,c4,s0,c0,List.set]
 obtain ⟨p0,e0⟩:=a0u c0;rw[e0] at s0 c0;have v0:K9 d≤1048576:=by omega
 have o0:=h3v d v0;have q0:=e1a d (by omega);have b0:=f6a d;have o4:=b8k vars l4;have q4:=b8i vars (by omega);have b4:K0 vars=vars.length:=rfl;have r1:=g4c d h_d.eng (g1c v0) user inst step vars;have r2:=g4w d h_d.eng (g1c v0) user inst step vars h_vars;have hw:a3o (a7v d user inst step vars)≤2097152:=(by have:=h0m d user inst step vars;omega);have rr:=h4b d user inst step vars;generalize b3t d user inst step vars=W at *;generalize a7v d user inst step vars=x at *;have bx:=g4d x;have qx:=g3u x hw;obtain ⟨d0,m0⟩:=d4s d (1) (by omega) (by omega) (by omega);obtain ⟨d4,m4⟩:=b6v vars (1+(a0p d:Nat)) (by omega) (by omega) (by omega);obtain ⟨dx,mx⟩:=g3n x 1 (by omega) (by omega) hw;have hx:=g3o x 1 (by omega) (by omega) hw;rw[show (T.agg (drT (a7i 1 x)):T)=.agg [vI x.code,vI x.value,.sl 160 ((a7i 1 x).desk.eng.procs.map (pT 124 219)),.sl 163 ((a7i 1 x).desk.eng.insts.map xT),vI x.desk.eng.now,.sl 150 ((a7i 1 x).desk.claims.map kT)] from rfl] at hx;have n1:ltI (1+(a0p d:Nat)+(K0 vars:Nat)) 0=false:=B6 (by omega);have n2:ltI (1+(a2s x:Nat)) 0=false:=B6 (by omega);generalize 1+(a0p d:Int)=a0 at *;generalize a9j 1 d=y0 at *;generalize a0+(K0 vars:Int)=a4 at *;generalize G6 a0 vars=y4 at *;generalize 1+(a2s x:Int)=ax at *;generalize a7i 1 x=y at *;have t0:=b4b d.eng.procs;have t1:=b4c d.eng.insts;have t2:=b3x d.claims;have t3:=d3a vars;have t4:=b4b x.desk.eng.procs;have t5:=b4c x.desk.eng.insts;have t6:=b3x x.desk.claims;have t7:=b4b y.desk.eng.procs;have t8:=b4c y.desk.eng.insts;have t9:=b3x y.desk.claims
 rcases rr with rfl | rfl
 ·refine b9p 1 ?_;simp (maxSteps:=4000000) +contextual -dsimp [Tryz.f11,c4,s0,c0,o0,q0,o4,q4,m0,m4,r1,r2,qx,mx,hx,n1,n2,t0,t1,t2,t3,t4,t5,t6,t7,t8,t9,B7,V8,a1x,a1v,a2u,N3,a1b,a1h,a3b,valArg,List.set]
 ·refine b9p 1 ?_;simp (maxSteps:=4000000) +contextual -dsimp [Tryz.f11,c4,s0,c0,o0,q0,o4,q4,m0,m4,r1,r2,qx,mx,hx,n1,n2,t0,t1,t2,t3,t4,t5,t6,t7,t8,t9,B7,V8,a1x,a1v,a2u,N3,a1b,a1h,a3b,valArg,List.set]
end Go.TM.Ft
namespace Go.TM.Ft
open Go Go.TM Go.Proofs Go.RowKit Go.ChangeShapes Go.WideShapes
set_option maxRecDepth 20000
def d0b (sz:TypeId→Nat) (h:Array Obj) (I:Nat→Prop):List T→List Value→Prop
 | [],us=>us=[]
 | t::ts,us=>∃ u us',us=u::us'∧okV sz h I t u []∧d0b sz h I ts us'
theorem d4v {sz h I}:∀ {ar:List T} {us:List Value} (i:Nat),d0b sz h I ar us→okArgs sz h I i (ar.map A) us []
 | [],us,i,h=>⟨h,rfl⟩
 | t::ts,us,i,h=>by
  obtain ⟨u,us',rfl,h1,h2⟩:=h;exact ⟨u,us',[],[],rfl,rfl,⟨h1,rfl⟩,d4v (i+1) h2⟩
theorem h0n {f:Nat} {ar:List T} {us:List Value} {W:Go.World} (hl:lends (E.mode f)=false) (h:fo f (ar.map A)=some (R (vB true))) (hok:d0b (szOf E) W.heap (fun b=>b < W.heap.size) ar us):
  Calls Tryz.prog f us.toArray W fun e W'=>e=.returned (.bool true)∧Below W.heap.size W W':=by
 have hs:=(b8d i6z h).1.old hl ⟨W,[],fun b=>b < W.heap.size,fun b hb=>⟨hb,by simp⟩⟩ us (by simp[Uniq]) (by simp) (d4v 0 hok);refine Calls.mono hs fun e W' h=>?_
 match e,h with
 | .returned u,h=>
  obtain ⟨f,fo,hu,_⟩:=h.ok;simp only[okV] at hu;obtain ⟨rfl,_⟩:=hu;exact ⟨rfl,⟨h.fr.os,h.fr.tape,h.fr.output,h.fr.size,fun k hk=>h.fr.block k hk (by simp)⟩⟩
section
variable {H:Type} {enc:TypeId × Value→H} {W:Go.World} {base:Nat} {n:Nat} {t:TypeId} {v:Value} {d:DataW H} {p:List MemPlace}
theorem d7f (hp:a3x (szOf E) Tryz.prog n t=true) (h:DataW.Trod enc Tryz.prog W 0 (fun _=>true) true t v d p) (hv:v.cells=#[v]) (hwt:∀ k,k∈d.weights Tryz.prog t→k≤reachBytes):
  ∃ a,K4 Tryz.prog n t [a]∧okV (szOf E) W.heap (fun b=>b < W.heap.size) a v []:=by
 obtain ⟨ts,ht,hok⟩:=h5o (sz:=szOf E) (I:=fun b=>b < W.heap.size) (fun b hb=>hb) hp h hv hwt
 match ts,hok with
 | [],hok=>simp[okL] at hok
 | a::ts,hok=>
  simp only[okL] at hok;obtain ⟨u,us',f1,f2,e1,e2,h1,h2⟩:=hok;obtain ⟨rfl,rfl⟩:=List.cons.inj e1;obtain ⟨rfl,rfl⟩:=List.append_eq_nil_iff.1 e2.symm
  cases ts with
  | nil=>exact ⟨a,ht,h1⟩
  | cons b ts=>simp[okL] at h2
theorem g7v {e:TypeId} (hu:Tryz.prog.underlying t=some (.slice e)) (hp:a3x (szOf E) Tryz.prog n t=true) (h:DataW.Trod enc Tryz.prog W 0 (fun _=>true) true t v d p) (hv:Value.okWide Tryz.prog W .any base t v)
  (hwt:∀ k,k∈d.weights Tryz.prog t→k≤reachBytes):∃ a,K4 Tryz.prog n t [a]∧okV (szOf E) W.heap (fun b=>b < W.heap.size) a v []:=by
 obtain ⟨a,len,cap,rfl⟩:=okWide_slice hu hv;exact d7f hp h rfl hwt
theorem c5f {k:IntKind} (hu:Tryz.prog.underlying t=some (.int k)) (hp:a3x (szOf E) Tryz.prog n t=true) (h:DataW.Trod enc Tryz.prog W 0 (fun _=>true) true t v d p) (hv:Value.okWide Tryz.prog W .any base t v)
  (hwt:∀ k,k∈d.weights Tryz.prog t→k≤reachBytes):∃ a,K4 Tryz.prog n t [a]∧okV (szOf E) W.heap (fun b=>b < W.heap.size) a v []:=by
 obtain ⟨m,rfl⟩:=okWide_int hu hv;exact d7f hp h rfl hwt
theorem g6f {fs:Array Field} (hu:Tryz.prog.underlying t=some (.struct fs)) (hp:a3x (szOf E) Tryz.prog n t=true) (h:DataW.Trod enc Tryz.prog W 0 (fun _=>true) true t v d p) (hv:Value.okWide Tryz.prog W .any base t v)
  (hwt:∀ k,k∈d.weights Tryz.prog t→k≤reachBytes):∃ cs,K4 Tryz.prog n t cs∧okV (szOf E) W.heap (fun b=>b < W.heap.size) (.agg cs) v []:=by
 simp only[Value.okWide,hu] at hv;obtain ⟨cs,rfl,_⟩:=hv;obtain ⟨fuel,hf0⟩:=h;obtain ⟨ts,ht,hok⟩:=b9o (sz:=szOf E) (I:=fun b=>b < W.heap.size) (fun b hb=>hb) n fuel t _ _ hp hf0 hwt;exact ⟨ts,ht,by simp only[okV];exact ⟨cs.toList,by simp,hok⟩⟩
end
theorem g5b {H:Type} {enc:TypeId × Value→H} {P:Program} {w:Go.World} {base:Nat} {spare:Nat→Bool} {held:Bool} {t t' t'' t3 t4:TypeId} {args:Array Value} {ds:List (DataW H)} {ps:List MemPlace} (h:DataW.TrodAll enc P w base spare held [t,t',t'',t3,t4] args.toList ds ps):
  ∃ v v' v'' v3 v4 d d' d'' d3 d4 p p' p'' p3 p4,args=#[v,v',v'',v3,v4]∧ds=[d,d',d'',d3,d4]∧ps=p++p'++p''++p3++p4∧DataW.Trod enc P w base spare held t v d p∧DataW.Trod enc P w base spare held t' v' d' p'∧DataW.Trod enc P w base spare held t'' v'' d'' p''∧DataW.Trod enc P w base spare held t3 v3 d3 p3∧DataW.Trod enc P w base spare held t4 v4 d4 p4:=by
 obtain ⟨v,vs,d,ds',p,q,hargs,rfl,rfl,hd,hrest⟩:=trodAll_cons h;obtain ⟨v',vs',d',ds'',p',q',rfl,rfl,rfl,hd',hrest'⟩:=trodAll_cons hrest;obtain ⟨v'',vs'',d'',ds''',p'',q'',rfl,rfl,rfl,hd'',hrest''⟩:=trodAll_cons hrest';obtain ⟨v3,vs3,d3,ds3,p3,q3,rfl,rfl,rfl,hd3,hrest3⟩:=trodAll_cons hrest'';obtain ⟨v4,vs4,d4,ds4,p4,q4,rfl,rfl,rfl,hd4,hrest4⟩:=trodAll_cons hrest3;obtain ⟨rfl,rfl,rfl⟩:=trodAll_nil hrest4
 exact ⟨v,v',v'',v3,v4,d,d',d'',d3,d4,p,p',p'',p3,p4,by cases args;simp_all,rfl,by simp,hd,hd',hd'',hd3,hd4⟩
theorem g6g {H:Type} {enc:TypeId × Value→H} {P:Program} {w:Go.World} {base:Nat} {spare:Nat→Bool} {held:Bool} {t t' t'' t3 t4:TypeId} {v v' v'' v3 v4:Value} {d d' d'' d3 d4:DataW H} {p p' p'' p3 p4:List MemPlace} (h:DataW.Trod enc P w base spare held t v d p) (h':DataW.Trod enc P w base spare held t' v' d' p')
  (h'':DataW.Trod enc P w base spare held t'' v'' d'' p'') (h3:DataW.Trod enc P w base spare held t3 v3 d3 p3) (h4:DataW.Trod enc P w base spare held t4 v4 d4 p4):DataW.TrodAll enc P w base spare held [t,t',t'',t3,t4] [v,v',v'',v3,v4] [d,d',d'',d3,d4] (p++(p'++(p''++(p3++p4)))):=⟨p,p'++(p''++(p3++p4)),h,trodAll_mk4 h' h'' h3 h4,rfl⟩
end Go.TM.Ft
