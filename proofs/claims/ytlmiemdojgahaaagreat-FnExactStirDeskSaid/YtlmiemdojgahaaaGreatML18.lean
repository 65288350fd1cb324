/- What functions of the program come to, by the machine. -/
import Derived.Test.YtlmiemdojgahaaaGreatML17
import Derived.Test.YtlmiemdojgahaaaGreatML16
import Derived.Test.YtlmiemdojgahaaaGreatML12
import Derived.ProofKit
import Derived.SizedLaws
set_option linter.unusedSimpArgs false
set_option linter.unusedVariables false
set_option maxHeartbeats 16000000
namespace Go.TM.Ft
open Go Go.TM Go.Proofs
set_option maxRecDepth 20000
attribute [local congr] O3
attribute [local simp] L9 M4 K0 L6 J6 L4 J8 J1 K5 I6 Y3 cQ gE pM gX W5 V6 dR hC
theorem d2x {l:List Step} {c:Chart} {msg:Int} (h:(cX l c msg).1=0):Inv l (cX l c msg).2:=by
 have:=Xm (l:=l) (c:=c) (a:=⟨2,msg,[]⟩)
 simp only[wT,show A0 (2:Int) 1=false from rfl,show A0 (2:Int) 2=true from rfl,if_true,Bool.false_eq_true,if_false] at this
 exact this h
theorem b1a {l:List Step} {c:Chart} (h:Inv l c):Inv l (lR l.length 3 c):=
 ⟨h.vars,by simp[lR],by simp[lR],h.now0,h.now1,h.rng⟩
theorem f1h {e:Engine} (hf:FitE e) {n:Int} (h:bB e n=0) {i:Nat} (hi:i<e.insts.length):ActsAt ⟨e.procs,e.insts.map (I8 e n),e.now+n⟩ i:=by
 obtain⟨a,ha,hp,e2,i1,w,du,dZ,_⟩:=Fv h (List.getElem_mem hi)
 obtain⟨_,h0,_,_,h5,_⟩:=nW h
 obtain⟨i2,d2⟩:=Ap i1 du (now:=e.now+n) (by omega) h5
 have i3:=Cr w 30 _ i2 d2
 refine⟨i,a,by simpa using hi,ha,rfl,by simpa[I8] using hp,(hf.procs _ (List.getElem_mem ha)).len,?_⟩
 simp only[List.getElem_map,I8]
 rw[e2];exact i3.acts
theorem d5w {e:Engine} (hf:FitE e) (h:K2 e=0) {k at_ v:Int} (hc:(bL e k at_ v).code=0) {i:Nat} (hi:i<e.insts.length):ActsAt (bL e k at_ v).eng i:=by
 unfold bL at hc ⊢
 split
 ·rename_i q
  rw[if_pos q] at hc
  unfold mW at hc ⊢
  split
  ·rename_i q2
   rw[if_pos q2] at hc
   simp only[N8] at hc
   rw[hc] at q2;simp[A2,A0] at q2
  ·rename_i q2
   rw[if_neg q2] at hc
   unfold zM at hc ⊢
   split
   ·rename_i q3
    rw[if_pos q3] at hc
    simp only[N8] at hc
    rw[hc] at q3;simp[A2,A0] at q3
   ·obtain⟨i',a,hi',ha,e1,hx,hl,tP⟩:=b0c h hf hi
    obtain rfl:i=i':=by omega
    refine⟨i,a,by simp;omega,ha,rfl,?_,hl,?_⟩
    ·simpa[List.getElem_append_left hi'] using hx
    ·simpa[List.getElem_append_left hi'] using tP
 rename_i q
 rw[if_neg q] at hc
 split
 ·rename_i q
  rw[if_pos q] at hc
  unfold nI at hc ⊢
  cases q2:A0 (U6 e at_) 0
  ·rw[q2] at hc
   simp only[A2,Bool.not_false,if_true,N8] at hc
   rw[hc] at q2;simp[A0] at q2
  ·rw[q2] at hc
   have q0:U6 e at_=0:=by simpa[A0] using q2
   obtain⟨h0,n,rfl,hn⟩:=tV q0
   have e3:((n:Nat):Int).toNat=n:=by omega
   simp only[A2,Bool.not_true,Bool.false_eq_true,if_false,e3] at hc ⊢
   unfold mL at hc ⊢
   cases q3:A0 (cX (stepsOf e (X4 e n)) (X4 e n).chart v).1 0
   ·rw[q3] at hc
    simp only[A2,Bool.not_false,if_true,N8] at hc
    rw[hc] at q3;simp[A0] at q3
   ·simp only[A2,Bool.not_true,Bool.false_eq_true,if_false]
    exact a1q h0 hf hn (d2x (by simpa[A0] using q3)) hi
 rename_i q
 rw[if_neg q] at hc
 split
 ·rename_i q
  rw[if_pos q] at hc
  unfold mN at hc ⊢
  cases q2:A0 (bB e v) 0
  ·rw[q2] at hc
   simp only[A2,Bool.not_false,if_true,N8] at hc
   rw[hc] at q2;simp[A0] at q2
  ·simp only[A2,Bool.not_true,Bool.false_eq_true,if_false]
   exact f1h hf (by simpa[A0] using q2) hi
 rename_i q
 rw[if_neg q] at hc
 split
 ·rename_i q
  rw[if_pos q] at hc
  unfold oU at hc ⊢
  cases q2:A0 (U6 e at_) 0
  ·rw[q2] at hc
   simp only[A2,Bool.not_false,if_true,N8] at hc
   rw[hc] at q2;simp[A0] at q2
  ·rw[q2] at hc
   have q0:U6 e at_=0:=by simpa[A0] using q2
   obtain⟨h0,n,rfl,hn⟩:=tV q0
   obtain⟨a,ha,hx,e2,e1⟩:=tY h0 hn
   have e3:((n:Nat):Int).toNat=n:=by omega
   simp only[A2,Bool.not_true,Bool.false_eq_true,if_false,e3] at hc ⊢
   cases q3:A0 (X4 e n).chart.status 1
   ·rw[q3] at hc
    simp[N8] at hc
   ·simp only[Bool.not_true,Bool.false_eq_true,if_false]
    have P5:=((iD h0).2.2 _ (List.getElem_mem hn)).chart
    rw[←e1] at P5
    exact a1q h0 hf hn (b1a (jU P5).1) hi
 ·rename_i q;rw[if_neg q] at hc;simp[N8] at hc
theorem b4x {d:Desk} (hf:FitE d.eng) (h:dE d=0) {k at_ v:Int} (h0:(bL d.eng k at_ v).code=0):∀ c,c∈d.claims→ActsAt (bL d.eng k at_ v).eng c.inst:=fun c hc=>by
 obtain⟨z1,_,z3⟩:=e8m h
 obtain⟨b,e,hb⟩:=a8b z3 c hc
 rw[e]
 exact d5w hf z1 h0 hb
def nZ (d:Desk) (k at_ v:Int):DeskR:=if A2 (A0 (dE d) 0)=true then jL (dE d) else wR d.claims (bL d.eng k at_ v)
def xD (d:Desk) (k at_ v:Int):Res:=if A2 (A0 (dE d) 0)=true then vV (jL (dE d)) else Ao d.claims (bL d.eng k at_ v)
theorem e9t (d:Desk) (k at_ v:Int):xD d k at_ v=vV (nZ d k at_ v)∨xD d k at_ v=⟨.agg (d8n (nZ d k at_ v)),[],false⟩:=by
 unfold xD nZ
 split
 ·exact .inl rfl
 ·unfold Ao wR
  split
  ·exact .inl rfl
  ·exact .inr rfl
theorem e2x (d:Desk) (hf:FitD d) (h:SmD d) (k at_ v:Int):fo 67 [A (.agg (dT d)),A (vI k),A (vI at_),A (vI v)]=some (vV (nZ d k at_ v)):=by
 have g1:=e4e d hf.eng hf.claims
 have g2:=f0k d.eng hf.eng h.eng k at_ v
 unfold nZ
 cases q:A0 (dE d) 0
 ·refine a2y 1 ?_
  simp (maxSteps:=1000000) +contextual -dsimp [Tryz.f67,g1,q,jL,tH,List.set]
 ·have q0:dE d=0:=by simpa[A0] using q
  have g3:=f2t d.claims h.claims _ fun hz=>b4x hf.eng q0 (k:=k) (at_:=at_) (v:=v) hz
  generalize bL d.eng k at_ v=r at *
  generalize wR d.claims r=t at *
  refine a2y 1 ?_
  simp (maxSteps:=1000000) +contextual -dsimp [Tryz.f67,g1,q,g2,g3,List.set]
theorem f1l (d:Desk) (hf:FitD d) (h:SmD d) (k at_ v:Int):fo 66 [A (.agg (dT d)),A (vI k),A (vI at_),A (vI v)]=some (xD d k at_ v):=by
 have g1:=f2p d hf.eng hf.claims
 have g2:=d6x d hf.eng h.eng k at_ v
 have gb:=c4o (dE d)
 unfold xD
 cases q:A0 (dE d) 0
 ·refine Lz 1 ?_
  simp (maxSteps:=1000000) +contextual -dsimp [Tryz.f66,g1,gb,q,List.set]
 ·have q0:dE d=0:=by simpa[A0] using q
  have g3:=e5i d.claims h.claims _ fun hz=>b4x hf.eng q0 (k:=k) (at_:=at_) (v:=v) hz
  have s1:=Av (bL d.eng k at_ v).eng.procs
  have s2:=Be (bL d.eng k at_ v).eng.insts
  generalize bL d.eng k at_ v=r at *
  unfold Ao at g3 ⊢
  cases q3:A0 r.code 0
  ·rw[q3] at g3
   refine Lz 1 ?_
   simp (maxSteps:=1000000) +contextual -dsimp [Tryz.f66,g1,q,g2,g3,s1,s2,jL,tH,List.set]
  ·rw[q3] at g3
   have s3:=hC (fS r.eng d.claims)
   generalize fS r.eng d.claims=k' at *
   refine Lz 1 ?_
   simp (maxSteps:=1000000) +contextual -dsimp [Tryz.f66,g1,q,g2,g3,s1,s2,s3,List.set]
theorem e2b (e:Engine) (k at_ v:Int):kD (bL e k at_ v)≤H6 e+1000:=by
 unfold bL
 split
 ·exact f2w e at_ _
 split
 ·exact e5c e at_ v
 split
 ·exact e7q e v
 split
 ·unfold oU
  split
  ·have:=qV (U6 e at_);omega
  split
  ·have:=qV 9;omega
  ·rename_i q1 q2
   have q0:U6 e at_=0:=by simpa[A2,A0] using q1
   obtain⟨h0,n,rfl,hn⟩:=tV q0
   have e3:((n:Nat):Int).toNat=n:=by omega
   have P5:=((iD h0).2.2 _ (List.getElem_mem hn)).chart
   obtain⟨a,ha,hx,e2,e1⟩:=tY h0 hn
   rw[←e1] at P5
   obtain⟨i1,w,_,_⟩:=jU P5
   have hw:=Hn (b1a i1) w
   have:=b7t e n (lR (stepsOf e (X4 e n)).length 3 (X4 e n).chart)
   simp only[kD,e3];omega
 ·have:=qV 1;omega
theorem d0e (d:Desk) (k at_ v:Int):hJ (nZ d k at_ v)≤P3 d+1100:=by
 unfold nZ
 split
 ·have:=c8r (dE d);omega
 ·unfold wR
  split
  ·have:=c8r (bL d.eng k at_ v).code;omega
  ·have h1:=e2b d.eng k at_ v
   have h2:=d3t (bL d.eng k at_ v).eng d.claims
   simp only[hJ,P3,kD] at *
   omega
end Go.TM.Ft
namespace Go.TM.Ft
open Go Go.TM Go.Proofs
set_option maxRecDepth 20000
attribute [local congr] O3
attribute [local simp] L9 M4 K0 L6 J6 L4 J8 J1 K5 I6 Y3 cQ gE
theorem d1w (d:Desk) (Mx:FitD d) (kind:Int) (at_:Int) (value:Int):
  fo 12 [A (.agg (zJ d)),A (vI kind),A (vI at_),A (vI value)]=some (R (vB true)):=by
 have s0:=d1c d (1048576) (by omega) (by omega) (d2j Mx)
 cases c0:A3 (D1 (1048576) (P3 d)) 0
 rotate_left
 ·refine Oy 1 ?_
  simp (maxSteps:=1000000) +contextual -dsimp [Tryz.f12,s0,c0,List.set]
 obtain⟨p0,e0⟩:=bS c0
 rw[e0] at s0 c0
 have v0:P3 d≤1048576:=by omega
 have o0:=e5f d v0
 have q0:=a4l d (by omega)
 have b0:=c1f d
 have r1:=f1l d Mx (b8u v0) kind at_ value
 have r2:=e2x d Mx (b8u v0) kind at_ value
 have hw:hJ (nZ d kind at_ value)≤2097152:=(by have:=d0e d kind at_ value;omega)
 have rr:=e9t d kind at_ value
 generalize xD d kind at_ value=W at *
 generalize nZ d kind at_ value=x at *
 have bx:=e1l x
 have qx:=d9w x hw
 obtain⟨d0,m0⟩:=c6r d (1) (by omega) (by omega) (by omega)
 obtain⟨dx,mx⟩:=f1o x 1 (by omega) (by omega) hw
 have hx:=e8v x 1 (by omega) (by omega) hw
 rw[show (T.agg (Cf (nO 1 x)):T)=.agg [vI x.code,vI x.value,.sl 160 ((nO 1 x).desk.eng.procs.map (pT 124 219)),.sl 163 ((nO 1 x).desk.eng.insts.map xT),vI x.desk.eng.now,.sl 150 ((nO 1 x).desk.claims.map kT)] from rfl] at hx
 have n1:A3 (1+(cV d:Nat)) 0=false:=C9 (by omega)
 have n2:A3 (1+(gK x:Nat)) 0=false:=C9 (by omega)
 generalize 1+(cV d:Int)=a0 at *
 generalize qC 1 d=y0 at *
 generalize 1+(gK x:Int)=ax at *
 generalize nO 1 x=y at *
 have t0:=Av d.eng.procs
 have t1:=Be d.eng.insts
 have t2:=Su d.claims
 have t3:=Av x.desk.eng.procs
 have t4:=Be x.desk.eng.insts
 have t5:=Su x.desk.claims
 have t6:=Av y.desk.eng.procs
 have t7:=Be y.desk.eng.insts
 have t8:=Su y.desk.claims
 rcases rr with rfl | rfl
 ·refine Oy 1 ?_
  simp (maxSteps:=4000000) +contextual -dsimp [Tryz.f12,s0,c0,o0,q0,m0,r1,r2,qx,mx,hx,n1,n2,t0,t1,t2,t3,t4,t5,t6,t7,t8,D2,aT,dV,eJ,fY,U5,cW,cZ,gO,valArg,List.set]
 ·refine Oy 1 ?_
  simp (maxSteps:=4000000) +contextual -dsimp [Tryz.f12,s0,c0,o0,q0,m0,r1,r2,qx,mx,hx,n1,n2,t0,t1,t2,t3,t4,t5,t6,t7,t8,D2,aT,dV,eJ,fY,U5,cW,cZ,gO,valArg,List.set]
end Go.TM.Ft
namespace Go.TM.Ft
open Go Go.TM Go.Proofs Go.RowKit Go.ChangeShapes Go.WideShapes
set_option maxRecDepth 20000
def Jj (sz:TypeId→Nat) (h:Array Obj) (I:Nat→Prop):List T→List Value→Prop
 | [],us=>us=[]
 | t::ts,us=>∃ u us',us=u::us'∧okV sz h I t u []∧Jj sz h I ts us'
theorem b6b {sz h I}:∀ {ar:List T} {us:List Value} (i:Nat),Jj sz h I ar us→okArgs sz h I i (ar.map A) us []
 | [],us,i,h=>⟨h,rfl⟩
 | t::ts,us,i,h=>by
  obtain⟨u,us',rfl,h1,h2⟩:=h
  exact⟨u,us',[],[],rfl,rfl,⟨h1,rfl⟩,b6b (i+1) h2⟩
theorem e0i {f:Nat} {ar:List T} {us:List Value} {W:Go.World} (hl:lends (E.mode f)=false) (h:fo f (ar.map A)=some (R (vB true))) (P7:Jj (szOf E) W.heap (fun b=>b<W.heap.size) ar us):
  Calls Tryz.prog f us.toArray W fun e W'=>e=.returned (.bool true)∧Below W.heap.size W W':=by
 have hs:=(Gn d2w h).1.old hl ⟨W,[],fun b=>b<W.heap.size,fun b hb=>⟨hb,by simp⟩,fun g p hg=>by simp[theGl] at hg⟩ us (by simp[Uniq]) (by simp) (b6b 0 P7)
 refine Calls.mono hs fun e W' h=>?_
 match e,h with
 | .returned u,h=>
  obtain⟨f,fo,hu,_⟩:=h.ok
  simp only[okV] at hu
  obtain⟨rfl,_⟩:=hu
  exact⟨rfl,⟨h.fr.os,h.fr.tape,h.fr.output,h.fr.size,fun k hk=>h.fr.block k hk (by simp)⟩⟩
section
variable {H:Type} {enc:TypeId×Value→H} {W:Go.World} {base:Nat} {n:Nat} {t:TypeId} {v:Value} {d:DataW H} {p:List MemPlace}
theorem d3c (hp:lT (szOf E) Tryz.prog n t=true) (h:DataW.Trod enc Tryz.prog W 0 (fun _=>true) true t v d p) (hv:v.cells=#[v]) (jH:∀ k,k∈d.weights Tryz.prog t→k≤reachBytes):
  ∃ a,P0 Tryz.prog n t [a]∧okV (szOf E) W.heap (fun b=>b<W.heap.size) a v []:=by
 obtain⟨ts,ht,P7⟩:=e7b (sz:=szOf E) (I:=fun b=>b<W.heap.size) (fun b hb=>hb) hp h hv jH
 match ts,P7 with
 | [],P7=>simp[okL] at P7
 | a::ts,P7=>
  simp only[okL] at P7
  obtain⟨u,us',f1,f2,e1,e2,h1,h2⟩:=P7
  obtain⟨rfl,rfl⟩:=List.cons.inj e1
  obtain⟨rfl,rfl⟩:=List.append_eq_nil_iff.1 e2.symm
  cases ts with
  | nil=>exact⟨a,ht,h1⟩
  | cons b ts=>simp[okL] at h2
theorem Vz {k:IntKind} (hu:Tryz.prog.underlying t=some (.int k)) (hp:lT (szOf E) Tryz.prog n t=true) (h:DataW.Trod enc Tryz.prog W 0 (fun _=>true) true t v d p) (hv:Value.okWide Tryz.prog W .any base t v)
  (jH:∀ k,k∈d.weights Tryz.prog t→k≤reachBytes):∃ a,P0 Tryz.prog n t [a]∧okV (szOf E) W.heap (fun b=>b<W.heap.size) a v []:=by
 obtain⟨m,rfl⟩:=okWide_int hu hv
 exact d3c hp h rfl jH
theorem e9q {fs:Array Field} (hu:Tryz.prog.underlying t=some (.struct fs)) (hp:lT (szOf E) Tryz.prog n t=true) (h:DataW.Trod enc Tryz.prog W 0 (fun _=>true) true t v d p) (hv:Value.okWide Tryz.prog W .any base t v)
  (jH:∀ k,k∈d.weights Tryz.prog t→k≤reachBytes):∃ cs,P0 Tryz.prog n t cs∧okV (szOf E) W.heap (fun b=>b<W.heap.size) (.agg cs) v []:=by
 simp only[Value.okWide,hu] at hv
 obtain⟨cs,rfl,_⟩:=hv
 obtain⟨fuel,hf0⟩:=h
 obtain⟨ts,ht,P7⟩:=Ga (sz:=szOf E) (I:=fun b=>b<W.heap.size) (fun b hb=>hb) n fuel t _ _ hp hf0 jH
 exact⟨ts,ht,by simp only[okV];exact⟨cs.toList,by simp,P7⟩⟩
end
end Go.TM.Ft
