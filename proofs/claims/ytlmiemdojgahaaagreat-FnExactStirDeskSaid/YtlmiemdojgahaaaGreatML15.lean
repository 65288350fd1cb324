/- What functions of the program come to, by the machine. -/
import Derived.Test.YtlmiemdojgahaaaGreatML14
import Derived.Test.YtlmiemdojgahaaaGreatML1
import Derived.Test.YtlmiemdojgahaaaGreatML13
import Derived.Test.YtlmiemdojgahaaaGreatML12
set_option linter.unusedSimpArgs false
set_option linter.unusedVariables false
set_option maxHeartbeats 4000000
namespace Go.TM.Ft
open Go Go.TM Go.Proofs Go.Proofs.Tryz
set_option maxRecDepth 20000
attribute [local congr] O3
attribute [local simp] L9 M4 K0 L6 J6 L4 J8 J1 K5 I6 Y3 cQ gE pM gX W5 V6 dR Ip
attribute [local simp] pE uM An
abbrev bH (n:Nat) (c:Chart):List T:=[.hdr n,vI c.status,vI c.now,.own 2 (iE c.vars),.own 2 (iE c.acts),.own 2 (iE c.dues)]
def lR (n:Nat) (st:Int) (c:Chart):Chart:={ c with status:=st,acts:=List.replicate n 0,dues:=List.replicate n 0 }
theorem d4s (n:Nat) (hl:n≤1000) (c:Chart) (st:Int):fo 239 [⟨.ptr 0 0 [] 0,some ⟨0,1,true,bH n c⟩⟩,A (vI st)]=some ⟨.tup [],[(0,bH n (lR n st c))],true⟩:=by
 have hm:(n:Int)≤(D0:Nat):=by unfold D0;omega
 refine b9z 1 ?_
 simp (maxSteps:=1000000) +contextual -dsimp [f239,hm,lR,List.set]
def oU (e:Engine) (inst:Int):EngR:=
 if A2 (A0 (U6 e inst) 0)=true then N8 (U6 e inst)
 else if A2 (A0 (X4 e inst).chart.status 1)=true then N8 9
 else ⟨0,3,tO e inst.toNat (lR (stepsOf e (X4 e inst)).length 3 (X4 e inst).chart)⟩
theorem e7c (e:Engine) (hf:FitE e) (hs:SmE e) (inst:Int):fo 221 [A (.agg (eT e)),A (vI inst)]=some (iT (oU e inst)):=by
 have g1:=a1c e hf inst
 unfold oU
 cases q:A0 (U6 e inst) 0
 ·refine Pf 1 ?_
  simp (maxSteps:=1000000) +contextual -dsimp [f221,g1,q,N8,bZ,List.set]
 ·have q0:U6 e inst=0:=by simpa[A0] using q
  obtain⟨h0,n,rfl,hn⟩:=tV q0
  obtain⟨a,ha,hx,e2,e1⟩:=tY h0 hn
  rw[q0] at g1
  have n0:A2 true=false:=rfl
  have q1:A0 0 0=true:=rfl
  rw[n0,if_neg (by simp),e2,e1]
  cases q2:A0 (e.insts[n]).chart.status 1
  ·refine Pf 1 ?_
   simp (maxSteps:=1000000) +contextual -dsimp [f221,g1,q1,q2,hn,N8,bZ,List.set]
  ·have gc:=Ia e hs
   have gD:=c3z
   have D8:(e.procs[a]).length≤1000:=by
    have h3:=(iD h0).2.2 _ (List.getElem_mem hn)
    have hc:=h3.chart
    have e4:stepsOf e (e.insts[n])=e.procs[a]:=by rw[←e1];exact e2
    rw[e4] at hc
    have:=(jU hc).2.1.ok.le
    omega
   have gs:=d4s (e.procs[a]).length D8 (e.insts[n]).chart 3
   have F4:=W5 e.procs
   have e3:((n:Nat):Int).toNat=n:=by omega
   rw[e3,Ax hn]
   have N5:(lR (e.procs[a]).length 3 (e.insts[n]).chart).status=3:=rfl
   generalize lR (e.procs[a]).length 3 (e.insts[n]).chart=c' at *
   have Q8:=V6 (e.insts.set n ⟨(e.insts[n]).proc,c'⟩)
   rw[List.map_set,hx] at Q8
   refine Pf 1 ?_
   simp (maxSteps:=1000000) +contextual -dsimp [f221,g1,q1,q2,gc,gD,gs,hn,hx,ha,F4,List.map_set,List.set]
   exact⟨N5,Q8⟩
theorem f1p (e:Engine) (hf:FitE e) (hs:SmE e) (inst:Int):fo 219 [A (.agg (eT e)),A (vI inst)]=some (iT (oU e inst)):=by
 have g1:=a9t e hf inst
 have gb:=lL (U6 e inst)
 unfold oU
 cases q:A0 (U6 e inst) 0
 ·refine Nh 1 ?_
  simp (maxSteps:=1000000) +contextual -dsimp [f219,g1,gb,q,N8,bZ,List.set]
 ·have q0:U6 e inst=0:=by simpa[A0] using q
  obtain⟨h0,n,rfl,hn⟩:=tV q0
  obtain⟨a,ha,hx,e2,e1⟩:=tY h0 hn
  rw[q0] at g1
  have n0:A2 true=false:=rfl
  have q1:A0 0 0=true:=rfl
  have gb9:=lL 9
  rw[n0,if_neg (by simp),e2,e1]
  cases q2:A0 (e.insts[n]).chart.status 1
  ·refine Nh 1 ?_
   simp (maxSteps:=1000000) +contextual -dsimp [f219,g1,q1,q2,hn,gb9,List.set]
  ·have gc:=Ce e hs
   have h3:=(iD h0).2.2 _ (List.getElem_mem hn)
   have hc:=h3.chart
   have e4:stepsOf e (e.insts[n])=e.procs[a]:=by rw[←e1];exact e2
   rw[e4] at hc
   obtain⟨i1,w,_,_⟩:=jU hc
   have D8:=w.ok.le
   have gs:=Fz (e.insts[n]).chart i1.acts i1.dues (by omega) 3
   have es:aU (e.procs[a]) 3 (e.insts[n]).chart=lR (e.procs[a]).length 3 (e.insts[n]).chart:=rfl
   rw[es] at gs
   have F4:=W5 e.procs
   have e3:((n:Nat):Int).toNat=n:=by omega
   rw[e3,Ax hn]
   generalize lR (e.procs[a]).length 3 (e.insts[n]).chart=c' at *
   have Q8:=V6 (e.insts.set n ⟨(e.insts[n]).proc,c'⟩)
   rw[List.map_set,hx] at Q8
   refine Nh 1 ?_
   simp (maxSteps:=1000000) +contextual -dsimp [f219,g1,q1,q2,gc,gs,hn,hx,ha,F4,Q8,List.map_set,List.set]
end Go.TM.Ft
namespace Go.TM.Ft
open Go Go.TM Go.Proofs Go.Proofs.Tryz
section
variable (P:Program) (t:TypeId) (x y:Operand)
theorem e1w (a:Int):H7 Tryz.prog (convert 3 5 (.int .i64 a))=some (.int .u8 (IntKind.u8.wrap a)):=by kernel_rfl
theorem d1r:H7 Tryz.prog (rT 88 9)=some true:=by kernel_rfl
end
set_option maxRecDepth 20000
attribute [local congr] O3
attribute [local simp] L9 M4 K0 L6 J6 L4 J8 J1 K5 I6
section
variable (P:Program) (t:TypeId) (x y:Operand)
theorem e4i (a:Int):H7 P (do eqGuard .rem t x y (.int .i64 a) (.int .i64 10);binOp .rem t (.int .i64 a) (.int .i64 10))=some (.int .i64 (Int.tmod a 10)):=rfl
theorem f0q (a:Int):H7 P (do eqGuard .quo t x y (.int .i64 a) (.int .i64 10);binOp .quo t (.int .i64 a) (.int .i64 10))=some (.int .i64 (IntKind.i64.wrap (Int.tdiv a 10))):=Up P t x y a 10 (by omega)
theorem b4y (a b:ByteArray) (h:a.size+b.size<2 ^ 62):H7 P (do eqGuard .add t x y (.string a) (.string b);binOp .add t (.string a) (.string b))=some (.string (a++b)):=by
 have e:¬ (((a.size+b.size:Nat):Int) > IntKind.i64.max):=by
  have:IntKind.i64.max=9223372036854775807:=rfl
  rw[this];omega
 unfold binOp
 simp only[eqGuard,Op.stringOp,if_neg e]
 rfl
end
theorem a3z:∀ (f:Nat) (k:Int) (out:ByteArray),0≤k→k<10 ^ f→k<2 ^ 61→out.size+f≤100→
  ∃ s:ByteArray,s.size≤100∧B7 E (orc E) (85:Nat) (f+1) (C1 f85 0) ⟨20,[(0,vI k),(3,vS out)],[],2⟩=some (.exit 0,⟨20,[(0,vI 0),(3,vS s),(7,vB false)],[],2⟩)
 | f,k,out,h0,h1,h2,h3=>by
  rcases Int.lt_or_eq_of_le h0 with hk | hk
  ·match f with
   | 0=>simp at h1;omega
   | f+1=>
    have A1:A3 0 k=true:=F5 hk
    have Kc:0≤k.tmod 10:=Int.tmod_nonneg _ h0
    have H9:k.tmod 10<10:=Int.tmod_lt_of_pos _ (by omega)
    have w:IntKind.i64.wrap (48+k.tmod 10)=48+k.tmod 10:=by rw[B6]<;>omega
    have ed:k.tdiv 10=k / 10:=Int.tdiv_eq_ediv_of_nonneg h0
    have Fn:0≤k.tdiv 10:=by rw[ed];omega
    have tR:k.tdiv 10<10 ^ f:=by rw[ed];rw[Int.pow_succ] at h1;omega
    have zC:k.tdiv 10<2 ^ 61:=by rw[ed];omega
    have w2:IntKind.i64.wrap (k.tdiv 10)=k.tdiv 10:=by rw[B6]<;>omega
    obtain⟨b,w3⟩:∃ b,IntKind.u8.wrap (48+k.tmod 10)=b:=⟨_,rfl⟩
    have hs:(⟨#[UInt8.ofNat b.toNat]⟩:ByteArray).size=1:=rfl
    have C7:((⟨#[UInt8.ofNat b.toNat]⟩:ByteArray)++out).size=1+out.size:=by rw[ByteArray.size_append,hs]
    obtain⟨s,g1,g2⟩:=a3z f (k.tdiv 10) (⟨#[UInt8.ofNat b.toNat]⟩++out) Fn tR zC (by rw[C7];omega)
    have p1:=e4i Tryz.prog 3 (.tmp 8) (.const (.int .i64 10)) k
    have p2:=f0q Tryz.prog 3 (.tmp 16) (.const (.int .i64 10)) k
    have p3:=b4y Tryz.prog 9 (.tmp 13) (.tmp 14) ⟨#[UInt8.ofNat b.toNat]⟩ out (by rw[hs];omega)
    refine⟨s,g1,D6 ?_ g2⟩
    generalize (⟨#[UInt8.ofNat b.toNat]⟩:ByteArray)++out=out' at *
    generalize k.tdiv 10=d at *
    simp (maxSteps:=1000000) +contextual -dsimp [f85,A1,p1,p2,p3,e1w,d1r,w,w2,w3,oL,List.set]
  ·subst hk
   have A1:A3 0 0=false:=rfl
   refine⟨out,by omega,G3 ?_ (by simp)⟩
   simp (maxSteps:=1000000) +contextual -dsimp [f85,A1,List.set]
theorem e5l (k:Int) (h0:0≤k) (h1:k<2 ^ 61):∃ s:ByteArray,fo 85 [A (vI k)]=some (R (vS s)):=by
 cases q:B5 k 0
 ·obtain⟨s,h2,h3⟩:=a3z 20 k ⟨#[]⟩ h0 (by omega) h1 (by show 0+20≤100;omega)
  have hs:(⟨#[109]⟩:ByteArray).size=1:=rfl
  have p3:=b4y Tryz.prog 9 (.const (.string ⟨#[109]⟩)) (.tmp 18) ⟨#[109]⟩ s (by rw[hs];omega)
  refine⟨⟨#[109]⟩++s,b5p 21 ?_⟩
  simp -dsimp [f85] at h3
  simp (maxSteps:=1000000) +contextual -dsimp [f85,q,h3,p3,List.set]
 ·refine⟨⟨#[109,48]⟩,b5p 1 ?_⟩
  simp (maxSteps:=1000000) +contextual -dsimp [f85,q,List.set]
open Classical in
noncomputable def nB (k:Int):ByteArray:=if h:∃ s:ByteArray,fo 85 [A (vI k)]=some (R (vS s)) then Classical.choose h else ⟨#[]⟩
theorem a5k (k:Int) (h0:0≤k) (h1:k<2 ^ 61):fo 85 [A (vI k)]=some (R (vS (nB k))):=by
 have h:=e5l k h0 h1
 unfold nB
 rw[dif_pos h]
 exact Classical.choose_spec h
def kD (x:EngR):Nat:=H6 x.eng
def hJ (x:DeskR):Nat:=P3 x.desk
noncomputable section
def L3:Int→List Int→List Int
 | _,[]=>[]
 | k,_::r=>k::L3 (k+1) r
def Q0 (l:List Int):Nat:=l.length
theorem b5u:Q0 []=0:=rfl
theorem Fu (x:Int) (r:List Int):Q0 (x::r)=1+Q0 r:=by simp only[Q0,List.length_cons];omega
def kA (x:Node):Nat:=1+1+1+1
def T8:List Node→Nat
 | []=>0
 | x::r=>kA x+T8 r
theorem Zi:T8 []=0:=rfl
theorem xM (x:Node) (r:List Node):T8 (x::r)=kA x+T8 r:=rfl
def Qr (k:Int) (x:Node):Node:={ kind:=k,value:=k+1,left:=k+1+1,right:=k+1+1+1 }
def N9:Int→List Node→List Node
 | _,[]=>[]
 | k,x::r=>Qr k x::N9 (k+(kA x:Nat)) r
def iQ (x:Step):Nat:=1+1+1+1+T8 x.cond+T8 x.expr
def W7:List Step→Nat
 | []=>0
 | x::r=>iQ x+W7 r
theorem c1g:W7 []=0:=rfl
theorem Bg (x:Step) (r:List Step):W7 (x::r)=iQ x+W7 r:=rfl
def Pa (k:Int) (x:Step):Step:={ kind:=k,parent:=k+1,name:=nB (k+1+1),arg:=k+1+1+1,cond:=N9 (k+1+1+1+1) x.cond,expr:=N9 (k+1+1+1+1+(T8 x.cond:Nat)) x.expr }
def S3:Int→List Step→List Step
 | _,[]=>[]
 | k,x::r=>Pa k x::S3 (k+(iQ x:Nat)) r
def jZ (x:List Step):Nat:=W7 x
def V4:List (List Step)→Nat
 | []=>0
 | x::r=>jZ x+V4 r
theorem a8n:V4 []=0:=rfl
theorem Af (x:List Step) (r:List (List Step)):V4 (x::r)=jZ x+V4 r:=rfl
def Va (k:Int) (x:List Step):List Step:=S3 (k) x
def Z2:Int→List (List Step)→List (List Step)
 | _,[]=>[]
 | k,x::r=>Va k x::Z2 (k+(jZ x:Nat)) r
def jO (x:Inst):Nat:=1+1+1+Q0 x.chart.vars+Q0 x.chart.acts+Q0 x.chart.dues
def Y0:List Inst→Nat
 | []=>0
 | x::r=>jO x+Y0 r
theorem b9f:Y0 []=0:=rfl
theorem Br (x:Inst) (r:List Inst):Y0 (x::r)=jO x+Y0 r:=rfl
def Ri (k:Int) (x:Inst):Inst:={ proc:=k,chart:={ status:=k+1,now:=k+1+1,vars:=L3 (k+1+1+1) x.chart.vars,acts:=L3 (k+1+1+1+(Q0 x.chart.vars:Nat)) x.chart.acts,dues:=L3 (k+1+1+1+(Q0 x.chart.vars:Nat)+(Q0 x.chart.acts:Nat)) x.chart.dues } }
def Z0:Int→List Inst→List Inst
 | _,[]=>[]
 | k,x::r=>Ri k x::Z0 (k+(jO x:Nat)) r
def jC (x:Claim):Nat:=1+1+1
def Z4:List Claim→Nat
 | []=>0
 | x::r=>jC x+Z4 r
theorem Wt:Z4 []=0:=rfl
theorem Bm (x:Claim) (r:List Claim):Z4 (x::r)=jC x+Z4 r:=rfl
def Oj (k:Int) (x:Claim):Claim:={ inst:=k,step:=k+1,user:=k+1+1 }
def Y9:Int→List Claim→List Claim
 | _,[]=>[]
 | k,x::r=>Oj k x::Y9 (k+(jC x:Nat)) r
end
theorem c3m (n:Nat) (hn:n≤2097152):∀ (rest:List Int) (i:Nat) (es:List (List T)) (k:Int),es.length=n→i+rest.length=n→es.drop i=rest.map iV→0≤k→k+(Q0 rest:Nat)<2 ^ 60→
  B7 E (orc E) (25:Nat) (rest.length+1) (C1 f25 0) ⟨19,[(0,.ref 0 0 [] 0 n),(1,vI k),(5,vI i)],[(0,⟨0,0,false,[.own 2 es]⟩)],2⟩=
  some (.exit 0,⟨19,[(0,.ref 0 0 [] 0 n),(1,vI (k+(Q0 rest:Nat))),(5,vI (n:Nat)),(9,vB false)],[(0,⟨0,0,false,[.own 2 (es.take i++(L3 k rest).map iV)]⟩)],2⟩)
 | [],i,es,k,hl,hi,h,h0,h1=>by
  have e:i=n:=by simpa using hi
  subst e
  have A1:A3 (i:Int) (i:Int)=false:=C9 (by omega)
  have ht:es.take i=es:=List.take_of_length_le (by omega)
  rw[D5]
  simp +contextual -dsimp [f25,A1,ht,b5u,L3]
 | x::rest,i,es,k,hl,hi,h,h0,h1=>by
  simp only[List.length_cons] at hi
  have I5:i<n:=by omega
  have F8:i<es.length:=by omega
  have A1:A3 (i:Int) (n:Int)=true:=F5 (by omega)
  have hw:IntKind.i64.wrap ((i:Int)+1)=((i+1:Nat):Int):=by rw[B6]<;>omega
  have hd:=List.drop_eq_getElem_cons F8
  rw[h,List.map_cons,List.cons.injEq] at hd
  obtain⟨K6,hr⟩:=hd
  have K6:=K6.symm
  rw[Fu] at h1
  obtain⟨k1,e1⟩:∃ z,z=k+1:=⟨_,rfl⟩
  have w0:IntKind.i64.wrap (k+1)=k1:=by rw[e1,B6]<;>omega
  have hk:k1+(Q0 rest:Nat)=k+(Q0 (x::rest):Nat):=by rw[Fu];omega
  have hm:L3 k (x::rest)=k::L3 k1 rest:=by rw[e1];rfl
  have ih:=c3m n hn rest (i+1) (es.set i (iV k)) k1 (by simpa using hl) (by omega) (by rw[List.drop_set_of_lt (by omega)];exact hr.symm) (by omega) (by omega)
  have I4:(es.set i (iV k)).take (i+1)=es.take i++[iV k]:=by
   rw[List.take_add_one,List.take_set_of_le (Nat.le_refl _)]
   simp[F8]
  rw[hk,I4,List.append_assoc] at ih
  rw[hm]
  refine D6 ?_ (by simpa only[List.length_cons,List.map_cons,List.singleton_append] using ih)
  simp (maxSteps:=1000000) +contextual -dsimp [f25,A1,F8,I5,hw,K6,hl,w0,aT,dV,eJ,fY,U5,cW,cZ,gO,valArg,List.set]
theorem Jw (l:List Int) (k:Int) (h0:0≤k) (h1:k+(Q0 l:Nat)<2 ^ 60) (hn:l.length≤2097152):∃ b,fo 25 [⟨.ref 0 0 [] 0 l.length,some ⟨0,0,false,[.own 2 (l.map iV)]⟩⟩,A (vI k)]=some ⟨vI (k+(Q0 l:Nat)),[(0,[.own 2 ((L3 k l).map iV)])],b⟩:=by
 have A4:=c3m l.length hn l 0 (l.map iV) k (by simp) (by simp) rfl h0 (by omega)
 have F4:=dR (L3 k l)
 refine⟨true,d6g (l.length+1) ?_⟩
 generalize k+(Q0 l:Nat)=k' at *
 generalize L3 k l=l' at *
 simp -dsimp [f25] at A4
 simp (maxSteps:=1000000) +contextual -dsimp [f25,A4,F4,aP,O6,List.set]
theorem c6g (n:Nat) (hn:n≤2097152):∀ (rest:List Node) (i:Nat) (es:List (List T)) (k:Int),es.length=n→i+rest.length=n→es.drop i=rest.map nT→0≤k→k+(T8 rest:Nat)<2 ^ 60→
  B7 E (orc E) (86:Nat) (rest.length+1) (C1 f86 0) ⟨41,[(0,.ref 0 0 [] 0 n),(1,vI k),(5,vI i)],[(0,⟨0,0,false,[.own 219 es]⟩)],2⟩=
  some (.exit 0,⟨41,[(0,.ref 0 0 [] 0 n),(1,vI (k+(T8 rest:Nat))),(5,vI (n:Nat)),(9,vB false)],[(0,⟨0,0,false,[.own 219 (es.take i++(N9 k rest).map nT)]⟩)],2⟩)
 | [],i,es,k,hl,hi,h,h0,h1=>by
  have e:i=n:=by simpa using hi
  subst e
  have A1:A3 (i:Int) (i:Int)=false:=C9 (by omega)
  have ht:es.take i=es:=List.take_of_length_le (by omega)
  rw[D5]
  simp +contextual -dsimp [f86,A1,ht,Zi,N9]
 | x::rest,i,es,k,hl,hi,h,h0,h1=>by
  simp only[List.length_cons] at hi
  have I5:i<n:=by omega
  have F8:i<es.length:=by omega
  have A1:A3 (i:Int) (n:Int)=true:=F5 (by omega)
  have hw:IntKind.i64.wrap ((i:Int)+1)=((i+1:Nat):Int):=by rw[B6]<;>omega
  have hd:=List.drop_eq_getElem_cons F8
  rw[h,List.map_cons,List.cons.injEq] at hd
  obtain⟨K6,hr⟩:=hd
  have K6:=K6.symm
  rw[xM] at h1
  simp only[kA] at h1
  obtain⟨k1,e1⟩:∃ z,z=k+1:=⟨_,rfl⟩
  have w0:IntKind.i64.wrap (k+1)=k1:=by rw[e1,B6]<;>omega
  obtain⟨k2,e2⟩:∃ z,z=k1+1:=⟨_,rfl⟩
  have w1:IntKind.i64.wrap (k1+1)=k2:=by rw[e2,B6]<;>omega
  obtain⟨k3,e3⟩:∃ z,z=k2+1:=⟨_,rfl⟩
  have w2:IntKind.i64.wrap (k2+1)=k3:=by rw[e3,B6]<;>omega
  obtain⟨k4,e4⟩:∃ z,z=k3+1:=⟨_,rfl⟩
  have w3:IntKind.i64.wrap (k3+1)=k4:=by rw[e4,B6]<;>omega
  have hk:k4+(T8 rest:Nat)=k+(T8 (x::rest):Nat):=by rw[xM];simp only[kA];omega
  have hm:N9 k (x::rest)=({ kind:=k,value:=k1,left:=k2,right:=k3 }:Node)::N9 k4 rest:=by
   have e:k4=k+(kA x:Nat):=by simp only[kA];omega
   have e2:Qr k x=({ kind:=k,value:=k1,left:=k2,right:=k3 }:Node):=by subst_vars;rfl
   simp only[N9];rw[e2,e]
  have ih:=c6g n hn rest (i+1) (es.set i (nT ({ kind:=k,value:=k1,left:=k2,right:=k3 }:Node))) k4 (by simpa using hl) (by omega) (by rw[List.drop_set_of_lt (by omega)];exact hr.symm) (by omega) (by omega)
  have I4:(es.set i (nT ({ kind:=k,value:=k1,left:=k2,right:=k3 }:Node))).take (i+1)=es.take i++[nT ({ kind:=k,value:=k1,left:=k2,right:=k3 }:Node)]:=by
   rw[List.take_add_one,List.take_set_of_le (Nat.le_refl _)]
   simp[F8]
  rw[hk,I4,List.append_assoc] at ih
  rw[hm]
  refine D6 ?_ (by simpa only[List.length_cons,List.map_cons,List.singleton_append] using ih)
  simp (maxSteps:=1000000) +contextual -dsimp [f86,A1,F8,I5,hw,K6,hl,w0,w1,w2,w3,aT,dV,eJ,fY,U5,cW,cZ,gO,valArg,List.set]
theorem b4g (l:List Node) (k:Int) (h0:0≤k) (h1:k+(T8 l:Nat)<2 ^ 60) (hn:l.length≤2097152):∃ b,fo 86 [⟨.ref 0 0 [] 0 l.length,some ⟨0,0,false,[.own 219 (l.map nT)]⟩⟩,A (vI k)]=some ⟨vI (k+(T8 l:Nat)),[(0,[.own 219 ((N9 k l).map nT)])],b⟩:=by
 have A4:=c6g l.length hn l 0 (l.map nT) k (by simp) (by simp) rfl h0 (by omega)
 have F4:=gX (N9 k l)
 refine⟨true,d6u (l.length+1) ?_⟩
 generalize k+(T8 l:Nat)=k' at *
 generalize N9 k l=l' at *
 simp -dsimp [f86] at A4
 simp (maxSteps:=1000000) +contextual -dsimp [f86,A4,F4,aP,O6,List.set]
theorem a3r (n:Nat) (hn:n≤2097152):∀ (rest:List Step) (i:Nat) (es:List (List T)) (k:Int),es.length=n→i+rest.length=n→es.drop i=rest.map T6→(∀ x,x∈rest→L5 x≤2097152)→0≤k→k+(W7 rest:Nat)<2 ^ 60→
  B7 E (orc E) (24:Nat) (rest.length+1) (C1 f24 0) ⟨56,[(0,.ref 0 0 [] 0 n),(1,vI k),(5,vI i)],[(0,⟨0,0,false,[.own 124 es]⟩)],2⟩=
  some (.exit 0,⟨56,[(0,.ref 0 0 [] 0 n),(1,vI (k+(W7 rest:Nat))),(5,vI (n:Nat)),(9,vB false)],[(0,⟨0,0,false,[.own 124 (es.take i++(S3 k rest).map T6)]⟩)],2⟩)
 | [],i,es,k,hl,hi,h,hf,h0,h1=>by
  have e:i=n:=by simpa using hi
  subst e
  have A1:A3 (i:Int) (i:Int)=false:=C9 (by omega)
  have ht:es.take i=es:=List.take_of_length_le (by omega)
  rw[D5]
  simp +contextual -dsimp [f24,A1,ht,c1g,S3]
 | x::rest,i,es,k,hl,hi,h,hf,h0,h1=>by
  have hx:=hf x (by simp)
  simp only[List.length_cons] at hi
  have I5:i<n:=by omega
  have F8:i<es.length:=by omega
  have A1:A3 (i:Int) (n:Int)=true:=F5 (by omega)
  have hw:IntKind.i64.wrap ((i:Int)+1)=((i+1:Nat):Int):=by rw[B6]<;>omega
  have hd:=List.drop_eq_getElem_cons F8
  rw[h,List.map_cons,List.cons.injEq] at hd
  obtain⟨K6,hr⟩:=hd
  have K6:=K6.symm
  rw[Bg] at h1
  simp only[iQ] at h1
  obtain⟨k1,e1⟩:∃ z,z=k+1:=⟨_,rfl⟩
  have w0:IntKind.i64.wrap (k+1)=k1:=by rw[e1,B6]<;>omega
  obtain⟨k2,e2⟩:∃ z,z=k1+1:=⟨_,rfl⟩
  have w1:IntKind.i64.wrap (k1+1)=k2:=by rw[e2,B6]<;>omega
  obtain⟨k3,e3⟩:∃ z,z=k2+1:=⟨_,rfl⟩
  have w2:IntKind.i64.wrap (k2+1)=k3:=by rw[e3,B6]<;>omega
  have g2:=a5k k2 (by omega) (by omega)
  obtain⟨k4,e4⟩:∃ z,z=k3+1:=⟨_,rfl⟩
  have w3:IntKind.i64.wrap (k3+1)=k4:=by rw[e4,B6]<;>omega
  obtain⟨k5,e5⟩:∃ z,z=k4+(T8 x.cond:Nat):=⟨_,rfl⟩
  obtain⟨b4,g4⟩:=b4g x.cond k4 (by omega) (by omega) (by simp only[L5] at hx;omega)
  rw[←e5] at g4
  obtain⟨k6,e6⟩:∃ z,z=k5+(T8 x.expr:Nat):=⟨_,rfl⟩
  obtain⟨b5,g5⟩:=b4g x.expr k5 (by omega) (by omega) (by simp only[L5] at hx;omega)
  rw[←e6] at g5
  have hk:k6+(W7 rest:Nat)=k+(W7 (x::rest):Nat):=by rw[Bg];simp only[iQ];omega
  have hm:S3 k (x::rest)=({ kind:=k,parent:=k1,name:=nB k2,arg:=k3,cond:=N9 k4 x.cond,expr:=N9 k5 x.expr }:Step)::S3 k6 rest:=by
   have e:k6=k+(iQ x:Nat):=by simp only[iQ];omega
   have e2:Pa k x=({ kind:=k,parent:=k1,name:=nB k2,arg:=k3,cond:=N9 k4 x.cond,expr:=N9 k5 x.expr }:Step):=by subst_vars;rfl
   simp only[S3];rw[e2,e]
  have ih:=a3r n hn rest (i+1) (es.set i (T6 ({ kind:=k,parent:=k1,name:=nB k2,arg:=k3,cond:=N9 k4 x.cond,expr:=N9 k5 x.expr }:Step))) k6 (by simpa using hl) (by omega) (by rw[List.drop_set_of_lt (by omega)];exact hr.symm) (fun y hy=>hf y (by simp[hy])) (by omega) (by omega)
  have I4:(es.set i (T6 ({ kind:=k,parent:=k1,name:=nB k2,arg:=k3,cond:=N9 k4 x.cond,expr:=N9 k5 x.expr }:Step))).take (i+1)=es.take i++[T6 ({ kind:=k,parent:=k1,name:=nB k2,arg:=k3,cond:=N9 k4 x.cond,expr:=N9 k5 x.expr }:Step)]:=by
   rw[List.take_add_one,List.take_set_of_le (Nat.le_refl _)]
   simp[F8]
  rw[hk,I4,List.append_assoc] at ih
  rw[hm]
  refine D6 ?_ (by simpa only[List.length_cons,List.map_cons,List.singleton_append] using ih)
  simp (maxSteps:=1000000) +contextual -dsimp [f24,A1,F8,I5,hw,K6,hl,w0,w1,w2,g2,w3,g4,g5,aT,dV,eJ,fY,U5,cW,cZ,gO,valArg,List.set]
theorem e3p (l:List Step) (k:Int) (h0:0≤k) (h1:k+(W7 l:Nat)<2 ^ 60) (hn:l.length≤2097152) (hf:∀ x,x∈l→L5 x≤2097152):∃ b,fo 24 [⟨.ref 0 0 [] 0 l.length,some ⟨0,0,false,[.own 124 (l.map T6)]⟩⟩,A (vI k)]=some ⟨vI (k+(W7 l:Nat)),[(0,[.own 124 ((S3 k l).map T6)])],b⟩:=by
 have A4:=a3r l.length hn l 0 (l.map T6) k (by simp) (by simp) rfl hf h0 (by omega)
 have F4:=uX (S3 k l)
 refine⟨true,e9v (l.length+1) ?_⟩
 generalize k+(W7 l:Nat)=k' at *
 generalize S3 k l=l' at *
 simp -dsimp [f24] at A4
 simp (maxSteps:=1000000) +contextual -dsimp [f24,A4,F4,aP,O6,List.set]
theorem b4i (n:Nat) (hn:n≤2097152):∀ (rest:List (List Step)) (i:Nat) (es:List (List T)) (k:Int),es.length=n→i+rest.length=n→es.drop i=rest.map L1→(∀ x,x∈rest→N4 x≤2097152)→0≤k→k+(V4 rest:Nat)<2 ^ 60→
  B7 E (orc E) (119:Nat) (rest.length+1) (C1 f119 0) ⟨20,[(0,.ref 0 0 [] 0 n),(1,vI k),(5,vI i)],[(0,⟨0,0,false,[.own 160 es]⟩)],2⟩=
  some (.exit 0,⟨20,[(0,.ref 0 0 [] 0 n),(1,vI (k+(V4 rest:Nat))),(5,vI (n:Nat)),(9,vB false)],[(0,⟨0,0,false,[.own 160 (es.take i++(Z2 k rest).map L1)]⟩)],2⟩)
 | [],i,es,k,hl,hi,h,hf,h0,h1=>by
  have e:i=n:=by simpa using hi
  subst e
  have A1:A3 (i:Int) (i:Int)=false:=C9 (by omega)
  have ht:es.take i=es:=List.take_of_length_le (by omega)
  rw[D5]
  simp +contextual -dsimp [f119,A1,ht,a8n,Z2]
 | x::rest,i,es,k,hl,hi,h,hf,h0,h1=>by
  have hx:=hf x (by simp)
  simp only[List.length_cons] at hi
  have I5:i<n:=by omega
  have F8:i<es.length:=by omega
  have A1:A3 (i:Int) (n:Int)=true:=F5 (by omega)
  have hw:IntKind.i64.wrap ((i:Int)+1)=((i+1:Nat):Int):=by rw[B6]<;>omega
  have hd:=List.drop_eq_getElem_cons F8
  rw[h,List.map_cons,List.cons.injEq] at hd
  obtain⟨K6,hr⟩:=hd
  have K6:=K6.symm
  rw[Af] at h1
  simp only[jZ] at h1
  obtain⟨k1,e1⟩:∃ z,z=k+(W7 x:Nat):=⟨_,rfl⟩
  obtain⟨b0,g0⟩:=e3p x k (by omega) (by omega) (by simp only[N4,dW] at hx;omega) (fun y hy=>by have:=Am hy;simp only[N4,dW] at hx;omega)
  rw[←e1] at g0
  have hk:k1+(V4 rest:Nat)=k+(V4 (x::rest):Nat):=by rw[Af];simp only[jZ];omega
  have hm:Z2 k (x::rest)=(S3 k x:List Step)::Z2 k1 rest:=by
   have e:k1=k+(jZ x:Nat):=by simp only[jZ];omega
   have e2:Va k x=(S3 k x:List Step):=by subst_vars;rfl
   simp only[Z2];rw[e2,e]
  have ih:=b4i n hn rest (i+1) (es.set i (L1 (S3 k x:List Step))) k1 (by simpa using hl) (by omega) (by rw[List.drop_set_of_lt (by omega)];exact hr.symm) (fun y hy=>hf y (by simp[hy])) (by omega) (by omega)
  have I4:(es.set i (L1 (S3 k x:List Step))).take (i+1)=es.take i++[L1 (S3 k x:List Step)]:=by
   rw[List.take_add_one,List.take_set_of_le (Nat.le_refl _)]
   simp[F8]
  rw[hk,I4,List.append_assoc] at ih
  rw[hm]
  refine D6 ?_ (by simpa only[List.length_cons,List.map_cons,List.singleton_append] using ih)
  simp (maxSteps:=1000000) +contextual -dsimp [f119,A1,F8,I5,hw,K6,hl,g0,aT,dV,eJ,fY,U5,cW,cZ,gO,valArg,List.set]
theorem d6h (l:List (List Step)) (k:Int) (h0:0≤k) (h1:k+(V4 l:Nat)<2 ^ 60) (hn:l.length≤2097152) (hf:∀ x,x∈l→N4 x≤2097152):∃ b,fo 119 [⟨.ref 0 0 [] 0 l.length,some ⟨0,0,false,[.own 160 (l.map L1)]⟩⟩,A (vI k)]=some ⟨vI (k+(V4 l:Nat)),[(0,[.own 160 ((Z2 k l).map L1)])],b⟩:=by
 have A4:=b4i l.length hn l 0 (l.map L1) k (by simp) (by simp) rfl hf h0 (by omega)
 have F4:=W5 (Z2 k l)
 refine⟨true,e2v (l.length+1) ?_⟩
 generalize k+(V4 l:Nat)=k' at *
 generalize Z2 k l=l' at *
 simp -dsimp [f119] at A4
 simp (maxSteps:=1000000) +contextual -dsimp [f119,A4,F4,aP,O6,List.set]
theorem Zb (n:Nat) (hn:n≤2097152):∀ (rest:List Inst) (i:Nat) (es:List (List T)) (k:Int),es.length=n→i+rest.length=n→es.drop i=rest.map P8→(∀ x,x∈rest→K9 x≤2097152)→0≤k→k+(Y0 rest:Nat)<2 ^ 60→
  B7 E (orc E) (120:Nat) (rest.length+1) (C1 f120 0) ⟨60,[(0,.ref 0 0 [] 0 n),(1,vI k),(5,vI i)],[(0,⟨0,0,false,[.own 163 es]⟩)],2⟩=
  some (.exit 0,⟨60,[(0,.ref 0 0 [] 0 n),(1,vI (k+(Y0 rest:Nat))),(5,vI (n:Nat)),(9,vB false)],[(0,⟨0,0,false,[.own 163 (es.take i++(Z0 k rest).map P8)]⟩)],2⟩)
 | [],i,es,k,hl,hi,h,hf,h0,h1=>by
  have e:i=n:=by simpa using hi
  subst e
  have A1:A3 (i:Int) (i:Int)=false:=C9 (by omega)
  have ht:es.take i=es:=List.take_of_length_le (by omega)
  rw[D5]
  simp +contextual -dsimp [f120,A1,ht,b9f,Z0]
 | x::rest,i,es,k,hl,hi,h,hf,h0,h1=>by
  have hx:=hf x (by simp)
  simp only[List.length_cons] at hi
  have I5:i<n:=by omega
  have F8:i<es.length:=by omega
  have A1:A3 (i:Int) (n:Int)=true:=F5 (by omega)
  have hw:IntKind.i64.wrap ((i:Int)+1)=((i+1:Nat):Int):=by rw[B6]<;>omega
  have hd:=List.drop_eq_getElem_cons F8
  rw[h,List.map_cons,List.cons.injEq] at hd
  obtain⟨K6,hr⟩:=hd
  have K6:=K6.symm
  rw[Br] at h1
  simp only[jO] at h1
  obtain⟨k1,e1⟩:∃ z,z=k+1:=⟨_,rfl⟩
  have w0:IntKind.i64.wrap (k+1)=k1:=by rw[e1,B6]<;>omega
  obtain⟨k2,e2⟩:∃ z,z=k1+1:=⟨_,rfl⟩
  have w1:IntKind.i64.wrap (k1+1)=k2:=by rw[e2,B6]<;>omega
  obtain⟨k3,e3⟩:∃ z,z=k2+1:=⟨_,rfl⟩
  have w2:IntKind.i64.wrap (k2+1)=k3:=by rw[e3,B6]<;>omega
  obtain⟨k4,e4⟩:∃ z,z=k3+(Q0 x.chart.vars:Nat):=⟨_,rfl⟩
  obtain⟨b3,g3⟩:=Jw x.chart.vars k3 (by omega) (by omega) (by simp only[K9,M3] at hx;omega)
  rw[←e4] at g3
  obtain⟨k5,e5⟩:∃ z,z=k4+(Q0 x.chart.acts:Nat):=⟨_,rfl⟩
  obtain⟨b4,g4⟩:=Jw x.chart.acts k4 (by omega) (by omega) (by simp only[K9,M3] at hx;omega)
  rw[←e5] at g4
  obtain⟨k6,e6⟩:∃ z,z=k5+(Q0 x.chart.dues:Nat):=⟨_,rfl⟩
  obtain⟨b5,g5⟩:=Jw x.chart.dues k5 (by omega) (by omega) (by simp only[K9,M3] at hx;omega)
  rw[←e6] at g5
  have hk:k6+(Y0 rest:Nat)=k+(Y0 (x::rest):Nat):=by rw[Br];simp only[jO];omega
  have hm:Z0 k (x::rest)=({ proc:=k,chart:={ status:=k1,now:=k2,vars:=L3 k3 x.chart.vars,acts:=L3 k4 x.chart.acts,dues:=L3 k5 x.chart.dues } }:Inst)::Z0 k6 rest:=by
   have e:k6=k+(jO x:Nat):=by simp only[jO];omega
   have e2:Ri k x=({ proc:=k,chart:={ status:=k1,now:=k2,vars:=L3 k3 x.chart.vars,acts:=L3 k4 x.chart.acts,dues:=L3 k5 x.chart.dues } }:Inst):=by subst_vars;rfl
   simp only[Z0];rw[e2,e]
  have ih:=Zb n hn rest (i+1) (es.set i (P8 ({ proc:=k,chart:={ status:=k1,now:=k2,vars:=L3 k3 x.chart.vars,acts:=L3 k4 x.chart.acts,dues:=L3 k5 x.chart.dues } }:Inst))) k6 (by simpa using hl) (by omega) (by rw[List.drop_set_of_lt (by omega)];exact hr.symm) (fun y hy=>hf y (by simp[hy])) (by omega) (by omega)
  have I4:(es.set i (P8 ({ proc:=k,chart:={ status:=k1,now:=k2,vars:=L3 k3 x.chart.vars,acts:=L3 k4 x.chart.acts,dues:=L3 k5 x.chart.dues } }:Inst))).take (i+1)=es.take i++[P8 ({ proc:=k,chart:={ status:=k1,now:=k2,vars:=L3 k3 x.chart.vars,acts:=L3 k4 x.chart.acts,dues:=L3 k5 x.chart.dues } }:Inst)]:=by
   rw[List.take_add_one,List.take_set_of_le (Nat.le_refl _)]
   simp[F8]
  rw[hk,I4,List.append_assoc] at ih
  rw[hm]
  refine D6 ?_ (by simpa only[List.length_cons,List.map_cons,List.singleton_append] using ih)
  simp (maxSteps:=1000000) +contextual -dsimp [f120,A1,F8,I5,hw,K6,hl,w0,w1,w2,g3,g4,g5,aT,dV,eJ,fY,U5,cW,cZ,gO,valArg,List.set]
theorem f2c (l:List Inst) (k:Int) (h0:0≤k) (h1:k+(Y0 l:Nat)<2 ^ 60) (hn:l.length≤2097152) (hf:∀ x,x∈l→K9 x≤2097152):∃ b,fo 120 [⟨.ref 0 0 [] 0 l.length,some ⟨0,0,false,[.own 163 (l.map P8)]⟩⟩,A (vI k)]=some ⟨vI (k+(Y0 l:Nat)),[(0,[.own 163 ((Z0 k l).map P8)])],b⟩:=by
 have A4:=Zb l.length hn l 0 (l.map P8) k (by simp) (by simp) rfl hf h0 (by omega)
 have F4:=V6 (Z0 k l)
 refine⟨true,e6c (l.length+1) ?_⟩
 generalize k+(Y0 l:Nat)=k' at *
 generalize Z0 k l=l' at *
 simp -dsimp [f120] at A4
 simp (maxSteps:=1000000) +contextual -dsimp [f120,A4,F4,aP,O6,List.set]
theorem Ww (n:Nat) (hn:n≤2097152):∀ (rest:List Claim) (i:Nat) (es:List (List T)) (k:Int),es.length=n→i+rest.length=n→es.drop i=rest.map kT→0≤k→k+(Z4 rest:Nat)<2 ^ 60→
  B7 E (orc E) (103:Nat) (rest.length+1) (C1 f103 0) ⟨34,[(0,.ref 0 0 [] 0 n),(1,vI k),(5,vI i)],[(0,⟨0,0,false,[.own 150 es]⟩)],2⟩=
  some (.exit 0,⟨34,[(0,.ref 0 0 [] 0 n),(1,vI (k+(Z4 rest:Nat))),(5,vI (n:Nat)),(9,vB false)],[(0,⟨0,0,false,[.own 150 (es.take i++(Y9 k rest).map kT)]⟩)],2⟩)
 | [],i,es,k,hl,hi,h,h0,h1=>by
  have e:i=n:=by simpa using hi
  subst e
  have A1:A3 (i:Int) (i:Int)=false:=C9 (by omega)
  have ht:es.take i=es:=List.take_of_length_le (by omega)
  rw[D5]
  simp +contextual -dsimp [f103,A1,ht,Wt,Y9]
 | x::rest,i,es,k,hl,hi,h,h0,h1=>by
  simp only[List.length_cons] at hi
  have I5:i<n:=by omega
  have F8:i<es.length:=by omega
  have A1:A3 (i:Int) (n:Int)=true:=F5 (by omega)
  have hw:IntKind.i64.wrap ((i:Int)+1)=((i+1:Nat):Int):=by rw[B6]<;>omega
  have hd:=List.drop_eq_getElem_cons F8
  rw[h,List.map_cons,List.cons.injEq] at hd
  obtain⟨K6,hr⟩:=hd
  have K6:=K6.symm
  rw[Bm] at h1
  simp only[jC] at h1
  obtain⟨k1,e1⟩:∃ z,z=k+1:=⟨_,rfl⟩
  have w0:IntKind.i64.wrap (k+1)=k1:=by rw[e1,B6]<;>omega
  obtain⟨k2,e2⟩:∃ z,z=k1+1:=⟨_,rfl⟩
  have w1:IntKind.i64.wrap (k1+1)=k2:=by rw[e2,B6]<;>omega
  obtain⟨k3,e3⟩:∃ z,z=k2+1:=⟨_,rfl⟩
  have w2:IntKind.i64.wrap (k2+1)=k3:=by rw[e3,B6]<;>omega
  have hk:k3+(Z4 rest:Nat)=k+(Z4 (x::rest):Nat):=by rw[Bm];simp only[jC];omega
  have hm:Y9 k (x::rest)=({ inst:=k,step:=k1,user:=k2 }:Claim)::Y9 k3 rest:=by
   have e:k3=k+(jC x:Nat):=by simp only[jC];omega
   have e2:Oj k x=({ inst:=k,step:=k1,user:=k2 }:Claim):=by subst_vars;rfl
   simp only[Y9];rw[e2,e]
  have ih:=Ww n hn rest (i+1) (es.set i (kT ({ inst:=k,step:=k1,user:=k2 }:Claim))) k3 (by simpa using hl) (by omega) (by rw[List.drop_set_of_lt (by omega)];exact hr.symm) (by omega) (by omega)
  have I4:(es.set i (kT ({ inst:=k,step:=k1,user:=k2 }:Claim))).take (i+1)=es.take i++[kT ({ inst:=k,step:=k1,user:=k2 }:Claim)]:=by
   rw[List.take_add_one,List.take_set_of_le (Nat.le_refl _)]
   simp[F8]
  rw[hk,I4,List.append_assoc] at ih
  rw[hm]
  refine D6 ?_ (by simpa only[List.length_cons,List.map_cons,List.singleton_append] using ih)
  simp (maxSteps:=1000000) +contextual -dsimp [f103,A1,F8,I5,hw,K6,hl,w0,w1,w2,aT,dV,eJ,fY,U5,cW,cZ,gO,valArg,List.set]
theorem e9x (l:List Claim) (k:Int) (h0:0≤k) (h1:k+(Z4 l:Nat)<2 ^ 60) (hn:l.length≤2097152):∃ b,fo 103 [⟨.ref 0 0 [] 0 l.length,some ⟨0,0,false,[.own 150 (l.map kT)]⟩⟩,A (vI k)]=some ⟨vI (k+(Z4 l:Nat)),[(0,[.own 150 ((Y9 k l).map kT)])],b⟩:=by
 have A4:=Ww l.length hn l 0 (l.map kT) k (by simp) (by simp) rfl h0 (by omega)
 have F4:=hC (Y9 k l)
 refine⟨true,d5q (l.length+1) ?_⟩
 generalize k+(Z4 l:Nat)=k' at *
 generalize Y9 k l=l' at *
 simp -dsimp [f103] at A4
 simp (maxSteps:=1000000) +contextual -dsimp [f103,A4,F4,aP,O6,List.set]
def dX (x:Engine):Nat:=V4 x.procs+Y0 x.insts
noncomputable def sM (k:Int) (x:Engine):Engine:={ x with procs:=Z2 (k) x.procs,insts:=Z0 (k+(V4 x.procs:Nat)) x.insts }
theorem f1a (x:Engine) (k:Int) (h0:0≤k) (h1:k+(dX x:Nat)<2 ^ 59) (hx:H6 x≤2097152):∃ b,fo 44 [⟨.agg [.ref 0 0 [] 0 x.procs.length,.ref 0 0 [] 1 x.insts.length,vI x.now],some ⟨0,0,false,[.own 160 (x.procs.map L1),.own 163 (x.insts.map P8),.dead]⟩⟩,A (vI k)]=some ⟨vI (k+(dX x:Nat)),[(0,uY (sM k x))],b⟩:=by
 simp only[dX] at h1
 obtain⟨k1,e1⟩:∃ z,z=k+(V4 x.procs:Nat):=⟨_,rfl⟩
 obtain⟨b0,g0⟩:=d6h x.procs k (by omega) (by omega) (by simp only[H6,Z9] at hx;omega) (fun y hy=>by have:=Az hy;simp only[H6,Z9] at hx;omega)
 rw[←e1] at g0
 obtain⟨k2,e2⟩:∃ z,z=k1+(Y0 x.insts:Nat):=⟨_,rfl⟩
 obtain⟨b1,g1⟩:=f2c x.insts k1 (by omega) (by omega) (by simp only[H6,X6] at hx;omega) (fun y hy=>by have:=Aj hy;simp only[H6,X6] at hx;omega)
 rw[←e2] at g1
 have hk:k+(dX x:Nat)=k2:=by simp only[dX];omega
 have hm:sM k x={ x with procs:=Z2 k x.procs,insts:=Z0 k1 x.insts }:=by subst_vars;rfl
 rw[hk,hm]
 refine⟨true,e8k 1 ?_⟩
 simp (maxSteps:=1000000) +contextual -dsimp [f44,g0,g1,W5,V6,dK,oK,mE,aP,O6,aT,dV,eJ,fY,U5,cW,cZ,gO,valArg,List.set]
def cV (x:Desk):Nat:=dX x.eng+Z4 x.claims
noncomputable def qC (k:Int) (x:Desk):Desk:={ x with eng:=sM (k) x.eng,claims:=Y9 (k+(dX x.eng:Nat)) x.claims }
theorem c6r (x:Desk) (k:Int) (h0:0≤k) (h1:k+(cV x:Nat)<2 ^ 59) (hx:P3 x≤2097152):∃ b,fo 35 [⟨.agg [.ref 0 0 [] 0 x.eng.procs.length,.ref 0 0 [] 1 x.eng.insts.length,vI x.eng.now,.ref 0 0 [] 3 x.claims.length],some ⟨0,0,false,[.own 160 (x.eng.procs.map L1),.own 163 (x.eng.insts.map P8),.dead,.own 150 (x.claims.map kT)]⟩⟩,A (vI k)]=some ⟨vI (k+(cV x:Nat)),[(0,b8l (qC k x))],b⟩:=by
 simp only[cV] at h1
 obtain⟨k1,e1⟩:∃ z,z=k+(dX x.eng:Nat):=⟨_,rfl⟩
 obtain⟨b0,g0⟩:=f1a x.eng k (by omega) (by omega) (by simp only[P3] at hx;omega)
 rw[←e1] at g0
 obtain⟨k2,e2⟩:∃ z,z=k1+(Z4 x.claims:Nat):=⟨_,rfl⟩
 obtain⟨b1,g1⟩:=e9x x.claims k1 (by omega) (by omega) (by simp only[P3,H6] at hx;omega)
 rw[←e2] at g1
 have hk:k+(cV x:Nat)=k2:=by simp only[cV];omega
 have hm:qC k x={ x with eng:=sM k x.eng,claims:=Y9 k1 x.claims }:=by subst_vars;rfl
 rw[hk,hm]
 refine⟨true,d3u 1 ?_⟩
 simp (maxSteps:=1000000) +contextual -dsimp [f35,g0,g1,W5,V6,hC,dK,oK,mE,aP,O6,aT,dV,eJ,fY,U5,cW,cZ,gO,valArg,List.set]
 all_goals (repeat' (first | rfl | constructor))
def gK (x:DeskR):Nat:=cV x.desk
noncomputable def nO (k:Int) (x:DeskR):DeskR:={ x with desk:=qC (k) x.desk }
theorem f1o (x:DeskR) (k:Int) (h0:0≤k) (h1:k+(gK x:Nat)<2 ^ 59) (hx:hJ x≤2097152):∃ b,fo 36 [⟨.agg [vI x.code,vI x.value,.ref 0 0 [] 2 x.desk.eng.procs.length,.ref 0 0 [] 3 x.desk.eng.insts.length,vI x.desk.eng.now,.ref 0 0 [] 5 x.desk.claims.length],some ⟨0,0,false,[.dead,.dead,.own 160 (x.desk.eng.procs.map L1),.own 163 (x.desk.eng.insts.map P8),.dead,.own 150 (x.desk.claims.map kT)]⟩⟩,A (vI k)]=some ⟨vI (k+(gK x:Nat)),[(0,a8v (nO k x))],b⟩:=by
 simp only[gK] at h1
 obtain⟨k1,e1⟩:∃ z,z=k+(cV x.desk:Nat):=⟨_,rfl⟩
 obtain⟨b0,g0⟩:=c6r x.desk k (by omega) (by omega) (by simp only[hJ] at hx;omega)
 rw[←e1] at g0
 have hk:k+(gK x:Nat)=k1:=by simp only[gK];omega
 have hm:nO k x={ x with desk:=qC k x.desk }:=by subst_vars;rfl
 rw[hk,hm]
 refine⟨true,d8p 1 ?_⟩
 simp (maxSteps:=1000000) +contextual -dsimp [f36,g0,W5,V6,hC,dK,oK,mE,aP,O6,aT,dV,eJ,fY,U5,cW,cZ,gO,valArg,List.set]
 all_goals (repeat' (first | rfl | constructor))
end Go.TM.Ft
