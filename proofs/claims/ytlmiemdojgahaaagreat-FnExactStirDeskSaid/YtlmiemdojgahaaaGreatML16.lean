/- What functions of the program come to, by the machine. -/
import Derived.Test.YtlmiemdojgahaaaGreatML15
import Derived.Test.YtlmiemdojgahaaaGreatML13
set_option linter.unusedSimpArgs false
set_option linter.unusedVariables false
set_option maxHeartbeats 4000000
namespace Go.TM.Ft
open Go Go.TM Go.Proofs Go.Proofs.Tryz
set_option maxRecDepth 20000
attribute [local congr] O3
attribute [local simp] L9 M4 K0 L6 J6 L4 J8 J1 K5 I6
theorem c7d (all:List Int) (B9:all.length≤2097152):∀ (rest:List Int) (i:Nat) (k:Int),all.drop i=L3 k rest→0≤k→k+(Q0 rest:Nat)<2 ^ 60→
  B7 E (orc E) (89:Nat) (rest.length+1) (C1 f89 0) ⟨21,[(0,.sl 2 (all.map iV)),(1,vI k),(5,vI i)],[],2⟩=
  some (.exit 0,⟨21,[(0,.sl 2 (all.map iV)),(1,vI (k+(Q0 rest:Nat))),(5,vI (i+rest.length:Nat)),(9,vB false)],[],2⟩)
 | [],i,k,h,h0,h1=>by
  have G5:all.length≤i:=by simpa[L3] using h
  have A1:A3 (i:Int) (all.length:Int)=false:=C9 (by omega)
  rw[D5]
  simp +contextual -dsimp [f89,A1,b5u]
 | x::rest,i,k,h,h0,h1=>by
  rw[Fu] at h1
  have he:i+1+rest.length=i+(rest.length+1):=by omega
  obtain⟨k1,e1⟩:∃ z,z=k+1:=⟨_,rfl⟩
  have w0:IntKind.i64.wrap (k+1)=k1:=by rw[e1,B6]<;>omega
  have hk:k1+(Q0 rest:Nat)=k+(Q0 (x::rest):Nat):=by rw[Fu];omega
  have hm:L3 k (x::rest)=k::L3 k1 rest:=by rw[e1];rfl
  rw[hm] at h
  obtain⟨hi,hc,hr⟩:=F6 h
  have A1:A3 (i:Int) (all.length:Int)=true:=F5 (by omega)
  have hw:IntKind.i64.wrap ((i:Int)+1)=((i+1:Nat):Int):=by rw[B6]<;>omega
  have ih:=c7d all B9 rest (i+1) k1 hr (by omega) (by omega)
  rw[hk,he] at ih
  refine D6 ?_ (by simpa only[List.length_cons] using ih)
  simp (maxSteps:=1000000) +contextual -dsimp [f89,A1,hi,hc,hw,D2,qU,w0,List.set]
theorem b0d:∀ (l:List Int) (k:Int),(L3 k l).length=l.length
 | [],_=>rfl
 | x::l,k=>by simp only[L3,List.length_cons,b0d l]
theorem Ki (l:List Int) (k:Int) (h0:0≤k) (h1:k+(Q0 l:Nat)<2 ^ 60) (hn:l.length≤2097152):fo 89 [A (.sl 2 ((L3 k l).map iV)),A (vI k)]=some (R (vI (k+(Q0 l:Nat)))):=by
 have A4:=c7d (L3 k l) (by rw[b0d];exact hn) l 0 k rfl h0 h1
 refine d2k (l.length+1) ?_
 generalize k+(Q0 l:Nat)=k' at *
 generalize L3 k l=l' at *
 simp -dsimp [f89] at A4
 simp (maxSteps:=1000000) +contextual -dsimp [f89,A4,List.set]
theorem b4n (all:List Node) (B9:all.length≤2097152):∀ (rest:List Node) (i:Nat) (k:Int),all.drop i=N9 k rest→0≤k→k+(T8 rest:Nat)<2 ^ 60→
  B7 E (orc E) (286:Nat) (rest.length+1) (C1 f286 0) ⟨49,[(0,.sl 219 (all.map nT)),(1,vI k),(5,vI i)],[],2⟩=
  some (.exit 0,⟨49,[(0,.sl 219 (all.map nT)),(1,vI (k+(T8 rest:Nat))),(5,vI (i+rest.length:Nat)),(9,vB false)],[],2⟩)
 | [],i,k,h,h0,h1=>by
  have G5:all.length≤i:=by simpa[N9] using h
  have A1:A3 (i:Int) (all.length:Int)=false:=C9 (by omega)
  rw[D5]
  simp +contextual -dsimp [f286,A1,Zi]
 | x::rest,i,k,h,h0,h1=>by
  rw[xM] at h1
  have he:i+1+rest.length=i+(rest.length+1):=by omega
  simp only[kA] at h1
  obtain⟨k1,e1⟩:∃ z,z=k+1:=⟨_,rfl⟩
  have w0:IntKind.i64.wrap (k+1)=k1:=by rw[e1,B6]<;>omega
  obtain⟨k2,e2⟩:∃ z,z=k1+1:=⟨_,rfl⟩
  have w1:IntKind.i64.wrap (k1+1)=k2:=by rw[e2,B6]<;>omega
  obtain⟨k3,e3⟩:∃ z,z=k2+1:=⟨_,rfl⟩
  have w2:IntKind.i64.wrap (k2+1)=k3:=by rw[e3,B6]<;>omega
  obtain⟨k4,e4⟩:∃ z,z=k3+1:=⟨_,rfl⟩
  have w3:IntKind.i64.wrap (k3+1)=k4:=by rw[e4,B6]<;>omega
  have hk:k4+(T8 rest:Nat)=k+(T8 (x::rest):Nat):=by rw[xM];simp only[kA];omega
  have hm:N9 k (x::rest)=({ kind:=k,value:=k1,left:=k2,right:=k3 }:Node)::N9 k4 rest:=by
   have e:k4=k+(kA x:Nat):=by simp only[kA];omega
   have e2:Qr k x=({ kind:=k,value:=k1,left:=k2,right:=k3 }:Node):=by subst_vars;rfl
   simp only[N9];rw[e2,e]
  rw[hm] at h
  obtain⟨hi,hc,hr⟩:=F6 h
  have A1:A3 (i:Int) (all.length:Int)=true:=F5 (by omega)
  have hw:IntKind.i64.wrap ((i:Int)+1)=((i+1:Nat):Int):=by rw[B6]<;>omega
  have ih:=b4n all B9 rest (i+1) k4 hr (by omega) (by omega)
  rw[hk,he] at ih
  refine D6 ?_ (by simpa only[List.length_cons] using ih)
  simp (maxSteps:=1000000) +contextual -dsimp [f286,A1,hi,hc,hw,D2,qU,w0,w1,w2,w3,List.set]
theorem a1y:∀ (l:List Node) (k:Int),(N9 k l).length=l.length
 | [],_=>rfl
 | x::l,k=>by simp only[N9,List.length_cons,a1y l]
theorem a0d (l:List Node) (k:Int) (h0:0≤k) (h1:k+(T8 l:Nat)<2 ^ 60) (hn:l.length≤2097152):fo 286 [A (.sl 219 ((N9 k l).map nT)),A (vI k)]=some (R (vI (k+(T8 l:Nat)))):=by
 have A4:=b4n (N9 k l) (by rw[a1y];exact hn) l 0 k rfl h0 h1
 refine e3w (l.length+1) ?_
 generalize k+(T8 l:Nat)=k' at *
 generalize N9 k l=l' at *
 simp -dsimp [f286] at A4
 simp (maxSteps:=1000000) +contextual -dsimp [f286,A4,List.set]
theorem b1o (all:List Step) (B9:all.length≤2097152):∀ (rest:List Step) (i:Nat) (k:Int),all.drop i=S3 k rest→(∀ x,x∈rest→L5 x≤2097152)→0≤k→k+(W7 rest:Nat)<2 ^ 60→
  B7 E (orc E) (247:Nat) (rest.length+1) (C1 f247 0) ⟨68,[(0,.sl 124 (all.map (sT 219))),(1,vI k),(5,vI i)],[],2⟩=
  some (.exit 0,⟨68,[(0,.sl 124 (all.map (sT 219))),(1,vI (k+(W7 rest:Nat))),(5,vI (i+rest.length:Nat)),(9,vB false)],[],2⟩)
 | [],i,k,h,hf,h0,h1=>by
  have G5:all.length≤i:=by simpa[S3] using h
  have A1:A3 (i:Int) (all.length:Int)=false:=C9 (by omega)
  rw[D5]
  simp +contextual -dsimp [f247,A1,c1g]
 | x::rest,i,k,h,hf,h0,h1=>by
  have hx:=hf x (by simp)
  rw[Bg] at h1
  have he:i+1+rest.length=i+(rest.length+1):=by omega
  simp only[iQ] at h1
  obtain⟨k1,e1⟩:∃ z,z=k+1:=⟨_,rfl⟩
  have w0:IntKind.i64.wrap (k+1)=k1:=by rw[e1,B6]<;>omega
  obtain⟨k2,e2⟩:∃ z,z=k1+1:=⟨_,rfl⟩
  have w1:IntKind.i64.wrap (k1+1)=k2:=by rw[e2,B6]<;>omega
  obtain⟨k3,e3⟩:∃ z,z=k2+1:=⟨_,rfl⟩
  have w2:IntKind.i64.wrap (k2+1)=k3:=by rw[e3,B6]<;>omega
  have g2:=a5k k2 (by omega) (by omega)
  obtain⟨k4,e4⟩:∃ z,z=k3+1:=⟨_,rfl⟩
  have w3:IntKind.i64.wrap (k3+1)=k4:=by rw[e4,B6]<;>omega
  obtain⟨k5,e5⟩:∃ z,z=k4+(T8 x.cond:Nat):=⟨_,rfl⟩
  have g4:=a0d x.cond k4 (by omega) (by omega) (by simp only[L5] at hx;omega)
  have n4:A3 k5 0=false:=C9 (by omega)
  rw[←e5] at g4
  obtain⟨k6,e6⟩:∃ z,z=k5+(T8 x.expr:Nat):=⟨_,rfl⟩
  have g5:=a0d x.expr k5 (by omega) (by omega) (by simp only[L5] at hx;omega)
  have n5:A3 k6 0=false:=C9 (by omega)
  rw[←e6] at g5
  have hk:k6+(W7 rest:Nat)=k+(W7 (x::rest):Nat):=by rw[Bg];simp only[iQ];omega
  have hm:S3 k (x::rest)=({ kind:=k,parent:=k1,name:=nB k2,arg:=k3,cond:=N9 k4 x.cond,expr:=N9 k5 x.expr }:Step)::S3 k6 rest:=by
   have e:k6=k+(iQ x:Nat):=by simp only[iQ];omega
   have e2:Pa k x=({ kind:=k,parent:=k1,name:=nB k2,arg:=k3,cond:=N9 k4 x.cond,expr:=N9 k5 x.expr }:Step):=by subst_vars;rfl
   simp only[S3];rw[e2,e]
  rw[hm] at h
  obtain⟨hi,hc,hr⟩:=F6 h
  have A1:A3 (i:Int) (all.length:Int)=true:=F5 (by omega)
  have hw:IntKind.i64.wrap ((i:Int)+1)=((i+1:Nat):Int):=by rw[B6]<;>omega
  have ih:=b1o all B9 rest (i+1) k6 hr (fun y hy=>hf y (by simp[hy])) (by omega) (by omega)
  rw[hk,he] at ih
  refine D6 ?_ (by simpa only[List.length_cons] using ih)
  simp (maxSteps:=1000000) +contextual -dsimp [f247,A1,hi,hc,hw,D2,qU,w0,w1,w2,g2,w3,n4,g4,n5,g5,List.set]
theorem a9g:∀ (l:List Step) (k:Int),(S3 k l).length=l.length
 | [],_=>rfl
 | x::l,k=>by simp only[S3,List.length_cons,a9g l]
theorem e3i (l:List Step) (k:Int) (h0:0≤k) (h1:k+(W7 l:Nat)<2 ^ 60) (hn:l.length≤2097152) (hf:∀ x,x∈l→L5 x≤2097152):fo 247 [A (.sl 124 ((S3 k l).map (sT 219))),A (vI k)]=some (R (vI (k+(W7 l:Nat)))):=by
 have A4:=b1o (S3 k l) (by rw[a9g];exact hn) l 0 k rfl hf h0 h1
 refine d8u (l.length+1) ?_
 generalize k+(W7 l:Nat)=k' at *
 generalize S3 k l=l' at *
 simp -dsimp [f247] at A4
 simp (maxSteps:=1000000) +contextual -dsimp [f247,A4,List.set]
theorem b8t (all:List (List Step)) (B9:all.length≤2097152):∀ (rest:List (List Step)) (i:Nat) (k:Int),all.drop i=Z2 k rest→(∀ x,x∈rest→N4 x≤2097152)→0≤k→k+(V4 rest:Nat)<2 ^ 60→
  B7 E (orc E) (191:Nat) (rest.length+1) (C1 f191 0) ⟨22,[(0,.sl 160 (all.map (pT 124 219))),(1,vI k),(5,vI i)],[],2⟩=
  some (.exit 0,⟨22,[(0,.sl 160 (all.map (pT 124 219))),(1,vI (k+(V4 rest:Nat))),(5,vI (i+rest.length:Nat)),(9,vB false)],[],2⟩)
 | [],i,k,h,hf,h0,h1=>by
  have G5:all.length≤i:=by simpa[Z2] using h
  have A1:A3 (i:Int) (all.length:Int)=false:=C9 (by omega)
  rw[D5]
  simp +contextual -dsimp [f191,A1,a8n]
 | x::rest,i,k,h,hf,h0,h1=>by
  have hx:=hf x (by simp)
  rw[Af] at h1
  have he:i+1+rest.length=i+(rest.length+1):=by omega
  simp only[jZ] at h1
  obtain⟨k1,e1⟩:∃ z,z=k+(W7 x:Nat):=⟨_,rfl⟩
  have g0:=e3i x k (by omega) (by omega) (by simp only[N4,dW] at hx;omega) (fun y hy=>by have:=Am hy;simp only[N4,dW] at hx;omega)
  have n0:A3 k1 0=false:=C9 (by omega)
  rw[←e1] at g0
  have hk:k1+(V4 rest:Nat)=k+(V4 (x::rest):Nat):=by rw[Af];simp only[jZ];omega
  have hm:Z2 k (x::rest)=(S3 k x:List Step)::Z2 k1 rest:=by
   have e:k1=k+(jZ x:Nat):=by simp only[jZ];omega
   have e2:Va k x=(S3 k x:List Step):=by subst_vars;rfl
   simp only[Z2];rw[e2,e]
  rw[hm] at h
  obtain⟨hi,hc,hr⟩:=F6 h
  have A1:A3 (i:Int) (all.length:Int)=true:=F5 (by omega)
  have hw:IntKind.i64.wrap ((i:Int)+1)=((i+1:Nat):Int):=by rw[B6]<;>omega
  have ih:=b8t all B9 rest (i+1) k1 hr (fun y hy=>hf y (by simp[hy])) (by omega) (by omega)
  rw[hk,he] at ih
  refine D6 ?_ (by simpa only[List.length_cons] using ih)
  simp (maxSteps:=1000000) +contextual -dsimp [f191,A1,hi,hc,hw,D2,qU,n0,g0,List.set]
theorem b0y:∀ (l:List (List Step)) (k:Int),(Z2 k l).length=l.length
 | [],_=>rfl
 | x::l,k=>by simp only[Z2,List.length_cons,b0y l]
theorem d6d (l:List (List Step)) (k:Int) (h0:0≤k) (h1:k+(V4 l:Nat)<2 ^ 60) (hn:l.length≤2097152) (hf:∀ x,x∈l→N4 x≤2097152):fo 191 [A (.sl 160 ((Z2 k l).map (pT 124 219))),A (vI k)]=some (R (vI (k+(V4 l:Nat)))):=by
 have A4:=b8t (Z2 k l) (by rw[b0y];exact hn) l 0 k rfl hf h0 h1
 refine d5e (l.length+1) ?_
 generalize k+(V4 l:Nat)=k' at *
 generalize Z2 k l=l' at *
 simp -dsimp [f191] at A4
 simp (maxSteps:=1000000) +contextual -dsimp [f191,A4,List.set]
theorem b2r (all:List Inst) (B9:all.length≤2097152):∀ (rest:List Inst) (i:Nat) (k:Int),all.drop i=Z0 k rest→(∀ x,x∈rest→K9 x≤2097152)→0≤k→k+(Y0 rest:Nat)<2 ^ 60→
  B7 E (orc E) (192:Nat) (rest.length+1) (C1 f192 0) ⟨72,[(0,.sl 163 (all.map xT)),(1,vI k),(5,vI i)],[],2⟩=
  some (.exit 0,⟨72,[(0,.sl 163 (all.map xT)),(1,vI (k+(Y0 rest:Nat))),(5,vI (i+rest.length:Nat)),(9,vB false)],[],2⟩)
 | [],i,k,h,hf,h0,h1=>by
  have G5:all.length≤i:=by simpa[Z0] using h
  have A1:A3 (i:Int) (all.length:Int)=false:=C9 (by omega)
  rw[D5]
  simp +contextual -dsimp [f192,A1,b9f]
 | x::rest,i,k,h,hf,h0,h1=>by
  have hx:=hf x (by simp)
  rw[Br] at h1
  have he:i+1+rest.length=i+(rest.length+1):=by omega
  simp only[jO] at h1
  obtain⟨k1,e1⟩:∃ z,z=k+1:=⟨_,rfl⟩
  have w0:IntKind.i64.wrap (k+1)=k1:=by rw[e1,B6]<;>omega
  obtain⟨k2,e2⟩:∃ z,z=k1+1:=⟨_,rfl⟩
  have w1:IntKind.i64.wrap (k1+1)=k2:=by rw[e2,B6]<;>omega
  obtain⟨k3,e3⟩:∃ z,z=k2+1:=⟨_,rfl⟩
  have w2:IntKind.i64.wrap (k2+1)=k3:=by rw[e3,B6]<;>omega
  obtain⟨k4,e4⟩:∃ z,z=k3+(Q0 x.chart.vars:Nat):=⟨_,rfl⟩
  have g3:=Ki x.chart.vars k3 (by omega) (by omega) (by simp only[K9,M3] at hx;omega)
  have n3:A3 k4 0=false:=C9 (by omega)
  rw[←e4] at g3
  obtain⟨k5,e5⟩:∃ z,z=k4+(Q0 x.chart.acts:Nat):=⟨_,rfl⟩
  have g4:=Ki x.chart.acts k4 (by omega) (by omega) (by simp only[K9,M3] at hx;omega)
  have n4:A3 k5 0=false:=C9 (by omega)
  rw[←e5] at g4
  obtain⟨k6,e6⟩:∃ z,z=k5+(Q0 x.chart.dues:Nat):=⟨_,rfl⟩
  have g5:=Ki x.chart.dues k5 (by omega) (by omega) (by simp only[K9,M3] at hx;omega)
  have n5:A3 k6 0=false:=C9 (by omega)
  rw[←e6] at g5
  have hk:k6+(Y0 rest:Nat)=k+(Y0 (x::rest):Nat):=by rw[Br];simp only[jO];omega
  have hm:Z0 k (x::rest)=({ proc:=k,chart:={ status:=k1,now:=k2,vars:=L3 k3 x.chart.vars,acts:=L3 k4 x.chart.acts,dues:=L3 k5 x.chart.dues } }:Inst)::Z0 k6 rest:=by
   have e:k6=k+(jO x:Nat):=by simp only[jO];omega
   have e2:Ri k x=({ proc:=k,chart:={ status:=k1,now:=k2,vars:=L3 k3 x.chart.vars,acts:=L3 k4 x.chart.acts,dues:=L3 k5 x.chart.dues } }:Inst):=by subst_vars;rfl
   simp only[Z0];rw[e2,e]
  rw[hm] at h
  obtain⟨hi,hc,hr⟩:=F6 h
  have A1:A3 (i:Int) (all.length:Int)=true:=F5 (by omega)
  have hw:IntKind.i64.wrap ((i:Int)+1)=((i+1:Nat):Int):=by rw[B6]<;>omega
  have ih:=b2r all B9 rest (i+1) k6 hr (fun y hy=>hf y (by simp[hy])) (by omega) (by omega)
  rw[hk,he] at ih
  refine D6 ?_ (by simpa only[List.length_cons] using ih)
  simp (maxSteps:=1000000) +contextual -dsimp [f192,A1,hi,hc,hw,D2,qU,w0,w1,w2,n3,g3,n4,g4,n5,g5,List.set]
theorem b7c:∀ (l:List Inst) (k:Int),(Z0 k l).length=l.length
 | [],_=>rfl
 | x::l,k=>by simp only[Z0,List.length_cons,b7c l]
theorem e1a (l:List Inst) (k:Int) (h0:0≤k) (h1:k+(Y0 l:Nat)<2 ^ 60) (hn:l.length≤2097152) (hf:∀ x,x∈l→K9 x≤2097152):fo 192 [A (.sl 163 ((Z0 k l).map xT)),A (vI k)]=some (R (vI (k+(Y0 l:Nat)))):=by
 have A4:=b2r (Z0 k l) (by rw[b7c];exact hn) l 0 k rfl hf h0 h1
 refine e6z (l.length+1) ?_
 generalize k+(Y0 l:Nat)=k' at *
 generalize Z0 k l=l' at *
 simp -dsimp [f192] at A4
 simp (maxSteps:=1000000) +contextual -dsimp [f192,A4,List.set]
theorem a5m (all:List Claim) (B9:all.length≤2097152):∀ (rest:List Claim) (i:Nat) (k:Int),all.drop i=Y9 k rest→0≤k→k+(Z4 rest:Nat)<2 ^ 60→
  B7 E (orc E) (178:Nat) (rest.length+1) (C1 f178 0) ⟨40,[(0,.sl 150 (all.map kT)),(1,vI k),(5,vI i)],[],2⟩=
  some (.exit 0,⟨40,[(0,.sl 150 (all.map kT)),(1,vI (k+(Z4 rest:Nat))),(5,vI (i+rest.length:Nat)),(9,vB false)],[],2⟩)
 | [],i,k,h,h0,h1=>by
  have G5:all.length≤i:=by simpa[Y9] using h
  have A1:A3 (i:Int) (all.length:Int)=false:=C9 (by omega)
  rw[D5]
  simp +contextual -dsimp [f178,A1,Wt]
 | x::rest,i,k,h,h0,h1=>by
  rw[Bm] at h1
  have he:i+1+rest.length=i+(rest.length+1):=by omega
  simp only[jC] at h1
  obtain⟨k1,e1⟩:∃ z,z=k+1:=⟨_,rfl⟩
  have w0:IntKind.i64.wrap (k+1)=k1:=by rw[e1,B6]<;>omega
  obtain⟨k2,e2⟩:∃ z,z=k1+1:=⟨_,rfl⟩
  have w1:IntKind.i64.wrap (k1+1)=k2:=by rw[e2,B6]<;>omega
  obtain⟨k3,e3⟩:∃ z,z=k2+1:=⟨_,rfl⟩
  have w2:IntKind.i64.wrap (k2+1)=k3:=by rw[e3,B6]<;>omega
  have hk:k3+(Z4 rest:Nat)=k+(Z4 (x::rest):Nat):=by rw[Bm];simp only[jC];omega
  have hm:Y9 k (x::rest)=({ inst:=k,step:=k1,user:=k2 }:Claim)::Y9 k3 rest:=by
   have e:k3=k+(jC x:Nat):=by simp only[jC];omega
   have e2:Oj k x=({ inst:=k,step:=k1,user:=k2 }:Claim):=by subst_vars;rfl
   simp only[Y9];rw[e2,e]
  rw[hm] at h
  obtain⟨hi,hc,hr⟩:=F6 h
  have A1:A3 (i:Int) (all.length:Int)=true:=F5 (by omega)
  have hw:IntKind.i64.wrap ((i:Int)+1)=((i+1:Nat):Int):=by rw[B6]<;>omega
  have ih:=a5m all B9 rest (i+1) k3 hr (by omega) (by omega)
  rw[hk,he] at ih
  refine D6 ?_ (by simpa only[List.length_cons] using ih)
  simp (maxSteps:=1000000) +contextual -dsimp [f178,A1,hi,hc,hw,D2,qU,w0,w1,w2,List.set]
theorem c3k:∀ (l:List Claim) (k:Int),(Y9 k l).length=l.length
 | [],_=>rfl
 | x::l,k=>by simp only[Y9,List.length_cons,c3k l]
theorem e3l (l:List Claim) (k:Int) (h0:0≤k) (h1:k+(Z4 l:Nat)<2 ^ 60) (hn:l.length≤2097152):fo 178 [A (.sl 150 ((Y9 k l).map kT)),A (vI k)]=some (R (vI (k+(Z4 l:Nat)))):=by
 have A4:=a5m (Y9 k l) (by rw[c3k];exact hn) l 0 k rfl h0 h1
 refine d9s (l.length+1) ?_
 generalize k+(Z4 l:Nat)=k' at *
 generalize Y9 k l=l' at *
 simp -dsimp [f178] at A4
 simp (maxSteps:=1000000) +contextual -dsimp [f178,A4,List.set]
theorem d6b (x:Engine) (k:Int) (h0:0≤k) (h1:k+(dX x:Nat)<2 ^ 59) (hx:H6 x≤2097152):fo 121 [A (.agg (eT (sM k x))),A (vI k)]=some (R (vI (k+(dX x:Nat)))):=by
 simp only[dX] at h1
 obtain⟨k1,e1⟩:∃ z,z=k+(V4 x.procs:Nat):=⟨_,rfl⟩
 have g0:=d6d x.procs k (by omega) (by omega) (by simp only[H6,Z9] at hx;omega) (fun y hy=>by have:=Az hy;simp only[H6,Z9] at hx;omega)
 rw[←e1] at g0
 have n0:A3 k1 0=false:=C9 (by omega)
 obtain⟨k2,e2⟩:∃ z,z=k1+(Y0 x.insts:Nat):=⟨_,rfl⟩
 have g1:=e1a x.insts k1 (by omega) (by omega) (by simp only[H6,X6] at hx;omega) (fun y hy=>by have:=Aj hy;simp only[H6,X6] at hx;omega)
 rw[←e2] at g1
 have n1:A3 k2 0=false:=C9 (by omega)
 have hk:k+(dX x:Nat)=k2:=by simp only[dX];omega
 have hm:sM k x={ x with procs:=Z2 k x.procs,insts:=Z0 k1 x.insts }:=by subst_vars;rfl
 rw[hk,hm]
 refine d4r 1 ?_
 simp (maxSteps:=1000000) +contextual -dsimp [f121,g0,n0,g1,n1,List.set]
theorem e3d (x:Desk) (k:Int) (h0:0≤k) (h1:k+(cV x:Nat)<2 ^ 59) (hx:P3 x≤2097152):fo 104 [A (.agg (dT (qC k x))),A (vI k)]=some (R (vI (k+(cV x:Nat)))):=by
 simp only[cV] at h1
 obtain⟨k1,e1⟩:∃ z,z=k+(dX x.eng:Nat):=⟨_,rfl⟩
 have g0:=d6b x.eng k (by omega) (by omega) (by simp only[P3] at hx;omega)
 rw[←e1] at g0
 have n0:A3 k1 0=false:=C9 (by omega)
 obtain⟨k2,e2⟩:∃ z,z=k1+(Z4 x.claims:Nat):=⟨_,rfl⟩
 have g1:=e3l x.claims k1 (by omega) (by omega) (by simp only[P3,H6] at hx;omega)
 rw[←e2] at g1
 have n1:A3 k2 0=false:=C9 (by omega)
 have hk:k+(cV x:Nat)=k2:=by simp only[cV];omega
 have hm:qC k x={ x with eng:=sM k x.eng,claims:=Y9 k1 x.claims }:=by subst_vars;rfl
 rw[hk,hm]
 refine d4o 1 ?_
 simp (maxSteps:=1000000) +contextual -dsimp [f104,g0,n0,g1,n1,List.set]
theorem e8v (x:DeskR) (k:Int) (h0:0≤k) (h1:k+(gK x:Nat)<2 ^ 59) (hx:hJ x≤2097152):fo 37 [A (.agg (Cf (nO k x))),A (vI k)]=some (R (vI (k+(gK x:Nat)))):=by
 simp only[gK] at h1
 obtain⟨k1,e1⟩:∃ z,z=k+(cV x.desk:Nat):=⟨_,rfl⟩
 have g0:=e3d x.desk k (by omega) (by omega) (by simp only[hJ] at hx;omega)
 rw[←e1] at g0
 have n0:A3 k1 0=false:=C9 (by omega)
 have hk:k+(gK x:Nat)=k1:=by simp only[gK];omega
 have hm:nO k x={ x with desk:=qC k x.desk }:=by subst_vars;rfl
 rw[hk,hm]
 refine d4y 1 ?_
 simp (maxSteps:=1000000) +contextual -dsimp [f37,g0,n0,List.set]
attribute [local simp] pE uM An
abbrev zI:List T:=[vI 0]
theorem b2q (all:List Int) (B9:all.length≤1048576):∀ (rest:List Int) (i:Nat) (es:List (List T)),all.drop i=rest→es.length=all.length→(∀ j,i≤j→j<all.length→es[j]?=some zI)→
  B7 E (orc E) (17:Nat) (rest.length+1) (C1 f17 0) ⟨22,[(0,.sl 2 (all.map iV)),(3,.ref 3 1 [] 0 all.length),(4,vI i)],[(3,⟨1,1,false,[.own 2 es]⟩)],2⟩=
  some (.exit 0,⟨22,[(0,.sl 2 (all.map iV)),(3,.ref 3 1 [] 0 all.length),(4,vI (i+rest.length:Nat)),(11,vB false)],[(3,⟨1,1,false,[.own 2 (es.take i++rest.map iV)]⟩)],2⟩)
 | [],i,es,h,hl,hz=>by
  have G5:all.length≤i:=by simpa using h
  have A1:A3 (i:Int) (all.length:Int)=false:=C9 (by omega)
  have ht:es.take i=es:=List.take_of_length_le (by omega)
  rw[D5]
  simp +contextual -dsimp [f17,A1,ht]
 | x::rest,i,es,h,hl,hz=>by
  obtain⟨hi,hc,hr⟩:=F6 h
  have A1:A3 (i:Int) (all.length:Int)=true:=F5 (by omega)
  have hw:IntKind.i64.wrap ((i:Int)+1)=((i+1:Nat):Int):=by rw[B6]<;>omega
  have F8:i<es.length:=by omega
  have K6:es[i]=zI:=by
   have:=hz i (Nat.le_refl _) hi
   rw[List.getElem?_eq_getElem F8] at this
   simpa using this
  have ih:=b2q all B9 rest (i+1) (es.set i (iV x)) hr (by simpa using hl) (fun j hj aQ=>by
   rw[List.getElem?_set_ne (by omega)]
   exact hz j (by omega) aQ)
  have he:i+1+rest.length=i+(rest.length+1):=by omega
  have I4:(es.set i (iV x)).take (i+1)=es.take i++[iV x]:=by
   rw[List.take_add_one,List.take_set_of_le (Nat.le_refl _)]
   simp[F8]
  rw[he,I4,List.append_assoc] at ih
  refine D6 ?_ (by simpa only[List.length_cons,List.map_cons,List.singleton_append] using ih)
  simp (maxSteps:=1000000) +contextual -dsimp [f17,A1,hi,F8,hc,hw,K6,hl,List.set]
theorem Ru (l:List Int) (hl:l.length≤1048576):fo 17 [A (.sl 2 (l.map iV))]=some ⟨.own 2 (l.map iV),[],true⟩:=by
 have hm:(l.length:Int)≤(D0:Nat):=by unfold D0;omega
 have A4:=b2q l hl l 0 (List.replicate l.length zI) rfl (by simp) (fun j _ hj=>by simp[hj])
 have F4:=dR l
 refine e6y (l.length+1) ?_
 simp -dsimp [f17] at A4
 simp (maxSteps:=1000000) +contextual -dsimp [f17,hm,A4,F4,aP,O6,List.set]
theorem e6v (x:Node):fo 231 [A (.agg (nT x))]=some ⟨.agg (nT x),[],true⟩:=by
 refine e9w 1 ?_
 simp (maxSteps:=1000000) +contextual -dsimp [f231,List.set]
theorem c3w (all:List Node) (B9:all.length≤1048576):∀ (rest:List Node) (i:Nat) (es:List (List T)),all.drop i=rest→es.length=all.length→(∀ j,i≤j→j<all.length→es[j]?=some [vI 0,vI 0,vI 0,vI 0])→
  B7 E (orc E) (166:Nat) (rest.length+1) (C1 f166 0) ⟨23,[(0,.sl 267 (all.map nT)),(3,.ref 3 1 [] 0 all.length),(4,vI i)],[(3,⟨1,1,false,[.own 219 es]⟩)],2⟩=
  some (.exit 0,⟨23,[(0,.sl 267 (all.map nT)),(3,.ref 3 1 [] 0 all.length),(4,vI (i+rest.length:Nat)),(11,vB false)],[(3,⟨1,1,false,[.own 219 (es.take i++rest.map nT)]⟩)],2⟩)
 | [],i,es,h,hl,hz=>by
  have G5:all.length≤i:=by simpa using h
  have A1:A3 (i:Int) (all.length:Int)=false:=C9 (by omega)
  have ht:es.take i=es:=List.take_of_length_le (by omega)
  rw[D5]
  simp +contextual -dsimp [f166,A1,ht]
 | x::rest,i,es,h,hl,hz=>by
  obtain⟨hi,hc,hr⟩:=F6 h
  have A1:A3 (i:Int) (all.length:Int)=true:=F5 (by omega)
  have hw:IntKind.i64.wrap ((i:Int)+1)=((i+1:Nat):Int):=by rw[B6]<;>omega
  have F8:i<es.length:=by omega
  have K6:es[i]=[vI 0,vI 0,vI 0,vI 0]:=by
   have:=hz i (Nat.le_refl _) hi
   rw[List.getElem?_eq_getElem F8] at this
   simpa using this
  have ih:=c3w all B9 rest (i+1) (es.set i (nT x)) hr (by simpa using hl) (fun j hj aQ=>by
   rw[List.getElem?_set_ne (by omega)]
   exact hz j (by omega) aQ)
  have he:i+1+rest.length=i+(rest.length+1):=by omega
  have I4:(es.set i (nT x)).take (i+1)=es.take i++[nT x]:=by
   rw[List.take_add_one,List.take_set_of_le (Nat.le_refl _)]
   simp[F8]
  rw[he,I4,List.append_assoc] at ih
  have g:=e6v x
  refine D6 ?_ (by simpa only[List.length_cons,List.map_cons,List.singleton_append] using ih)
  simp (maxSteps:=1000000) +contextual -dsimp [f166,A1,hi,F8,hc,hw,K6,hl,g,List.set]
theorem a4r (l:List Node) (hl:l.length≤1048576):fo 166 [A (.sl 267 (l.map nT))]=some ⟨.own 219 (l.map nT),[],true⟩:=by
 have hm:(l.length:Int)≤(D0:Nat):=by unfold D0;omega
 have A4:=c3w l hl l 0 (List.replicate l.length [vI 0,vI 0,vI 0,vI 0]) rfl (by simp) (fun j _ hj=>by simp[hj])
 have F4:=gX l
 refine e1y (l.length+1) ?_
 simp -dsimp [f166] at A4
 simp (maxSteps:=1000000) +contextual -dsimp [f166,hm,A4,F4,aP,O6,List.set]
theorem d0u (x:Step) (h:L5 x≤1048576):fo 75 [A (.agg (sT 267 x))]=some ⟨.agg (T6 x),[],true⟩:=by
 have g4:=a4r x.cond (by simp only[L5] at h;omega)
 have s4:=gX x.cond
 have g5:=a4r x.expr (by simp only[L5] at h;omega)
 have s5:=gX x.expr
 refine d4u 1 ?_
 simp (maxSteps:=1000000) +contextual -dsimp [f75,g4,s4,g5,s5,List.set]
theorem a6z (all:List Step) (B9:all.length≤1048576) (hf:∀ x,x∈all→L5 x≤1048576):∀ (rest:List Step) (i:Nat) (es:List (List T)),all.drop i=rest→es.length=all.length→(∀ j,i≤j→j<all.length→es[j]?=some [vI 0,vI 0,vS cU,vI 0,.own 219 [],.own 219 []])→
  B7 E (orc E) (16:Nat) (rest.length+1) (C1 f16 0) ⟨23,[(0,.sl 111 (all.map (sT 267))),(3,.ref 3 1 [] 0 all.length),(4,vI i)],[(3,⟨1,1,false,[.own 124 es]⟩)],2⟩=
  some (.exit 0,⟨23,[(0,.sl 111 (all.map (sT 267))),(3,.ref 3 1 [] 0 all.length),(4,vI (i+rest.length:Nat)),(11,vB false)],[(3,⟨1,1,false,[.own 124 (es.take i++rest.map T6)]⟩)],2⟩)
 | [],i,es,h,hl,hz=>by
  have G5:all.length≤i:=by simpa using h
  have A1:A3 (i:Int) (all.length:Int)=false:=C9 (by omega)
  have ht:es.take i=es:=List.take_of_length_le (by omega)
  rw[D5]
  simp +contextual -dsimp [f16,A1,ht]
 | x::rest,i,es,h,hl,hz=>by
  obtain⟨hi,hc,hr⟩:=F6 h
  have A1:A3 (i:Int) (all.length:Int)=true:=F5 (by omega)
  have hw:IntKind.i64.wrap ((i:Int)+1)=((i+1:Nat):Int):=by rw[B6]<;>omega
  have F8:i<es.length:=by omega
  have K6:es[i]=[vI 0,vI 0,vS cU,vI 0,.own 219 [],.own 219 []]:=by
   have:=hz i (Nat.le_refl _) hi
   rw[List.getElem?_eq_getElem F8] at this
   simpa using this
  have ih:=a6z all B9 hf rest (i+1) (es.set i (T6 x)) hr (by simpa using hl) (fun j hj aQ=>by
   rw[List.getElem?_set_ne (by omega)]
   exact hz j (by omega) aQ)
  have he:i+1+rest.length=i+(rest.length+1):=by omega
  have I4:(es.set i (T6 x)).take (i+1)=es.take i++[T6 x]:=by
   rw[List.take_add_one,List.take_set_of_le (Nat.le_refl _)]
   simp[F8]
  rw[he,I4,List.append_assoc] at ih
  have g:=d0u x (hf x (by rw[←hc];exact List.getElem_mem _))
  refine D6 ?_ (by simpa only[List.length_cons,List.map_cons,List.singleton_append] using ih)
  simp (maxSteps:=1000000) +contextual -dsimp [f16,A1,hi,F8,hc,hw,K6,hl,g,List.set]
theorem d6r (l:List Step) (hl:l.length≤1048576) (hf:∀ x,x∈l→L5 x≤1048576):fo 16 [A (.sl 111 (l.map (sT 267)))]=some ⟨.own 124 (l.map T6),[],true⟩:=by
 have hm:(l.length:Int)≤(D0:Nat):=by unfold D0;omega
 have A4:=a6z l hl hf l 0 (List.replicate l.length [vI 0,vI 0,vS cU,vI 0,.own 219 [],.own 219 []]) rfl (by simp) (fun j _ hj=>by simp[hj])
 have F4:=uX l
 refine f0e (l.length+1) ?_
 simp -dsimp [f16] at A4
 simp (maxSteps:=1000000) +contextual -dsimp [f16,hm,A4,F4,aP,O6,List.set]
theorem f0c (x:List Step) (h:N4 x≤1048576):fo 183 [A (.agg (pT 111 267 x))]=some ⟨.agg (L1 x),[],true⟩:=by
 have g0:=d6r x (by simp only[N4,dW] at h;omega) (fun y hy=>by have:=Am hy;simp only[N4,dW] at h;omega)
 have s0:=uX x
 refine f2k 1 ?_
 simp (maxSteps:=1000000) +contextual -dsimp [f183,g0,s0,List.set]
theorem a6b (all:List (List Step)) (B9:all.length≤1048576) (hf:∀ x,x∈all→N4 x≤1048576):∀ (rest:List (List Step)) (i:Nat) (es:List (List T)),all.drop i=rest→es.length=all.length→(∀ j,i≤j→j<all.length→es[j]?=some [.own 124 []])→
  B7 E (orc E) (111:Nat) (rest.length+1) (C1 f111 0) ⟨23,[(0,.sl 225 (all.map (pT 111 267))),(3,.ref 3 1 [] 0 all.length),(4,vI i)],[(3,⟨1,1,false,[.own 160 es]⟩)],2⟩=
  some (.exit 0,⟨23,[(0,.sl 225 (all.map (pT 111 267))),(3,.ref 3 1 [] 0 all.length),(4,vI (i+rest.length:Nat)),(11,vB false)],[(3,⟨1,1,false,[.own 160 (es.take i++rest.map L1)]⟩)],2⟩)
 | [],i,es,h,hl,hz=>by
  have G5:all.length≤i:=by simpa using h
  have A1:A3 (i:Int) (all.length:Int)=false:=C9 (by omega)
  have ht:es.take i=es:=List.take_of_length_le (by omega)
  rw[D5]
  simp +contextual -dsimp [f111,A1,ht]
 | x::rest,i,es,h,hl,hz=>by
  obtain⟨hi,hc,hr⟩:=F6 h
  have A1:A3 (i:Int) (all.length:Int)=true:=F5 (by omega)
  have hw:IntKind.i64.wrap ((i:Int)+1)=((i+1:Nat):Int):=by rw[B6]<;>omega
  have F8:i<es.length:=by omega
  have K6:es[i]=[.own 124 []]:=by
   have:=hz i (Nat.le_refl _) hi
   rw[List.getElem?_eq_getElem F8] at this
   simpa using this
  have ih:=a6b all B9 hf rest (i+1) (es.set i (L1 x)) hr (by simpa using hl) (fun j hj aQ=>by
   rw[List.getElem?_set_ne (by omega)]
   exact hz j (by omega) aQ)
  have he:i+1+rest.length=i+(rest.length+1):=by omega
  have I4:(es.set i (L1 x)).take (i+1)=es.take i++[L1 x]:=by
   rw[List.take_add_one,List.take_set_of_le (Nat.le_refl _)]
   simp[F8]
  rw[he,I4,List.append_assoc] at ih
  have g:=f0c x (hf x (by rw[←hc];exact List.getElem_mem _))
  refine D6 ?_ (by simpa only[List.length_cons,List.map_cons,List.singleton_append] using ih)
  simp (maxSteps:=1000000) +contextual -dsimp [f111,A1,hi,F8,hc,hw,K6,hl,g,List.set]
theorem f3a (l:List (List Step)) (hl:l.length≤1048576) (hf:∀ x,x∈l→N4 x≤1048576):fo 111 [A (.sl 225 (l.map (pT 111 267)))]=some ⟨.own 160 (l.map L1),[],true⟩:=by
 have hm:(l.length:Int)≤(D0:Nat):=by unfold D0;omega
 have A4:=a6b l hl hf l 0 (List.replicate l.length [.own 124 []]) rfl (by simp) (fun j _ hj=>by simp[hj])
 have F4:=W5 l
 refine f0g (l.length+1) ?_
 simp -dsimp [f111] at A4
 simp (maxSteps:=1000000) +contextual -dsimp [f111,hm,A4,F4,aP,O6,List.set]
theorem d7y (x:Chart) (h:M3 x≤1048576):fo 243 [A (.agg (cT x))]=some ⟨.agg (d4e x),[],true⟩:=by
 have g2:=Ru x.vars (by simp only[M3] at h;omega)
 have s2:=dR x.vars
 have g3:=Ru x.acts (by simp only[M3] at h;omega)
 have s3:=dR x.acts
 have g4:=Ru x.dues (by simp only[M3] at h;omega)
 have s4:=dR x.dues
 refine d9q 1 ?_
 simp (maxSteps:=1000000) +contextual -dsimp [f243,g2,s2,g3,s3,g4,s4,List.set]
theorem e8j (x:Inst) (h:K9 x≤1048576):fo 184 [A (.agg (xT x))]=some ⟨.agg (P8 x),[],true⟩:=by
 have g1:=d7y x.chart (by simp only[K9] at h;omega)
 have s1vars:=dR x.chart.vars
 have s1acts:=dR x.chart.acts
 have s1dues:=dR x.chart.dues
 refine f3d 1 ?_
 simp (maxSteps:=1000000) +contextual -dsimp [f184,g1,s1vars,s1acts,s1dues,List.set]
theorem b9a (all:List Inst) (B9:all.length≤1048576) (hf:∀ x,x∈all→K9 x≤1048576):∀ (rest:List Inst) (i:Nat) (es:List (List T)),all.drop i=rest→es.length=all.length→(∀ j,i≤j→j<all.length→es[j]?=some [vI 0,vI 0,vI 0,.own 2 [],.own 2 [],.own 2 []])→
  B7 E (orc E) (112:Nat) (rest.length+1) (C1 f112 0) ⟨23,[(0,.sl 229 (all.map xT)),(3,.ref 3 1 [] 0 all.length),(4,vI i)],[(3,⟨1,1,false,[.own 163 es]⟩)],2⟩=
  some (.exit 0,⟨23,[(0,.sl 229 (all.map xT)),(3,.ref 3 1 [] 0 all.length),(4,vI (i+rest.length:Nat)),(11,vB false)],[(3,⟨1,1,false,[.own 163 (es.take i++rest.map P8)]⟩)],2⟩)
 | [],i,es,h,hl,hz=>by
  have G5:all.length≤i:=by simpa using h
  have A1:A3 (i:Int) (all.length:Int)=false:=C9 (by omega)
  have ht:es.take i=es:=List.take_of_length_le (by omega)
  rw[D5]
  simp +contextual -dsimp [f112,A1,ht]
 | x::rest,i,es,h,hl,hz=>by
  obtain⟨hi,hc,hr⟩:=F6 h
  have A1:A3 (i:Int) (all.length:Int)=true:=F5 (by omega)
  have hw:IntKind.i64.wrap ((i:Int)+1)=((i+1:Nat):Int):=by rw[B6]<;>omega
  have F8:i<es.length:=by omega
  have K6:es[i]=[vI 0,vI 0,vI 0,.own 2 [],.own 2 [],.own 2 []]:=by
   have:=hz i (Nat.le_refl _) hi
   rw[List.getElem?_eq_getElem F8] at this
   simpa using this
  have ih:=b9a all B9 hf rest (i+1) (es.set i (P8 x)) hr (by simpa using hl) (fun j hj aQ=>by
   rw[List.getElem?_set_ne (by omega)]
   exact hz j (by omega) aQ)
  have he:i+1+rest.length=i+(rest.length+1):=by omega
  have I4:(es.set i (P8 x)).take (i+1)=es.take i++[P8 x]:=by
   rw[List.take_add_one,List.take_set_of_le (Nat.le_refl _)]
   simp[F8]
  rw[he,I4,List.append_assoc] at ih
  have g:=e8j x (hf x (by rw[←hc];exact List.getElem_mem _))
  refine D6 ?_ (by simpa only[List.length_cons,List.map_cons,List.singleton_append] using ih)
  simp (maxSteps:=1000000) +contextual -dsimp [f112,A1,hi,F8,hc,hw,K6,hl,g,List.set]
theorem f0x (l:List Inst) (hl:l.length≤1048576) (hf:∀ x,x∈l→K9 x≤1048576):fo 112 [A (.sl 229 (l.map xT))]=some ⟨.own 163 (l.map P8),[],true⟩:=by
 have hm:(l.length:Int)≤(D0:Nat):=by unfold D0;omega
 have A4:=b9a l hl hf l 0 (List.replicate l.length [vI 0,vI 0,vI 0,.own 2 [],.own 2 [],.own 2 []]) rfl (by simp) (fun j _ hj=>by simp[hj])
 have F4:=V6 l
 refine e0z (l.length+1) ?_
 simp -dsimp [f112] at A4
 simp (maxSteps:=1000000) +contextual -dsimp [f112,hm,A4,F4,aP,O6,List.set]
theorem d2s (x:Claim):fo 176 [A (.agg (kT x))]=some ⟨.agg (kT x),[],true⟩:=by
 refine f2y 1 ?_
 simp (maxSteps:=1000000) +contextual -dsimp [f176,List.set]
theorem b2d (all:List Claim) (B9:all.length≤1048576):∀ (rest:List Claim) (i:Nat) (es:List (List T)),all.drop i=rest→es.length=all.length→(∀ j,i≤j→j<all.length→es[j]?=some [vI 0,vI 0,vI 0])→
  B7 E (orc E) (98:Nat) (rest.length+1) (C1 f98 0) ⟨23,[(0,.sl 222 (all.map kT)),(3,.ref 3 1 [] 0 all.length),(4,vI i)],[(3,⟨1,1,false,[.own 150 es]⟩)],2⟩=
  some (.exit 0,⟨23,[(0,.sl 222 (all.map kT)),(3,.ref 3 1 [] 0 all.length),(4,vI (i+rest.length:Nat)),(11,vB false)],[(3,⟨1,1,false,[.own 150 (es.take i++rest.map kT)]⟩)],2⟩)
 | [],i,es,h,hl,hz=>by
  have G5:all.length≤i:=by simpa using h
  have A1:A3 (i:Int) (all.length:Int)=false:=C9 (by omega)
  have ht:es.take i=es:=List.take_of_length_le (by omega)
  rw[D5]
  simp +contextual -dsimp [f98,A1,ht]
 | x::rest,i,es,h,hl,hz=>by
  obtain⟨hi,hc,hr⟩:=F6 h
  have A1:A3 (i:Int) (all.length:Int)=true:=F5 (by omega)
  have hw:IntKind.i64.wrap ((i:Int)+1)=((i+1:Nat):Int):=by rw[B6]<;>omega
  have F8:i<es.length:=by omega
  have K6:es[i]=[vI 0,vI 0,vI 0]:=by
   have:=hz i (Nat.le_refl _) hi
   rw[List.getElem?_eq_getElem F8] at this
   simpa using this
  have ih:=b2d all B9 rest (i+1) (es.set i (kT x)) hr (by simpa using hl) (fun j hj aQ=>by
   rw[List.getElem?_set_ne (by omega)]
   exact hz j (by omega) aQ)
  have he:i+1+rest.length=i+(rest.length+1):=by omega
  have I4:(es.set i (kT x)).take (i+1)=es.take i++[kT x]:=by
   rw[List.take_add_one,List.take_set_of_le (Nat.le_refl _)]
   simp[F8]
  rw[he,I4,List.append_assoc] at ih
  have g:=d2s x
  refine D6 ?_ (by simpa only[List.length_cons,List.map_cons,List.singleton_append] using ih)
  simp (maxSteps:=1000000) +contextual -dsimp [f98,A1,hi,F8,hc,hw,K6,hl,g,List.set]
theorem e8n (l:List Claim) (hl:l.length≤1048576):fo 98 [A (.sl 222 (l.map kT))]=some ⟨.own 150 (l.map kT),[],true⟩:=by
 have hm:(l.length:Int)≤(D0:Nat):=by unfold D0;omega
 have A4:=b2d l hl l 0 (List.replicate l.length [vI 0,vI 0,vI 0]) rfl (by simp) (fun j _ hj=>by simp[hj])
 have F4:=hC l
 refine d0n (l.length+1) ?_
 simp -dsimp [f98] at A4
 simp (maxSteps:=1000000) +contextual -dsimp [f98,hm,A4,F4,aP,O6,List.set]
theorem d0q (x:Engine) (h:H6 x≤1048576):fo 40 [A (.agg (Jp x))]=some ⟨.agg (uY x),[],true⟩:=by
 have g0:=f3a x.procs (by simp only[H6,Z9] at h;omega) (fun y hy=>by have:=Az hy;simp only[H6,Z9] at h;omega)
 have s0:=W5 x.procs
 have g1:=f0x x.insts (by simp only[H6,X6] at h;omega) (fun y hy=>by have:=Aj hy;simp only[H6,X6] at h;omega)
 have s1:=V6 x.insts
 refine d2v 1 ?_
 simp (maxSteps:=1000000) +contextual -dsimp [f40,g0,s0,g1,s1,List.set]
theorem e5f (x:Desk) (h:P3 x≤1048576):fo 31 [A (.agg (zJ x))]=some ⟨.agg (b8l x),[],true⟩:=by
 have g0:=d0q x.eng (by simp only[P3] at h;omega)
 have s0procs:=W5 x.eng.procs
 have s0insts:=V6 x.eng.insts
 have g1:=e8n x.claims (by simp only[P3] at h;omega)
 have s1:=hC x.claims
 refine e7o 1 ?_
 simp (maxSteps:=1000000) +contextual -dsimp [f31,g0,s0procs,s0insts,g1,s1,List.set]
end Go.TM.Ft
namespace Go.TM.Ft
open Go Go.TM Go.Proofs Go.Proofs.Tryz
set_option maxRecDepth 20000
attribute [local congr] O3
attribute [local simp] L9 M4 K0 L6 J6 L4 J8 J1 K5 I6
theorem d9w (x:DeskR) (h:hJ x≤2097152):fo 33 [A (.agg (Cf x)),A (.agg (Cf x))]=some (R (vB true)):=by
 have g2:=a4l x.desk (by simp only[hJ] at h;omega)
 refine e2f 1 ?_
 simp (maxSteps:=1000000) +contextual -dsimp [f33,D2,qU,g2,List.set]
end Go.TM.Ft
namespace Go.TM.Ft
open Go Go.TM Go.Proofs Go.Proofs.Tryz
theorem d6p (l:List Node):T8 l=4*l.length:=by
 induction l with
 | nil=>rfl
 | cons x l ih=>rw[xM,ih];simp only[kA,List.length_cons];omega
theorem d5a (x:Step):iQ x≤4+4*L5 x:=by
 simp only[iQ,d6p,L5];omega
theorem f0z (l:List Step):W7 l≤4*dW l:=by
 have:W7 l≤4*l.length+4*V7 l:=by
  induction l with
  | nil=>exact Nat.zero_le _
  | cons x l ih=>rw[Bg];have:=d5a x;simp only[V7,List.length_cons];omega
 simp only[dW];omega
theorem e4u (l:List (List Step)):V4 l≤4*Z9 l:=by
 have:V4 l≤4*U4 l:=by
  induction l with
  | nil=>exact Nat.zero_le _
  | cons x l ih=>rw[Af];have:=f0z x;simp only[U4,jZ,N4];omega
 simp only[Z9];omega
theorem e7r (l:List Inst):Y0 l≤3*X6 l:=by
 have:Y0 l≤3*l.length+3*N1 l:=by
  induction l with
  | nil=>exact Nat.zero_le _
  | cons x l ih=>rw[Br];simp only[N1,jO,K9,M3,Q0,List.length_cons];omega
 simp only[X6];omega
theorem e1f (l:List Claim):Z4 l=3*l.length:=by
 induction l with
 | nil=>rfl
 | cons x l ih=>rw[Bm,ih];simp only[jC,List.length_cons];omega
theorem f1e (x:Engine):dX x≤4*H6 x:=by
 have h1:=e4u x.procs
 have h2:=e7r x.insts
 simp only[dX,H6];omega
theorem c1f (x:Desk):cV x≤4*P3 x:=by
 have h1:=f1e x.eng
 have h2:=e1f x.claims
 simp only[cV,P3];omega
end Go.TM.Ft
