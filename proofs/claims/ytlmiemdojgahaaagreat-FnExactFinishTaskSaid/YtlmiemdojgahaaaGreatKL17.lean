/- What functions of the program come to, by the machine. -/
import Derived.Test.YtlmiemdojgahaaaGreatKL16
set_option linter.unusedSimpArgs false
set_option linter.unusedVariables false
set_option maxHeartbeats 4000000
namespace Go.TM.Ft
open Go Go.TM Go.Proofs Go.Proofs.Tryz
set_option maxRecDepth 20000
attribute [local congr] M0
attribute [local simp] K2 K6 J4 K3 H7 J9 H8 G9 J1 G3
theorem f5z (all:List Int) (hall:all.length≤2097152):∀ (rest:List Int) (i:Nat) (k:Int),all.drop i=G6 k rest→0≤k→k+(K0 rest:Nat) < 2 ^ 60→
  A6 E (orc E) (89:Nat) (rest.length+1) (A8 f89 0) ⟨21,[(0,.sl 2 (all.map iV)),(1,vI k),(5,vI i)],[],2⟩=
  some (.exit 0,⟨21,[(0,.sl 2 (all.map iV)),(1,vI (k+(K0 rest:Nat))),(5,vI (i+rest.length:Nat)),(9,vB false)],[],2⟩)
 | [],i,k,h,h0,h1=>by
  have hge:all.length≤i:=by simpa[G6] using h
  have hlt:ltI (i:Int) (all.length:Int)=false:=B6 (by omega);rw[C3];simp +contextual -dsimp [f89,hlt,d4r]
 | x::rest,i,k,h,h0,h1=>by
  rw[b6x] at h1;have he:i+1+rest.length=i+(rest.length+1):=by omega
  obtain ⟨k1,e1⟩:∃ z,z=k+1:=⟨_,rfl⟩;have w0:IntKind.i64.wrap (k+1)=k1:=by rw[e1,A5] <;> omega
  have hk:k1+(K0 rest:Nat)=k+(K0 (x::rest):Nat):=by rw[b6x];omega
  have hm:G6 k (x::rest)=k::G6 k1 rest:=by rw[e1];rfl
  rw[hm] at h;obtain ⟨hi,hc,hr⟩:=C6 h;have hlt:ltI (i:Int) (all.length:Int)=true:=C4 (by omega);have hw:IntKind.i64.wrap ((i:Int)+1)=((i+1:Nat):Int):=by rw[A5] <;> omega
  have ih:=f5z all hall rest (i+1) k1 hr (by omega) (by omega);rw[hk,he] at ih;refine C1 ?_ (by simpa only[List.length_cons] using ih);simp (maxSteps:=1000000) +contextual -dsimp [f89,hlt,hi,hc,hw,B7,a8y,w0,List.set]
theorem d4t:∀ (l:List Int) (k:Int),(G6 k l).length=l.length
 | [],_=>rfl
 | x::l,k=>by simp only[G6,List.length_cons,d4t l]
theorem c1a (l:List Int) (k:Int) (h0:0≤k) (h1:k+(K0 l:Nat) < 2 ^ 60) (hn:l.length≤2097152):fo 89 [A (.sl 2 ((G6 k l).map iV)),A (vI k)]=some (R (vI (k+(K0 l:Nat)))):=by
 have hlp:=f5z (G6 k l) (by rw[d4t];exact hn) l 0 k rfl h0 h1;refine i3p (l.length+1) ?_;generalize k+(K0 l:Nat)=k' at *;generalize G6 k l=l' at *;simp -dsimp [f89] at hlp;simp (maxSteps:=1000000) +contextual -dsimp [f89,hlp,List.set]
theorem e1k (all:List Node) (hall:all.length≤2097152):∀ (rest:List Node) (i:Nat) (k:Int),all.drop i=J6 k rest→0≤k→k+(N2 rest:Nat) < 2 ^ 60→
  A6 E (orc E) (286:Nat) (rest.length+1) (A8 f286 0) ⟨49,[(0,.sl 219 (all.map nT)),(1,vI k),(5,vI i)],[],2⟩=
  some (.exit 0,⟨49,[(0,.sl 219 (all.map nT)),(1,vI (k+(N2 rest:Nat))),(5,vI (i+rest.length:Nat)),(9,vB false)],[],2⟩)
 | [],i,k,h,h0,h1=>by
  have hge:all.length≤i:=by simpa[J6] using h
  have hlt:ltI (i:Int) (all.length:Int)=false:=B6 (by omega);rw[C3];simp +contextual -dsimp [f286,hlt,d3e]
 | x::rest,i,k,h,h0,h1=>by
  rw[b4d] at h1;have he:i+1+rest.length=i+(rest.length+1):=by omega
  simp only[a4m] at h1;obtain ⟨k1,e1⟩:∃ z,z=k+1:=⟨_,rfl⟩;have w0:IntKind.i64.wrap (k+1)=k1:=by rw[e1,A5] <;> omega
  obtain ⟨k2,e2⟩:∃ z,z=k1+1:=⟨_,rfl⟩;have w1:IntKind.i64.wrap (k1+1)=k2:=by rw[e2,A5] <;> omega
  obtain ⟨k3,e3⟩:∃ z,z=k2+1:=⟨_,rfl⟩;have w2:IntKind.i64.wrap (k2+1)=k3:=by rw[e3,A5] <;> omega
  obtain ⟨k4,e4⟩:∃ z,z=k3+1:=⟨_,rfl⟩;have w3:IntKind.i64.wrap (k3+1)=k4:=by rw[e4,A5] <;> omega
  have hk:k4+(N2 rest:Nat)=k+(N2 (x::rest):Nat):=by rw[b4d];simp only[a4m];omega
  have hm:J6 k (x::rest)=({ kind:=k,value:=k1,left:=k2,right:=k3 }:Node)::J6 k4 rest:=by
   have e:k4=k+(a4m x:Nat):=by simp only[a4m];omega
   have e2:c8d k x=({ kind:=k,value:=k1,left:=k2,right:=k3 }:Node):=by subst_vars;rfl
   simp only[J6];rw[e2,e]
  rw[hm] at h;obtain ⟨hi,hc,hr⟩:=C6 h;have hlt:ltI (i:Int) (all.length:Int)=true:=C4 (by omega);have hw:IntKind.i64.wrap ((i:Int)+1)=((i+1:Nat):Int):=by rw[A5] <;> omega
  have ih:=e1k all hall rest (i+1) k4 hr (by omega) (by omega);rw[hk,he] at ih;refine C1 ?_ (by simpa only[List.length_cons] using ih);simp (maxSteps:=1000000) +contextual -dsimp [f286,hlt,hi,hc,hw,B7,a8y,w0,w1,w2,w3,List.set]
theorem d3j:∀ (l:List Node) (k:Int),(J6 k l).length=l.length
 | [],_=>rfl
 | x::l,k=>by simp only[J6,List.length_cons,d3j l]
theorem d3k (l:List Node) (k:Int) (h0:0≤k) (h1:k+(N2 l:Nat) < 2 ^ 60) (hn:l.length≤2097152):fo 286 [A (.sl 219 ((J6 k l).map nT)),A (vI k)]=some (R (vI (k+(N2 l:Nat)))):=by
 have hlp:=e1k (J6 k l) (by rw[d3j];exact hn) l 0 k rfl h0 h1;refine i0i (l.length+1) ?_;generalize k+(N2 l:Nat)=k' at *;generalize J6 k l=l' at *;simp -dsimp [f286] at hlp;simp (maxSteps:=1000000) +contextual -dsimp [f286,hlp,List.set]
theorem e1l (all:List Step) (hall:all.length≤2097152):∀ (rest:List Step) (i:Nat) (k:Int),all.drop i=M6 k rest→(∀ x,x∈rest→H0 x≤2097152)→0≤k→k+(P3 rest:Nat) < 2 ^ 60→
  A6 E (orc E) (247:Nat) (rest.length+1) (A8 f247 0) ⟨68,[(0,.sl 124 (all.map (sT 219))),(1,vI k),(5,vI i)],[],2⟩=
  some (.exit 0,⟨68,[(0,.sl 124 (all.map (sT 219))),(1,vI (k+(P3 rest:Nat))),(5,vI (i+rest.length:Nat)),(9,vB false)],[],2⟩)
 | [],i,k,h,hf,h0,h1=>by
  have hge:all.length≤i:=by simpa[M6] using h
  have hlt:ltI (i:Int) (all.length:Int)=false:=B6 (by omega);rw[C3];simp +contextual -dsimp [f247,hlt,d3f]
 | x::rest,i,k,h,hf,h0,h1=>by
  have hx:=hf x (by simp);rw[b4e] at h1;have he:i+1+rest.length=i+(rest.length+1):=by omega
  simp only[a3t] at h1;obtain ⟨k1,e1⟩:∃ z,z=k+1:=⟨_,rfl⟩;have w0:IntKind.i64.wrap (k+1)=k1:=by rw[e1,A5] <;> omega
  obtain ⟨k2,e2⟩:∃ z,z=k1+1:=⟨_,rfl⟩;have w1:IntKind.i64.wrap (k1+1)=k2:=by rw[e2,A5] <;> omega
  obtain ⟨k3,e3⟩:∃ z,z=k2+1:=⟨_,rfl⟩;have w2:IntKind.i64.wrap (k2+1)=k3:=by rw[e3,A5] <;> omega
  have g2:=d4q k2 (by omega) (by omega);obtain ⟨k4,e4⟩:∃ z,z=k3+1:=⟨_,rfl⟩;have w3:IntKind.i64.wrap (k3+1)=k4:=by rw[e4,A5] <;> omega
  obtain ⟨k5,e5⟩:∃ z,z=k4+(N2 x.cond:Nat):=⟨_,rfl⟩;have g4:=d3k x.cond k4 (by omega) (by omega) (by simp only[H0] at hx;omega);have n4:ltI k5 0=false:=B6 (by omega);rw[← e5] at g4;obtain ⟨k6,e6⟩:∃ z,z=k5+(N2 x.expr:Nat):=⟨_,rfl⟩;have g5:=d3k x.expr k5 (by omega) (by omega) (by simp only[H0] at hx;omega);have n5:ltI k6 0=false:=B6 (by omega);rw[← e6] at g5;have hk:k6+(P3 rest:Nat)=k+(P3 (x::rest):Nat):=by rw[b4e];simp only[a3t];omega
  have hm:M6 k (x::rest)=({ kind:=k,parent:=k1,name:=a7f k2,arg:=k3,cond:=J6 k4 x.cond,expr:=J6 k5 x.expr }:Step)::M6 k6 rest:=by
   have e:k6=k+(a3t x:Nat):=by simp only[a3t];omega
   have e2:c8e k x=({ kind:=k,parent:=k1,name:=a7f k2,arg:=k3,cond:=J6 k4 x.cond,expr:=J6 k5 x.expr }:Step):=by subst_vars;rfl
   simp only[M6];rw[e2,e]
  rw[hm] at h;obtain ⟨hi,hc,hr⟩:=C6 h;have hlt:ltI (i:Int) (all.length:Int)=true:=C4 (by omega);have hw:IntKind.i64.wrap ((i:Int)+1)=((i+1:Nat):Int):=by rw[A5] <;> omega
  have ih:=e1l all hall rest (i+1) k6 hr (fun y hy=>hf y (by simp[hy])) (by omega) (by omega);rw[hk,he] at ih;refine C1 ?_ (by simpa only[List.length_cons] using ih);simp (maxSteps:=1000000) +contextual -dsimp [f247,hlt,hi,hc,hw,B7,a8y,w0,w1,w2,g2,w3,n4,g4,n5,g5,List.set]
theorem d3l:∀ (l:List Step) (k:Int),(M6 k l).length=l.length
 | [],_=>rfl
 | x::l,k=>by simp only[M6,List.length_cons,d3l l]
theorem g5z (l:List Step) (k:Int) (h0:0≤k) (h1:k+(P3 l:Nat) < 2 ^ 60) (hn:l.length≤2097152) (hf:∀ x,x∈l→H0 x≤2097152):fo 247 [A (.sl 124 ((M6 k l).map (sT 219))),A (vI k)]=some (R (vI (k+(P3 l:Nat)))):=by
 have hlp:=e1l (M6 k l) (by rw[d3l];exact hn) l 0 k rfl hf h0 h1;refine h9h (l.length+1) ?_;generalize k+(P3 l:Nat)=k' at *;generalize M6 k l=l' at *;simp -dsimp [f247] at hlp;simp (maxSteps:=1000000) +contextual -dsimp [f247,hlp,List.set]
theorem e1m (all:List (List Step)) (hall:all.length≤2097152):∀ (rest:List (List Step)) (i:Nat) (k:Int),all.drop i=Q5 k rest→(∀ x,x∈rest→J5 x≤2097152)→0≤k→k+(P0 rest:Nat) < 2 ^ 60→
  A6 E (orc E) (191:Nat) (rest.length+1) (A8 f191 0) ⟨22,[(0,.sl 160 (all.map (pT 124 219))),(1,vI k),(5,vI i)],[],2⟩=
  some (.exit 0,⟨22,[(0,.sl 160 (all.map (pT 124 219))),(1,vI (k+(P0 rest:Nat))),(5,vI (i+rest.length:Nat)),(9,vB false)],[],2⟩)
 | [],i,k,h,hf,h0,h1=>by
  have hge:all.length≤i:=by simpa[Q5] using h
  have hlt:ltI (i:Int) (all.length:Int)=false:=B6 (by omega);rw[C3];simp +contextual -dsimp [f191,hlt,d3g]
 | x::rest,i,k,h,hf,h0,h1=>by
  have hx:=hf x (by simp);rw[b4f] at h1;have he:i+1+rest.length=i+(rest.length+1):=by omega
  simp only[a4n] at h1;obtain ⟨k1,e1⟩:∃ z,z=k+(P3 x:Nat):=⟨_,rfl⟩;have g0:=g5z x k (by omega) (by omega) (by simp only[J5,a1z] at hx;omega) (fun y hy=>by have:=b4j hy;simp only[J5,a1z] at hx;omega)
  have n0:ltI k1 0=false:=B6 (by omega);rw[← e1] at g0;have hk:k1+(P0 rest:Nat)=k+(P0 (x::rest):Nat):=by rw[b4f];simp only[a4n];omega
  have hm:Q5 k (x::rest)=(M6 k x:List Step)::Q5 k1 rest:=by
   have e:k1=k+(a4n x:Nat):=by simp only[a4n];omega
   have e2:c8f k x=(M6 k x:List Step):=by subst_vars;rfl
   simp only[Q5];rw[e2,e]
  rw[hm] at h;obtain ⟨hi,hc,hr⟩:=C6 h;have hlt:ltI (i:Int) (all.length:Int)=true:=C4 (by omega);have hw:IntKind.i64.wrap ((i:Int)+1)=((i+1:Nat):Int):=by rw[A5] <;> omega
  have ih:=e1m all hall rest (i+1) k1 hr (fun y hy=>hf y (by simp[hy])) (by omega) (by omega);rw[hk,he] at ih;refine C1 ?_ (by simpa only[List.length_cons] using ih);simp (maxSteps:=1000000) +contextual -dsimp [f191,hlt,hi,hc,hw,B7,a8y,n0,g0,List.set]
theorem d3m:∀ (l:List (List Step)) (k:Int),(Q5 k l).length=l.length
 | [],_=>rfl
 | x::l,k=>by simp only[Q5,List.length_cons,d3m l]
theorem g6a (l:List (List Step)) (k:Int) (h0:0≤k) (h1:k+(P0 l:Nat) < 2 ^ 60) (hn:l.length≤2097152) (hf:∀ x,x∈l→J5 x≤2097152):fo 191 [A (.sl 160 ((Q5 k l).map (pT 124 219))),A (vI k)]=some (R (vI (k+(P0 l:Nat)))):=by
 have hlp:=e1m (Q5 k l) (by rw[d3m];exact hn) l 0 k rfl hf h0 h1;refine h7x (l.length+1) ?_;generalize k+(P0 l:Nat)=k' at *;generalize Q5 k l=l' at *;simp -dsimp [f191] at hlp;simp (maxSteps:=1000000) +contextual -dsimp [f191,hlp,List.set]
theorem e1n (all:List Inst) (hall:all.length≤2097152):∀ (rest:List Inst) (i:Nat) (k:Int),all.drop i=Q6 k rest→(∀ x,x∈rest→H9 x≤2097152)→0≤k→k+(P4 rest:Nat) < 2 ^ 60→
  A6 E (orc E) (192:Nat) (rest.length+1) (A8 f192 0) ⟨72,[(0,.sl 163 (all.map xT)),(1,vI k),(5,vI i)],[],2⟩=
  some (.exit 0,⟨72,[(0,.sl 163 (all.map xT)),(1,vI (k+(P4 rest:Nat))),(5,vI (i+rest.length:Nat)),(9,vB false)],[],2⟩)
 | [],i,k,h,hf,h0,h1=>by
  have hge:all.length≤i:=by simpa[Q6] using h
  have hlt:ltI (i:Int) (all.length:Int)=false:=B6 (by omega);rw[C3];simp +contextual -dsimp [f192,hlt,d3h]
 | x::rest,i,k,h,hf,h0,h1=>by
  have hx:=hf x (by simp);rw[b4g] at h1;have he:i+1+rest.length=i+(rest.length+1):=by omega
  simp only[a4o] at h1;obtain ⟨k1,e1⟩:∃ z,z=k+1:=⟨_,rfl⟩;have w0:IntKind.i64.wrap (k+1)=k1:=by rw[e1,A5] <;> omega
  obtain ⟨k2,e2⟩:∃ z,z=k1+1:=⟨_,rfl⟩;have w1:IntKind.i64.wrap (k1+1)=k2:=by rw[e2,A5] <;> omega
  obtain ⟨k3,e3⟩:∃ z,z=k2+1:=⟨_,rfl⟩;have w2:IntKind.i64.wrap (k2+1)=k3:=by rw[e3,A5] <;> omega
  obtain ⟨k4,e4⟩:∃ z,z=k3+(K0 x.chart.vars:Nat):=⟨_,rfl⟩;have g3:=c1a x.chart.vars k3 (by omega) (by omega) (by simp only[H9,J2] at hx;omega);have n3:ltI k4 0=false:=B6 (by omega);rw[← e4] at g3;obtain ⟨k5,e5⟩:∃ z,z=k4+(K0 x.chart.acts:Nat):=⟨_,rfl⟩;have g4:=c1a x.chart.acts k4 (by omega) (by omega) (by simp only[H9,J2] at hx;omega);have n4:ltI k5 0=false:=B6 (by omega);rw[← e5] at g4;obtain ⟨k6,e6⟩:∃ z,z=k5+(K0 x.chart.dues:Nat):=⟨_,rfl⟩;have g5:=c1a x.chart.dues k5 (by omega) (by omega) (by simp only[H9,J2] at hx;omega);have n5:ltI k6 0=false:=B6 (by omega);rw[← e6] at g5;have hk:k6+(P4 rest:Nat)=k+(P4 (x::rest):Nat):=by rw[b4g];simp only[a4o];omega
  have hm:Q6 k (x::rest)=({ proc:=k,chart:={ status:=k1,now:=k2,vars:=G6 k3 x.chart.vars,acts:=G6 k4 x.chart.acts,dues:=G6 k5 x.chart.dues } }:Inst)::Q6 k6 rest:=by
   have e:k6=k+(a4o x:Nat):=by simp only[a4o];omega
   have e2:c8g k x=({ proc:=k,chart:={ status:=k1,now:=k2,vars:=G6 k3 x.chart.vars,acts:=G6 k4 x.chart.acts,dues:=G6 k5 x.chart.dues } }:Inst):=by subst_vars;rfl
   simp only[Q6];rw[e2,e]
  rw[hm] at h;obtain ⟨hi,hc,hr⟩:=C6 h;have hlt:ltI (i:Int) (all.length:Int)=true:=C4 (by omega);have hw:IntKind.i64.wrap ((i:Int)+1)=((i+1:Nat):Int):=by rw[A5] <;> omega
  have ih:=e1n all hall rest (i+1) k6 hr (fun y hy=>hf y (by simp[hy])) (by omega) (by omega);rw[hk,he] at ih;refine C1 ?_ (by simpa only[List.length_cons] using ih);simp (maxSteps:=1000000) +contextual -dsimp [f192,hlt,hi,hc,hw,B7,a8y,w0,w1,w2,n3,g3,n4,g4,n5,g5,List.set]
theorem d3n:∀ (l:List Inst) (k:Int),(Q6 k l).length=l.length
 | [],_=>rfl
 | x::l,k=>by simp only[Q6,List.length_cons,d3n l]
theorem g6b (l:List Inst) (k:Int) (h0:0≤k) (h1:k+(P4 l:Nat) < 2 ^ 60) (hn:l.length≤2097152) (hf:∀ x,x∈l→H9 x≤2097152):fo 192 [A (.sl 163 ((Q6 k l).map xT)),A (vI k)]=some (R (vI (k+(P4 l:Nat)))):=by
 have hlp:=e1n (Q6 k l) (by rw[d3n];exact hn) l 0 k rfl hf h0 h1;refine h7y (l.length+1) ?_;generalize k+(P4 l:Nat)=k' at *;generalize Q6 k l=l' at *;simp -dsimp [f192] at hlp;simp (maxSteps:=1000000) +contextual -dsimp [f192,hlp,List.set]
theorem d6y (all:List Claim) (hall:all.length≤2097152):∀ (rest:List Claim) (i:Nat) (k:Int),all.drop i=Q2 k rest→0≤k→k+(Q0 rest:Nat) < 2 ^ 60→
  A6 E (orc E) (178:Nat) (rest.length+1) (A8 f178 0) ⟨40,[(0,.sl 150 (all.map kT)),(1,vI k),(5,vI i)],[],2⟩=
  some (.exit 0,⟨40,[(0,.sl 150 (all.map kT)),(1,vI (k+(Q0 rest:Nat))),(5,vI (i+rest.length:Nat)),(9,vB false)],[],2⟩)
 | [],i,k,h,h0,h1=>by
  have hge:all.length≤i:=by simpa[Q2] using h
  have hlt:ltI (i:Int) (all.length:Int)=false:=B6 (by omega);rw[C3];simp +contextual -dsimp [f178,hlt,d1z]
 | x::rest,i,k,h,h0,h1=>by
  rw[b3y] at h1;have he:i+1+rest.length=i+(rest.length+1):=by omega
  simp only[a4i] at h1;obtain ⟨k1,e1⟩:∃ z,z=k+1:=⟨_,rfl⟩;have w0:IntKind.i64.wrap (k+1)=k1:=by rw[e1,A5] <;> omega
  obtain ⟨k2,e2⟩:∃ z,z=k1+1:=⟨_,rfl⟩;have w1:IntKind.i64.wrap (k1+1)=k2:=by rw[e2,A5] <;> omega
  obtain ⟨k3,e3⟩:∃ z,z=k2+1:=⟨_,rfl⟩;have w2:IntKind.i64.wrap (k2+1)=k3:=by rw[e3,A5] <;> omega
  have hk:k3+(Q0 rest:Nat)=k+(Q0 (x::rest):Nat):=by rw[b3y];simp only[a4i];omega
  have hm:Q2 k (x::rest)=({ inst:=k,step:=k1,user:=k2 }:Claim)::Q2 k3 rest:=by
   have e:k3=k+(a4i x:Nat):=by simp only[a4i];omega
   have e2:c7k k x=({ inst:=k,step:=k1,user:=k2 }:Claim):=by subst_vars;rfl
   simp only[Q2];rw[e2,e]
  rw[hm] at h;obtain ⟨hi,hc,hr⟩:=C6 h;have hlt:ltI (i:Int) (all.length:Int)=true:=C4 (by omega);have hw:IntKind.i64.wrap ((i:Int)+1)=((i+1:Nat):Int):=by rw[A5] <;> omega
  have ih:=d6y all hall rest (i+1) k3 hr (by omega) (by omega);rw[hk,he] at ih;refine C1 ?_ (by simpa only[List.length_cons] using ih);simp (maxSteps:=1000000) +contextual -dsimp [f178,hlt,hi,hc,hw,B7,a8y,w0,w1,w2,List.set]
theorem d2a:∀ (l:List Claim) (k:Int),(Q2 k l).length=l.length
 | [],_=>rfl
 | x::l,k=>by simp only[Q2,List.length_cons,d2a l]
theorem g4z (l:List Claim) (k:Int) (h0:0≤k) (h1:k+(Q0 l:Nat) < 2 ^ 60) (hn:l.length≤2097152):fo 178 [A (.sl 150 ((Q2 k l).map kT)),A (vI k)]=some (R (vI (k+(Q0 l:Nat)))):=by
 have hlp:=d6y (Q2 k l) (by rw[d2a];exact hn) l 0 k rfl h0 h1;refine h7m (l.length+1) ?_;generalize k+(Q0 l:Nat)=k' at *;generalize Q2 k l=l' at *;simp -dsimp [f178] at hlp;simp (maxSteps:=1000000) +contextual -dsimp [f178,hlp,List.set]
theorem g5a (x:Engine) (k:Int) (h0:0≤k) (h1:k+(a1u x:Nat) < 2 ^ 59) (hx:D8 x≤2097152):fo 121 [A (.agg (eT (b0j k x))),A (vI k)]=some (R (vI (k+(a1u x:Nat)))):=by
 simp only[a1u] at h1;obtain ⟨k1,e1⟩:∃ z,z=k+(P0 x.procs:Nat):=⟨_,rfl⟩;have g0:=g6a x.procs k (by omega) (by omega) (by simp only[D8,Q7] at hx;omega) (fun y hy=>by have:=b4k hy;simp only[D8,Q7] at hx;omega)
 rw[← e1] at g0;have n0:ltI k1 0=false:=B6 (by omega);obtain ⟨k2,e2⟩:∃ z,z=k1+(P4 x.insts:Nat):=⟨_,rfl⟩;have g1:=g6b x.insts k1 (by omega) (by omega) (by simp only[D8,U8] at hx;omega) (fun y hy=>by have:=b4l hy;simp only[D8,U8] at hx;omega)
 rw[← e2] at g1;have n1:ltI k2 0=false:=B6 (by omega);have hk:k+(a1u x:Nat)=k2:=by simp only[a1u];omega
 have hm:b0j k x={ x with procs:=Q5 k x.procs,insts:=Q6 k1 x.insts }:=by subst_vars;rfl
 rw[hk,hm];refine h6o 1 ?_;simp (maxSteps:=1000000) +contextual -dsimp [f121,g0,n0,g1,n1,List.set]
theorem g7q (x:Desk) (k:Int) (h0:0≤k) (h1:k+(a0p x:Nat) < 2 ^ 59) (hx:K9 x≤2097152):fo 104 [A (.agg (dT (a9j k x))),A (vI k)]=some (R (vI (k+(a0p x:Nat)))):=by
 simp only[a0p] at h1;obtain ⟨k1,e1⟩:∃ z,z=k+(a1u x.eng:Nat):=⟨_,rfl⟩;have g0:=g5a x.eng k (by omega) (by omega) (by simp only[K9] at hx;omega);rw[← e1] at g0;have n0:ltI k1 0=false:=B6 (by omega);obtain ⟨k2,e2⟩:∃ z,z=k1+(Q0 x.claims:Nat):=⟨_,rfl⟩;have g1:=g4z x.claims k1 (by omega) (by omega) (by simp only[K9,D8] at hx;omega);rw[← e2] at g1;have n1:ltI k2 0=false:=B6 (by omega);have hk:k+(a0p x:Nat)=k2:=by simp only[a0p];omega
 have hm:a9j k x={ x with eng:=b0j k x.eng,claims:=Q2 k1 x.claims }:=by subst_vars;rfl
 rw[hk,hm];refine h5x 1 ?_;simp (maxSteps:=1000000) +contextual -dsimp [f104,g0,n0,g1,n1,List.set]
theorem g3o (x:DeskR) (k:Int) (h0:0≤k) (h1:k+(a2s x:Nat) < 2 ^ 59) (hx:a3o x≤2097152):fo 37 [A (.agg (drT (a7i k x))),A (vI k)]=some (R (vI (k+(a2s x:Nat)))):=by
 simp only[a2s] at h1;obtain ⟨k1,e1⟩:∃ z,z=k+(a0p x.desk:Nat):=⟨_,rfl⟩;have g0:=g7q x.desk k (by omega) (by omega) (by simp only[a3o] at hx;omega);rw[← e1] at g0;have n0:ltI k1 0=false:=B6 (by omega);have hk:k+(a2s x:Nat)=k1:=by simp only[a2s];omega
 have hm:a7i k x={ x with desk:=a9j k x.desk }:=by subst_vars;rfl
 rw[hk,hm];refine i3f 1 ?_;simp (maxSteps:=1000000) +contextual -dsimp [f37,g0,n0,List.set]
attribute [local simp] b1i b9x c7t
abbrev zI:List T:=[vI 0]
theorem e1o (all:List Int) (hall:all.length≤1048576):∀ (rest:List Int) (i:Nat) (es:List (List T)),all.drop i=rest→es.length=all.length→(∀ j,i≤j→j < all.length→es[j]?=some zI)→
  A6 E (orc E) (17:Nat) (rest.length+1) (A8 f17 0) ⟨22,[(0,.sl 2 (all.map iV)),(3,.ref 3 1 [] 0 all.length),(4,vI i)],[(3,⟨1,1,false,[.own 2 es]⟩)],2⟩=
  some (.exit 0,⟨22,[(0,.sl 2 (all.map iV)),(3,.ref 3 1 [] 0 all.length),(4,vI (i+rest.length:Nat)),(11,vB false)],[(3,⟨1,1,false,[.own 2 (es.take i++rest.map iV)]⟩)],2⟩)
 | [],i,es,h,hl,hz=>by
  have hge:all.length≤i:=by simpa using h
  have hlt:ltI (i:Int) (all.length:Int)=false:=B6 (by omega);have ht:es.take i=es:=List.take_of_length_le (by omega);rw[C3];simp +contextual -dsimp [f17,hlt,ht]
 | x::rest,i,es,h,hl,hz=>by
  obtain ⟨hi,hc,hr⟩:=C6 h;have hlt:ltI (i:Int) (all.length:Int)=true:=C4 (by omega);have hw:IntKind.i64.wrap ((i:Int)+1)=((i+1:Nat):Int):=by rw[A5] <;> omega
  have hi2:i < es.length:=by omega
  have hz1:es[i]=zI:=by
   have:=hz i (Nat.le_refl _) hi;rw[List.getElem?_eq_getElem hi2] at this;simpa using this
  have ih:=e1o all hall rest (i+1) (es.set i (iV x)) hr (by simpa using hl) (fun j hj hj2=>by
   rw[List.getElem?_set_ne (by omega)];exact hz j (by omega) hj2)
  have he:i+1+rest.length=i+(rest.length+1):=by omega
  have hes:(es.set i (iV x)).take (i+1)=es.take i++[iV x]:=by
   rw[List.take_add_one,List.take_set_of_le (Nat.le_refl _)];simp[hi2]
  rw[he,hes,List.append_assoc] at ih;refine C1 ?_ (by simpa only[List.length_cons,List.map_cons,List.singleton_append] using ih);simp (maxSteps:=1000000) +contextual -dsimp [f17,hlt,hi,hi2,hc,hw,hz1,hl,List.set]
theorem b8k (l:List Int) (hl:l.length≤1048576):fo 17 [A (.sl 2 (l.map iV))]=some ⟨.own 2 (l.map iV),[],true⟩:=by
 have hm:(l.length:Int)≤(C2:Nat):=by unfold C2;omega
 have hlp:=e1o l hl l 0 (List.replicate l.length zI) rfl (by simp) (fun j _ hj=>by simp[hj])
 have hcl:=a4g l;refine i2u (l.length+1) ?_;simp -dsimp [f17] at hlp;simp (maxSteps:=1000000) +contextual -dsimp [f17,hm,hlp,hcl,V9,K7,List.set]
theorem h3r (x:Node):fo 231 [A (.agg (nT x))]=some ⟨.agg (nT x),[],true⟩:=by
 refine h8s 1 ?_;simp (maxSteps:=1000000) +contextual -dsimp [f231,List.set]
theorem d6z (all:List Node) (hall:all.length≤1048576):∀ (rest:List Node) (i:Nat) (es:List (List T)),all.drop i=rest→es.length=all.length→(∀ j,i≤j→j < all.length→es[j]?=some [vI 0,vI 0,vI 0,vI 0])→
  A6 E (orc E) (166:Nat) (rest.length+1) (A8 f166 0) ⟨23,[(0,.sl 267 (all.map nT)),(3,.ref 3 1 [] 0 all.length),(4,vI i)],[(3,⟨1,1,false,[.own 219 es]⟩)],2⟩=
  some (.exit 0,⟨23,[(0,.sl 267 (all.map nT)),(3,.ref 3 1 [] 0 all.length),(4,vI (i+rest.length:Nat)),(11,vB false)],[(3,⟨1,1,false,[.own 219 (es.take i++rest.map nT)]⟩)],2⟩)
 | [],i,es,h,hl,hz=>by
  have hge:all.length≤i:=by simpa using h
  have hlt:ltI (i:Int) (all.length:Int)=false:=B6 (by omega);have ht:es.take i=es:=List.take_of_length_le (by omega);rw[C3];simp +contextual -dsimp [f166,hlt,ht]
 | x::rest,i,es,h,hl,hz=>by
  obtain ⟨hi,hc,hr⟩:=C6 h;have hlt:ltI (i:Int) (all.length:Int)=true:=C4 (by omega);have hw:IntKind.i64.wrap ((i:Int)+1)=((i+1:Nat):Int):=by rw[A5] <;> omega
  have hi2:i < es.length:=by omega
  have hz1:es[i]=[vI 0,vI 0,vI 0,vI 0]:=by
   have:=hz i (Nat.le_refl _) hi;rw[List.getElem?_eq_getElem hi2] at this;simpa using this
  have ih:=d6z all hall rest (i+1) (es.set i (nT x)) hr (by simpa using hl) (fun j hj hj2=>by
   rw[List.getElem?_set_ne (by omega)];exact hz j (by omega) hj2)
  have he:i+1+rest.length=i+(rest.length+1):=by omega
  have hes:(es.set i (nT x)).take (i+1)=es.take i++[nT x]:=by
   rw[List.take_add_one,List.take_set_of_le (Nat.le_refl _)];simp[hi2]
  rw[he,hes,List.append_assoc] at ih;have g:=h3r x;refine C1 ?_ (by simpa only[List.length_cons,List.map_cons,List.singleton_append] using ih);simp (maxSteps:=1000000) +contextual -dsimp [f166,hlt,hi,hi2,hc,hw,hz1,hl,g,List.set]
theorem d7a (l:List Node) (hl:l.length≤1048576):fo 166 [A (.sl 267 (l.map nT))]=some ⟨.own 219 (l.map nT),[],true⟩:=by
 have hm:(l.length:Int)≤(C2:Nat):=by unfold C2;omega
 have hlp:=d6z l hl l 0 (List.replicate l.length [vI 0,vI 0,vI 0,vI 0]) rfl (by simp) (fun j _ hj=>by simp[hj])
 have hcl:=a7j l;refine h7e (l.length+1) ?_;simp -dsimp [f166] at hlp;simp (maxSteps:=1000000) +contextual -dsimp [f166,hm,hlp,hcl,V9,K7,List.set]
theorem h3s (x:Step) (h:H0 x≤1048576):fo 75 [A (.agg (sT 267 x))]=some ⟨.agg (N6 x),[],true⟩:=by
 have g4:=d7a x.cond (by simp only[H0] at h;omega);have s4:=a7j x.cond;have g5:=d7a x.expr (by simp only[H0] at h;omega);have s5:=a7j x.expr;refine i3l 1 ?_;simp (maxSteps:=1000000) +contextual -dsimp [f75,g4,s4,g5,s5,List.set]
theorem d7b (all:List Step) (hall:all.length≤1048576) (hf:∀ x,x∈all→H0 x≤1048576):∀ (rest:List Step) (i:Nat) (es:List (List T)),all.drop i=rest→es.length=all.length→(∀ j,i≤j→j < all.length→es[j]?=some [vI 0,vI 0,vS emp,vI 0,.own 219 [],.own 219 []])→
  A6 E (orc E) (16:Nat) (rest.length+1) (A8 f16 0) ⟨23,[(0,.sl 111 (all.map (sT 267))),(3,.ref 3 1 [] 0 all.length),(4,vI i)],[(3,⟨1,1,false,[.own 124 es]⟩)],2⟩=
  some (.exit 0,⟨23,[(0,.sl 111 (all.map (sT 267))),(3,.ref 3 1 [] 0 all.length),(4,vI (i+rest.length:Nat)),(11,vB false)],[(3,⟨1,1,false,[.own 124 (es.take i++rest.map N6)]⟩)],2⟩)
 | [],i,es,h,hl,hz=>by
  have hge:all.length≤i:=by simpa using h
  have hlt:ltI (i:Int) (all.length:Int)=false:=B6 (by omega);have ht:es.take i=es:=List.take_of_length_le (by omega);rw[C3];simp +contextual -dsimp [f16,hlt,ht]
 | x::rest,i,es,h,hl,hz=>by
  obtain ⟨hi,hc,hr⟩:=C6 h;have hlt:ltI (i:Int) (all.length:Int)=true:=C4 (by omega);have hw:IntKind.i64.wrap ((i:Int)+1)=((i+1:Nat):Int):=by rw[A5] <;> omega
  have hi2:i < es.length:=by omega
  have hz1:es[i]=[vI 0,vI 0,vS emp,vI 0,.own 219 [],.own 219 []]:=by
   have:=hz i (Nat.le_refl _) hi;rw[List.getElem?_eq_getElem hi2] at this;simpa using this
  have ih:=d7b all hall hf rest (i+1) (es.set i (N6 x)) hr (by simpa using hl) (fun j hj hj2=>by
   rw[List.getElem?_set_ne (by omega)];exact hz j (by omega) hj2)
  have he:i+1+rest.length=i+(rest.length+1):=by omega
  have hes:(es.set i (N6 x)).take (i+1)=es.take i++[N6 x]:=by
   rw[List.take_add_one,List.take_set_of_le (Nat.le_refl _)];simp[hi2]
  rw[he,hes,List.append_assoc] at ih;have g:=h3s x (hf x (by rw[← hc];exact List.getElem_mem _));refine C1 ?_ (by simpa only[List.length_cons,List.map_cons,List.singleton_append] using ih);simp (maxSteps:=1000000) +contextual -dsimp [f16,hlt,hi,hi2,hc,hw,hz1,hl,g,List.set]
theorem h0a (l:List Step) (hl:l.length≤1048576) (hf:∀ x,x∈l→H0 x≤1048576):fo 16 [A (.sl 111 (l.map (sT 267)))]=some ⟨.own 124 (l.map N6),[],true⟩:=by
 have hm:(l.length:Int)≤(C2:Nat):=by unfold C2;omega
 have hlp:=d7b l hl hf l 0 (List.replicate l.length [vI 0,vI 0,vS emp,vI 0,.own 219 [],.own 219 []]) rfl (by simp) (fun j _ hj=>by simp[hj])
 have hcl:=b1s l;refine i2t (l.length+1) ?_;simp -dsimp [f16] at hlp;simp (maxSteps:=1000000) +contextual -dsimp [f16,hm,hlp,hcl,V9,K7,List.set]
theorem h3t (x:List Step) (h:J5 x≤1048576):fo 183 [A (.agg (pT 111 267 x))]=some ⟨.agg (H5 x),[],true⟩:=by
 have g0:=h0a x (by simp only[J5,a1z] at h;omega) (fun y hy=>by have:=b4j hy;simp only[J5,a1z] at h;omega)
 have s0:=b1s x;refine h7q 1 ?_;simp (maxSteps:=1000000) +contextual -dsimp [f183,g0,s0,List.set]
theorem d7c (all:List (List Step)) (hall:all.length≤1048576) (hf:∀ x,x∈all→J5 x≤1048576):∀ (rest:List (List Step)) (i:Nat) (es:List (List T)),all.drop i=rest→es.length=all.length→(∀ j,i≤j→j < all.length→es[j]?=some [.own 124 []])→
  A6 E (orc E) (111:Nat) (rest.length+1) (A8 f111 0) ⟨23,[(0,.sl 225 (all.map (pT 111 267))),(3,.ref 3 1 [] 0 all.length),(4,vI i)],[(3,⟨1,1,false,[.own 160 es]⟩)],2⟩=
  some (.exit 0,⟨23,[(0,.sl 225 (all.map (pT 111 267))),(3,.ref 3 1 [] 0 all.length),(4,vI (i+rest.length:Nat)),(11,vB false)],[(3,⟨1,1,false,[.own 160 (es.take i++rest.map H5)]⟩)],2⟩)
 | [],i,es,h,hl,hz=>by
  have hge:all.length≤i:=by simpa using h
  have hlt:ltI (i:Int) (all.length:Int)=false:=B6 (by omega);have ht:es.take i=es:=List.take_of_length_le (by omega);rw[C3];simp +contextual -dsimp [f111,hlt,ht]
 | x::rest,i,es,h,hl,hz=>by
  obtain ⟨hi,hc,hr⟩:=C6 h;have hlt:ltI (i:Int) (all.length:Int)=true:=C4 (by omega);have hw:IntKind.i64.wrap ((i:Int)+1)=((i+1:Nat):Int):=by rw[A5] <;> omega
  have hi2:i < es.length:=by omega
  have hz1:es[i]=[.own 124 []]:=by
   have:=hz i (Nat.le_refl _) hi;rw[List.getElem?_eq_getElem hi2] at this;simpa using this
  have ih:=d7c all hall hf rest (i+1) (es.set i (H5 x)) hr (by simpa using hl) (fun j hj hj2=>by
   rw[List.getElem?_set_ne (by omega)];exact hz j (by omega) hj2)
  have he:i+1+rest.length=i+(rest.length+1):=by omega
  have hes:(es.set i (H5 x)).take (i+1)=es.take i++[H5 x]:=by
   rw[List.take_add_one,List.take_set_of_le (Nat.le_refl _)];simp[hi2]
  rw[he,hes,List.append_assoc] at ih;have g:=h3t x (hf x (by rw[← hc];exact List.getElem_mem _));refine C1 ?_ (by simpa only[List.length_cons,List.map_cons,List.singleton_append] using ih);simp (maxSteps:=1000000) +contextual -dsimp [f111,hlt,hi,hi2,hc,hw,hz1,hl,g,List.set]
theorem h0b (l:List (List Step)) (hl:l.length≤1048576) (hf:∀ x,x∈l→J5 x≤1048576):fo 111 [A (.sl 225 (l.map (pT 111 267)))]=some ⟨.own 160 (l.map H5),[],true⟩:=by
 have hm:(l.length:Int)≤(C2:Nat):=by unfold C2;omega
 have hlp:=d7c l hl hf l 0 (List.replicate l.length [.own 124 []]) rfl (by simp) (fun j _ hj=>by simp[hj])
 have hcl:=a1q l;refine h6e (l.length+1) ?_;simp -dsimp [f111] at hlp;simp (maxSteps:=1000000) +contextual -dsimp [f111,hm,hlp,hcl,V9,K7,List.set]
theorem h0c (x:Chart) (h:J2 x≤1048576):fo 243 [A (.agg (cT x))]=some ⟨.agg (i4m x),[],true⟩:=by
 have g2:=b8k x.vars (by simp only[J2] at h;omega);have s2:=a4g x.vars;have g3:=b8k x.acts (by simp only[J2] at h;omega);have s3:=a4g x.acts;have g4:=b8k x.dues (by simp only[J2] at h;omega);have s4:=a4g x.dues;refine h9d 1 ?_;simp (maxSteps:=1000000) +contextual -dsimp [f243,g2,s2,g3,s3,g4,s4,List.set]
theorem h3u (x:Inst) (h:H9 x≤1048576):fo 184 [A (.agg (xT x))]=some ⟨.agg (L7 x),[],true⟩:=by
 have g1:=h0c x.chart (by simp only[H9] at h;omega);have s1vars:=a4g x.chart.vars;have s1acts:=a4g x.chart.acts;have s1dues:=a4g x.chart.dues;refine h7r 1 ?_;simp (maxSteps:=1000000) +contextual -dsimp [f184,g1,s1vars,s1acts,s1dues,List.set]
theorem d7d (all:List Inst) (hall:all.length≤1048576) (hf:∀ x,x∈all→H9 x≤1048576):∀ (rest:List Inst) (i:Nat) (es:List (List T)),all.drop i=rest→es.length=all.length→(∀ j,i≤j→j < all.length→es[j]?=some [vI 0,vI 0,vI 0,.own 2 [],.own 2 [],.own 2 []])→
  A6 E (orc E) (112:Nat) (rest.length+1) (A8 f112 0) ⟨23,[(0,.sl 229 (all.map xT)),(3,.ref 3 1 [] 0 all.length),(4,vI i)],[(3,⟨1,1,false,[.own 163 es]⟩)],2⟩=
  some (.exit 0,⟨23,[(0,.sl 229 (all.map xT)),(3,.ref 3 1 [] 0 all.length),(4,vI (i+rest.length:Nat)),(11,vB false)],[(3,⟨1,1,false,[.own 163 (es.take i++rest.map L7)]⟩)],2⟩)
 | [],i,es,h,hl,hz=>by
  have hge:all.length≤i:=by simpa using h
  have hlt:ltI (i:Int) (all.length:Int)=false:=B6 (by omega);have ht:es.take i=es:=List.take_of_length_le (by omega);rw[C3];simp +contextual -dsimp [f112,hlt,ht]
 | x::rest,i,es,h,hl,hz=>by
  obtain ⟨hi,hc,hr⟩:=C6 h;have hlt:ltI (i:Int) (all.length:Int)=true:=C4 (by omega);have hw:IntKind.i64.wrap ((i:Int)+1)=((i+1:Nat):Int):=by rw[A5] <;> omega
  have hi2:i < es.length:=by omega
  have hz1:es[i]=[vI 0,vI 0,vI 0,.own 2 [],.own 2 [],.own 2 []]:=by
   have:=hz i (Nat.le_refl _) hi;rw[List.getElem?_eq_getElem hi2] at this;simpa using this
  have ih:=d7d all hall hf rest (i+1) (es.set i (L7 x)) hr (by simpa using hl) (fun j hj hj2=>by
   rw[List.getElem?_set_ne (by omega)];exact hz j (by omega) hj2)
  have he:i+1+rest.length=i+(rest.length+1):=by omega
  have hes:(es.set i (L7 x)).take (i+1)=es.take i++[L7 x]:=by
   rw[List.take_add_one,List.take_set_of_le (Nat.le_refl _)];simp[hi2]
  rw[he,hes,List.append_assoc] at ih;have g:=h3u x (hf x (by rw[← hc];exact List.getElem_mem _));refine C1 ?_ (by simpa only[List.length_cons,List.map_cons,List.singleton_append] using ih);simp (maxSteps:=1000000) +contextual -dsimp [f112,hlt,hi,hi2,hc,hw,hz1,hl,g,List.set]
theorem h0d (l:List Inst) (hl:l.length≤1048576) (hf:∀ x,x∈l→H9 x≤1048576):fo 112 [A (.sl 229 (l.map xT))]=some ⟨.own 163 (l.map L7),[],true⟩:=by
 have hm:(l.length:Int)≤(C2:Nat):=by unfold C2;omega
 have hlp:=d7d l hl hf l 0 (List.replicate l.length [vI 0,vI 0,vI 0,.own 2 [],.own 2 [],.own 2 []]) rfl (by simp) (fun j _ hj=>by simp[hj])
 have hcl:=a2t l;refine h6f (l.length+1) ?_;simp -dsimp [f112] at hlp;simp (maxSteps:=1000000) +contextual -dsimp [f112,hm,hlp,hcl,V9,K7,List.set]
theorem h0e (x:Claim):fo 176 [A (.agg (kT x))]=some ⟨.agg (kT x),[],true⟩:=by
 refine h7k 1 ?_;simp (maxSteps:=1000000) +contextual -dsimp [f176,List.set]
theorem d4u (all:List Claim) (hall:all.length≤1048576):∀ (rest:List Claim) (i:Nat) (es:List (List T)),all.drop i=rest→es.length=all.length→(∀ j,i≤j→j < all.length→es[j]?=some [vI 0,vI 0,vI 0])→
  A6 E (orc E) (98:Nat) (rest.length+1) (A8 f98 0) ⟨23,[(0,.sl 222 (all.map kT)),(3,.ref 3 1 [] 0 all.length),(4,vI i)],[(3,⟨1,1,false,[.own 150 es]⟩)],2⟩=
  some (.exit 0,⟨23,[(0,.sl 222 (all.map kT)),(3,.ref 3 1 [] 0 all.length),(4,vI (i+rest.length:Nat)),(11,vB false)],[(3,⟨1,1,false,[.own 150 (es.take i++rest.map kT)]⟩)],2⟩)
 | [],i,es,h,hl,hz=>by
  have hge:all.length≤i:=by simpa using h
  have hlt:ltI (i:Int) (all.length:Int)=false:=B6 (by omega);have ht:es.take i=es:=List.take_of_length_le (by omega);rw[C3];simp +contextual -dsimp [f98,hlt,ht]
 | x::rest,i,es,h,hl,hz=>by
  obtain ⟨hi,hc,hr⟩:=C6 h;have hlt:ltI (i:Int) (all.length:Int)=true:=C4 (by omega);have hw:IntKind.i64.wrap ((i:Int)+1)=((i+1:Nat):Int):=by rw[A5] <;> omega
  have hi2:i < es.length:=by omega
  have hz1:es[i]=[vI 0,vI 0,vI 0]:=by
   have:=hz i (Nat.le_refl _) hi;rw[List.getElem?_eq_getElem hi2] at this;simpa using this
  have ih:=d4u all hall rest (i+1) (es.set i (kT x)) hr (by simpa using hl) (fun j hj hj2=>by
   rw[List.getElem?_set_ne (by omega)];exact hz j (by omega) hj2)
  have he:i+1+rest.length=i+(rest.length+1):=by omega
  have hes:(es.set i (kT x)).take (i+1)=es.take i++[kT x]:=by
   rw[List.take_add_one,List.take_set_of_le (Nat.le_refl _)];simp[hi2]
  rw[he,hes,List.append_assoc] at ih;have g:=h0e x;refine C1 ?_ (by simpa only[List.length_cons,List.map_cons,List.singleton_append] using ih);simp (maxSteps:=1000000) +contextual -dsimp [f98,hlt,hi,hi2,hc,hw,hz1,hl,g,List.set]
theorem g7r (l:List Claim) (hl:l.length≤1048576):fo 98 [A (.sl 222 (l.map kT))]=some ⟨.own 150 (l.map kT),[],true⟩:=by
 have hm:(l.length:Int)≤(C2:Nat):=by unfold C2;omega
 have hlp:=d4u l hl l 0 (List.replicate l.length [vI 0,vI 0,vI 0]) rfl (by simp) (fun j _ hj=>by simp[hj])
 have hcl:=a2r l;refine i3u (l.length+1) ?_;simp -dsimp [f98] at hlp;simp (maxSteps:=1000000) +contextual -dsimp [f98,hm,hlp,hcl,V9,K7,List.set]
theorem g7s (x:Engine) (h:D8 x≤1048576):fo 40 [A (.agg (eTl x))]=some ⟨.agg (b2p x),[],true⟩:=by
 have g0:=h0b x.procs (by simp only[D8,Q7] at h;omega) (fun y hy=>by have:=b4k hy;simp only[D8,Q7] at h;omega)
 have s0:=a1q x.procs;have g1:=h0d x.insts (by simp only[D8,U8] at h;omega) (fun y hy=>by have:=b4l hy;simp only[D8,U8] at h;omega)
 have s1:=a2t x.insts;refine i3h 1 ?_;simp (maxSteps:=1000000) +contextual -dsimp [f40,g0,s0,g1,s1,List.set]
theorem h3v (x:Desk) (h:K9 x≤1048576):fo 31 [A (.agg (dTl x))]=some ⟨.agg (g2l x),[],true⟩:=by
 have g0:=g7s x.eng (by simp only[K9] at h;omega);have s0procs:=a1q x.eng.procs;have s0insts:=a2t x.eng.insts;have g1:=g7r x.claims (by simp only[K9] at h;omega);have s1:=a2r x.claims;refine i3a 1 ?_;simp (maxSteps:=1000000) +contextual -dsimp [f31,g0,s0procs,s0insts,g1,s1,List.set]
end Go.TM.Ft
namespace Go.TM.Ft
open Go Go.TM Go.Proofs Go.Proofs.Tryz
set_option maxRecDepth 20000
attribute [local congr] M0
attribute [local simp] K2 K6 J4 K3 H7 J9 H8 G9 J1 G3
theorem g3u (x:DeskR) (h:a3o x≤2097152):fo 33 [A (.agg (drT x)),A (.agg (drT x))]=some (R (vB true)):=by
 have g2:=e1a x.desk (by simp only[a3o] at h;omega);refine i3b 1 ?_;simp (maxSteps:=1000000) +contextual -dsimp [f33,B7,a8y,g2,List.set]
end Go.TM.Ft
namespace Go.TM.Ft
open Go Go.TM Go.Proofs Go.Proofs.Tryz
theorem h3w (l:List Node):N2 l=4*l.length:=by
 induction l with
 | nil=>rfl
 | cons x l ih=>rw[b4d,ih];simp only[a4m,List.length_cons];omega
theorem i1m (x:Step):a3t x≤4+4*H0 x:=by
 simp only[a3t,h3w,H0];omega
theorem h3x (l:List Step):P3 l≤4*a1z l:=by
 have:P3 l≤4*l.length+4*O9 l:=by
  induction l with
  | nil=>exact Nat.zero_le _
  | cons x l ih=>rw[b4e];have:=i1m x;simp only[O9,List.length_cons];omega
 simp only[a1z];omega
theorem h3y (l:List (List Step)):P0 l≤4*Q7 l:=by
 have:P0 l≤4*N1 l:=by
  induction l with
  | nil=>exact Nat.zero_le _
  | cons x l ih=>rw[b4f];have:=h3x x;simp only[N1,a4n,J5];omega
 simp only[Q7];omega
theorem h3z (l:List Inst):P4 l≤3*U8 l:=by
 have:P4 l≤3*l.length+3*L1 l:=by
  induction l with
  | nil=>exact Nat.zero_le _
  | cons x l ih=>rw[b4g];simp only[L1,a4o,H9,J2,K0,List.length_cons];omega
 simp only[U8];omega
theorem h0f (l:List Claim):Q0 l=3*l.length:=by
 induction l with
 | nil=>rfl
 | cons x l ih=>rw[b3y,ih];simp only[a4i,List.length_cons];omega
theorem h0g (x:Engine):a1u x≤4*D8 x:=by
 have h1:=h3y x.procs;have h2:=h3z x.insts;simp only[a1u,D8];omega
theorem f6a (x:Desk):a0p x≤4*K9 x:=by
 have h1:=h0g x.eng;have h2:=h0f x.claims;simp only[a0p,K9];omega
end Go.TM.Ft
