/- What functions of the program come to, by the machine. -/
import Derived.Test.YtlmiemdojgahaaaGreatKL15
set_option linter.unusedSimpArgs false
set_option linter.unusedVariables false
set_option maxHeartbeats 4000000
namespace Go.TM.Ft
open Go Go.TM Go.Proofs Go.Proofs.Tryz
set_option maxRecDepth 20000
attribute [local congr] M0
attribute [local simp] K2 K6 J4 K3 H7 J9 H8 G9 J1 G3
noncomputable section
def G6:Int→List Int→List Int
 | _,[]=>[]
 | k,_::r=>k::G6 (k+1) r
def K0 (l:List Int):Nat:=l.length
theorem d4r:K0 []=0:=rfl
theorem b6x (x:Int) (r:List Int):K0 (x::r)=1+K0 r:=by simp only[K0,List.length_cons];omega
def a4m (x:Node):Nat:=1+1+1+1
def N2:List Node→Nat
 | []=>0
 | x::r=>a4m x+N2 r
theorem d3e:N2 []=0:=rfl
theorem b4d (x:Node) (r:List Node):N2 (x::r)=a4m x+N2 r:=rfl
def c8d (k:Int) (x:Node):Node:={ kind:=k,value:=k+1,left:=k+1+1,right:=k+1+1+1 }
def J6:Int→List Node→List Node
 | _,[]=>[]
 | k,x::r=>c8d k x::J6 (k+(a4m x:Nat)) r
def a3t (x:Step):Nat:=1+1+1+1+N2 x.cond+N2 x.expr
def P3:List Step→Nat
 | []=>0
 | x::r=>a3t x+P3 r
theorem d3f:P3 []=0:=rfl
theorem b4e (x:Step) (r:List Step):P3 (x::r)=a3t x+P3 r:=rfl
def c8e (k:Int) (x:Step):Step:={ kind:=k,parent:=k+1,name:=a7f (k+1+1),arg:=k+1+1+1,cond:=J6 (k+1+1+1+1) x.cond,expr:=J6 (k+1+1+1+1+(N2 x.cond:Nat)) x.expr }
def M6:Int→List Step→List Step
 | _,[]=>[]
 | k,x::r=>c8e k x::M6 (k+(a3t x:Nat)) r
def a4n (x:List Step):Nat:=P3 x
def P0:List (List Step)→Nat
 | []=>0
 | x::r=>a4n x+P0 r
theorem d3g:P0 []=0:=rfl
theorem b4f (x:List Step) (r:List (List Step)):P0 (x::r)=a4n x+P0 r:=rfl
def c8f (k:Int) (x:List Step):List Step:=M6 (k) x
def Q5:Int→List (List Step)→List (List Step)
 | _,[]=>[]
 | k,x::r=>c8f k x::Q5 (k+(a4n x:Nat)) r
def a4o (x:Inst):Nat:=1+1+1+K0 x.chart.vars+K0 x.chart.acts+K0 x.chart.dues
def P4:List Inst→Nat
 | []=>0
 | x::r=>a4o x+P4 r
theorem d3h:P4 []=0:=rfl
theorem b4g (x:Inst) (r:List Inst):P4 (x::r)=a4o x+P4 r:=rfl
def c8g (k:Int) (x:Inst):Inst:={ proc:=k,chart:={ status:=k+1,now:=k+1+1,vars:=G6 (k+1+1+1) x.chart.vars,acts:=G6 (k+1+1+1+(K0 x.chart.vars:Nat)) x.chart.acts,dues:=G6 (k+1+1+1+(K0 x.chart.vars:Nat)+(K0 x.chart.acts:Nat)) x.chart.dues } }
def Q6:Int→List Inst→List Inst
 | _,[]=>[]
 | k,x::r=>c8g k x::Q6 (k+(a4o x:Nat)) r
def a4i (x:Claim):Nat:=1+1+1
def Q0:List Claim→Nat
 | []=>0
 | x::r=>a4i x+Q0 r
theorem d1z:Q0 []=0:=rfl
theorem b3y (x:Claim) (r:List Claim):Q0 (x::r)=a4i x+Q0 r:=rfl
def c7k (k:Int) (x:Claim):Claim:={ inst:=k,step:=k+1,user:=k+1+1 }
def Q2:Int→List Claim→List Claim
 | _,[]=>[]
 | k,x::r=>c7k k x::Q2 (k+(a4i x:Nat)) r
end
theorem f5y (n:Nat) (hn:n≤2097152):∀ (rest:List Int) (i:Nat) (es:List (List T)) (k:Int),es.length=n→i+rest.length=n→es.drop i=rest.map iV→0≤k→k+(K0 rest:Nat) < 2 ^ 60→
  A6 E (orc E) (25:Nat) (rest.length+1) (A8 f25 0) ⟨19,[(0,.ref 0 0 [] 0 n),(1,vI k),(5,vI i)],[(0,⟨0,0,false,[.own 2 es]⟩)],2⟩=
  some (.exit 0,⟨19,[(0,.ref 0 0 [] 0 n),(1,vI (k+(K0 rest:Nat))),(5,vI (n:Nat)),(9,vB false)],[(0,⟨0,0,false,[.own 2 (es.take i++(G6 k rest).map iV)]⟩)],2⟩)
 | [],i,es,k,hl,hi,h,h0,h1=>by
  have e:i=n:=by simpa using hi
  subst e;have hlt:ltI (i:Int) (i:Int)=false:=B6 (by omega);have ht:es.take i=es:=List.take_of_length_le (by omega);rw[C3];simp +contextual -dsimp [f25,hlt,ht,d4r,G6]
 | x::rest,i,es,k,hl,hi,h,h0,h1=>by
  simp only[List.length_cons] at hi;have hin:i < n:=by omega
  have hi2:i < es.length:=by omega
  have hlt:ltI (i:Int) (n:Int)=true:=C4 (by omega);have hw:IntKind.i64.wrap ((i:Int)+1)=((i+1:Nat):Int):=by rw[A5] <;> omega
  have hd:=List.drop_eq_getElem_cons hi2;rw[h,List.map_cons,List.cons.injEq] at hd;obtain ⟨hz1,hr⟩:=hd;have hz1:=hz1.symm;rw[b6x] at h1;obtain ⟨k1,e1⟩:∃ z,z=k+1:=⟨_,rfl⟩;have w0:IntKind.i64.wrap (k+1)=k1:=by rw[e1,A5] <;> omega
  have hk:k1+(K0 rest:Nat)=k+(K0 (x::rest):Nat):=by rw[b6x];omega
  have hm:G6 k (x::rest)=k::G6 k1 rest:=by rw[e1];rfl
  have ih:=f5y n hn rest (i+1) (es.set i (iV k)) k1 (by simpa using hl) (by omega) (by rw[List.drop_set_of_lt (by omega)];exact hr.symm) (by omega) (by omega);have hes:(es.set i (iV k)).take (i+1)=es.take i++[iV k]:=by
   rw[List.take_add_one,List.take_set_of_le (Nat.le_refl _)];simp[hi2]
  rw[hk,hes,List.append_assoc] at ih;rw[hm];refine C1 ?_ (by simpa only[List.length_cons,List.map_cons,List.singleton_append] using ih);simp (maxSteps:=1000000) +contextual -dsimp [f25,hlt,hi2,hin,hw,hz1,hl,w0,V8,a1x,a1v,a2u,N3,a1b,a1h,a3b,valArg,List.set]
theorem b6v (l:List Int) (k:Int) (h0:0≤k) (h1:k+(K0 l:Nat) < 2 ^ 60) (hn:l.length≤2097152):∃ b,fo 25 [⟨.ref 0 0 [] 0 l.length,some ⟨0,0,false,[.own 2 (l.map iV)]⟩⟩,A (vI k)]=some ⟨vI (k+(K0 l:Nat)),[(0,[.own 2 ((G6 k l).map iV)])],b⟩:=by
 have hlp:=f5y l.length hn l 0 (l.map iV) k (by simp) (by simp) rfl h0 (by omega);have hcl:=a4g (G6 k l);refine ⟨true,i2y (l.length+1) ?_⟩;generalize k+(K0 l:Nat)=k' at *;generalize G6 k l=l' at *;simp -dsimp [f25] at hlp;simp (maxSteps:=1000000) +contextual -dsimp [f25,hlp,hcl,V9,K7,List.set]
theorem e1g (n:Nat) (hn:n≤2097152):∀ (rest:List Node) (i:Nat) (es:List (List T)) (k:Int),es.length=n→i+rest.length=n→es.drop i=rest.map nT→0≤k→k+(N2 rest:Nat) < 2 ^ 60→
  A6 E (orc E) (86:Nat) (rest.length+1) (A8 f86 0) ⟨41,[(0,.ref 0 0 [] 0 n),(1,vI k),(5,vI i)],[(0,⟨0,0,false,[.own 219 es]⟩)],2⟩=
  some (.exit 0,⟨41,[(0,.ref 0 0 [] 0 n),(1,vI (k+(N2 rest:Nat))),(5,vI (n:Nat)),(9,vB false)],[(0,⟨0,0,false,[.own 219 (es.take i++(J6 k rest).map nT)]⟩)],2⟩)
 | [],i,es,k,hl,hi,h,h0,h1=>by
  have e:i=n:=by simpa using hi
  subst e;have hlt:ltI (i:Int) (i:Int)=false:=B6 (by omega);have ht:es.take i=es:=List.take_of_length_le (by omega);rw[C3];simp +contextual -dsimp [f86,hlt,ht,d3e,J6]
 | x::rest,i,es,k,hl,hi,h,h0,h1=>by
  simp only[List.length_cons] at hi;have hin:i < n:=by omega
  have hi2:i < es.length:=by omega
  have hlt:ltI (i:Int) (n:Int)=true:=C4 (by omega);have hw:IntKind.i64.wrap ((i:Int)+1)=((i+1:Nat):Int):=by rw[A5] <;> omega
  have hd:=List.drop_eq_getElem_cons hi2;rw[h,List.map_cons,List.cons.injEq] at hd;obtain ⟨hz1,hr⟩:=hd;have hz1:=hz1.symm;rw[b4d] at h1;simp only[a4m] at h1;obtain ⟨k1,e1⟩:∃ z,z=k+1:=⟨_,rfl⟩;have w0:IntKind.i64.wrap (k+1)=k1:=by rw[e1,A5] <;> omega
  obtain ⟨k2,e2⟩:∃ z,z=k1+1:=⟨_,rfl⟩;have w1:IntKind.i64.wrap (k1+1)=k2:=by rw[e2,A5] <;> omega
  obtain ⟨k3,e3⟩:∃ z,z=k2+1:=⟨_,rfl⟩;have w2:IntKind.i64.wrap (k2+1)=k3:=by rw[e3,A5] <;> omega
  obtain ⟨k4,e4⟩:∃ z,z=k3+1:=⟨_,rfl⟩;have w3:IntKind.i64.wrap (k3+1)=k4:=by rw[e4,A5] <;> omega
  have hk:k4+(N2 rest:Nat)=k+(N2 (x::rest):Nat):=by rw[b4d];simp only[a4m];omega
  have hm:J6 k (x::rest)=({ kind:=k,value:=k1,left:=k2,right:=k3 }:Node)::J6 k4 rest:=by
   have e:k4=k+(a4m x:Nat):=by simp only[a4m];omega
   have e2:c8d k x=({ kind:=k,value:=k1,left:=k2,right:=k3 }:Node):=by subst_vars;rfl
   simp only[J6];rw[e2,e]
  have ih:=e1g n hn rest (i+1) (es.set i (nT ({ kind:=k,value:=k1,left:=k2,right:=k3 }:Node))) k4 (by simpa using hl) (by omega) (by rw[List.drop_set_of_lt (by omega)];exact hr.symm) (by omega) (by omega);have hes:(es.set i (nT ({ kind:=k,value:=k1,left:=k2,right:=k3 }:Node))).take (i+1)=es.take i++[nT ({ kind:=k,value:=k1,left:=k2,right:=k3 }:Node)]:=by
   rw[List.take_add_one,List.take_set_of_le (Nat.le_refl _)];simp[hi2]
  rw[hk,hes,List.append_assoc] at ih;rw[hm];refine C1 ?_ (by simpa only[List.length_cons,List.map_cons,List.singleton_append] using ih);simp (maxSteps:=1000000) +contextual -dsimp [f86,hlt,hi2,hin,hw,hz1,hl,w0,w1,w2,w3,V8,a1x,a1v,a2u,N3,a1b,a1h,a3b,valArg,List.set]
theorem d3i (l:List Node) (k:Int) (h0:0≤k) (h1:k+(N2 l:Nat) < 2 ^ 60) (hn:l.length≤2097152):∃ b,fo 86 [⟨.ref 0 0 [] 0 l.length,some ⟨0,0,false,[.own 219 (l.map nT)]⟩⟩,A (vI k)]=some ⟨vI (k+(N2 l:Nat)),[(0,[.own 219 ((J6 k l).map nT)])],b⟩:=by
 have hlp:=e1g l.length hn l 0 (l.map nT) k (by simp) (by simp) rfl h0 (by omega);have hcl:=a7j (J6 k l);refine ⟨true,i3o (l.length+1) ?_⟩;generalize k+(N2 l:Nat)=k' at *;generalize J6 k l=l' at *;simp -dsimp [f86] at hlp;simp (maxSteps:=1000000) +contextual -dsimp [f86,hlp,hcl,V9,K7,List.set]
theorem e1h (n:Nat) (hn:n≤2097152):∀ (rest:List Step) (i:Nat) (es:List (List T)) (k:Int),es.length=n→i+rest.length=n→es.drop i=rest.map N6→(∀ x,x∈rest→H0 x≤2097152)→0≤k→k+(P3 rest:Nat) < 2 ^ 60→
  A6 E (orc E) (24:Nat) (rest.length+1) (A8 f24 0) ⟨56,[(0,.ref 0 0 [] 0 n),(1,vI k),(5,vI i)],[(0,⟨0,0,false,[.own 124 es]⟩)],2⟩=
  some (.exit 0,⟨56,[(0,.ref 0 0 [] 0 n),(1,vI (k+(P3 rest:Nat))),(5,vI (n:Nat)),(9,vB false)],[(0,⟨0,0,false,[.own 124 (es.take i++(M6 k rest).map N6)]⟩)],2⟩)
 | [],i,es,k,hl,hi,h,hf,h0,h1=>by
  have e:i=n:=by simpa using hi
  subst e;have hlt:ltI (i:Int) (i:Int)=false:=B6 (by omega);have ht:es.take i=es:=List.take_of_length_le (by omega);rw[C3];simp +contextual -dsimp [f24,hlt,ht,d3f,M6]
 | x::rest,i,es,k,hl,hi,h,hf,h0,h1=>by
  have hx:=hf x (by simp);simp only[List.length_cons] at hi;have hin:i < n:=by omega
  have hi2:i < es.length:=by omega
  have hlt:ltI (i:Int) (n:Int)=true:=C4 (by omega);have hw:IntKind.i64.wrap ((i:Int)+1)=((i+1:Nat):Int):=by rw[A5] <;> omega
  have hd:=List.drop_eq_getElem_cons hi2;rw[h,List.map_cons,List.cons.injEq] at hd;obtain ⟨hz1,hr⟩:=hd;have hz1:=hz1.symm;rw[b4e] at h1;simp only[a3t] at h1;obtain ⟨k1,e1⟩:∃ z,z=k+1:=⟨_,rfl⟩;have w0:IntKind.i64.wrap (k+1)=k1:=by rw[e1,A5] <;> omega
  obtain ⟨k2,e2⟩:∃ z,z=k1+1:=⟨_,rfl⟩;have w1:IntKind.i64.wrap (k1+1)=k2:=by rw[e2,A5] <;> omega
  obtain ⟨k3,e3⟩:∃ z,z=k2+1:=⟨_,rfl⟩;have w2:IntKind.i64.wrap (k2+1)=k3:=by rw[e3,A5] <;> omega
  have g2:=d4q k2 (by omega) (by omega);obtain ⟨k4,e4⟩:∃ z,z=k3+1:=⟨_,rfl⟩;have w3:IntKind.i64.wrap (k3+1)=k4:=by rw[e4,A5] <;> omega
  obtain ⟨k5,e5⟩:∃ z,z=k4+(N2 x.cond:Nat):=⟨_,rfl⟩;obtain ⟨b4,g4⟩:=d3i x.cond k4 (by omega) (by omega) (by simp only[H0] at hx;omega);rw[← e5] at g4;obtain ⟨k6,e6⟩:∃ z,z=k5+(N2 x.expr:Nat):=⟨_,rfl⟩;obtain ⟨b5,g5⟩:=d3i x.expr k5 (by omega) (by omega) (by simp only[H0] at hx;omega);rw[← e6] at g5;have hk:k6+(P3 rest:Nat)=k+(P3 (x::rest):Nat):=by rw[b4e];simp only[a3t];omega
  have hm:M6 k (x::rest)=({ kind:=k,parent:=k1,name:=a7f k2,arg:=k3,cond:=J6 k4 x.cond,expr:=J6 k5 x.expr }:Step)::M6 k6 rest:=by
   have e:k6=k+(a3t x:Nat):=by simp only[a3t];omega
   have e2:c8e k x=({ kind:=k,parent:=k1,name:=a7f k2,arg:=k3,cond:=J6 k4 x.cond,expr:=J6 k5 x.expr }:Step):=by subst_vars;rfl
   simp only[M6];rw[e2,e]
  have ih:=e1h n hn rest (i+1) (es.set i (N6 ({ kind:=k,parent:=k1,name:=a7f k2,arg:=k3,cond:=J6 k4 x.cond,expr:=J6 k5 x.expr }:Step))) k6 (by simpa using hl) (by omega) (by rw[List.drop_set_of_lt (by omega)];exact hr.symm) (fun y hy=>hf y (by simp[hy])) (by omega) (by omega);have hes:(es.set i (N6 ({ kind:=k,parent:=k1,name:=a7f k2,arg:=k3,cond:=J6 k4 x.cond,expr:=J6 k5 x.expr }:Step))).take (i+1)=es.take i++[N6 ({ kind:=k,parent:=k1,name:=a7f k2,arg:=k3,cond:=J6 k4 x.cond,expr:=J6 k5 x.expr }:Step)]:=by
   rw[List.take_add_one,List.take_set_of_le (Nat.le_refl _)];simp[hi2]
  rw[hk,hes,List.append_assoc] at ih;rw[hm];refine C1 ?_ (by simpa only[List.length_cons,List.map_cons,List.singleton_append] using ih);simp (maxSteps:=1000000) +contextual -dsimp [f24,hlt,hi2,hin,hw,hz1,hl,w0,w1,w2,g2,w3,g4,g5,V8,a1x,a1v,a2u,N3,a1b,a1h,a3b,valArg,List.set]
theorem g5w (l:List Step) (k:Int) (h0:0≤k) (h1:k+(P3 l:Nat) < 2 ^ 60) (hn:l.length≤2097152) (hf:∀ x,x∈l→H0 x≤2097152):∃ b,fo 24 [⟨.ref 0 0 [] 0 l.length,some ⟨0,0,false,[.own 124 (l.map N6)]⟩⟩,A (vI k)]=some ⟨vI (k+(P3 l:Nat)),[(0,[.own 124 ((M6 k l).map N6)])],b⟩:=by
 have hlp:=e1h l.length hn l 0 (l.map N6) k (by simp) (by simp) rfl hf h0 (by omega);have hcl:=b1s (M6 k l);refine ⟨true,i2x (l.length+1) ?_⟩;generalize k+(P3 l:Nat)=k' at *;generalize M6 k l=l' at *;simp -dsimp [f24] at hlp;simp (maxSteps:=1000000) +contextual -dsimp [f24,hlp,hcl,V9,K7,List.set]
theorem e1i (n:Nat) (hn:n≤2097152):∀ (rest:List (List Step)) (i:Nat) (es:List (List T)) (k:Int),es.length=n→i+rest.length=n→es.drop i=rest.map H5→(∀ x,x∈rest→J5 x≤2097152)→0≤k→k+(P0 rest:Nat) < 2 ^ 60→
  A6 E (orc E) (119:Nat) (rest.length+1) (A8 f119 0) ⟨20,[(0,.ref 0 0 [] 0 n),(1,vI k),(5,vI i)],[(0,⟨0,0,false,[.own 160 es]⟩)],2⟩=
  some (.exit 0,⟨20,[(0,.ref 0 0 [] 0 n),(1,vI (k+(P0 rest:Nat))),(5,vI (n:Nat)),(9,vB false)],[(0,⟨0,0,false,[.own 160 (es.take i++(Q5 k rest).map H5)]⟩)],2⟩)
 | [],i,es,k,hl,hi,h,hf,h0,h1=>by
  have e:i=n:=by simpa using hi
  subst e;have hlt:ltI (i:Int) (i:Int)=false:=B6 (by omega);have ht:es.take i=es:=List.take_of_length_le (by omega);rw[C3];simp +contextual -dsimp [f119,hlt,ht,d3g,Q5]
 | x::rest,i,es,k,hl,hi,h,hf,h0,h1=>by
  have hx:=hf x (by simp);simp only[List.length_cons] at hi;have hin:i < n:=by omega
  have hi2:i < es.length:=by omega
  have hlt:ltI (i:Int) (n:Int)=true:=C4 (by omega);have hw:IntKind.i64.wrap ((i:Int)+1)=((i+1:Nat):Int):=by rw[A5] <;> omega
  have hd:=List.drop_eq_getElem_cons hi2;rw[h,List.map_cons,List.cons.injEq] at hd;obtain ⟨hz1,hr⟩:=hd;have hz1:=hz1.symm;rw[b4f] at h1;simp only[a4n] at h1;obtain ⟨k1,e1⟩:∃ z,z=k+(P3 x:Nat):=⟨_,rfl⟩;obtain ⟨b0,g0⟩:=g5w x k (by omega) (by omega) (by simp only[J5,a1z] at hx;omega) (fun y hy=>by have:=b4j hy;simp only[J5,a1z] at hx;omega)
  rw[← e1] at g0;have hk:k1+(P0 rest:Nat)=k+(P0 (x::rest):Nat):=by rw[b4f];simp only[a4n];omega
  have hm:Q5 k (x::rest)=(M6 k x:List Step)::Q5 k1 rest:=by
   have e:k1=k+(a4n x:Nat):=by simp only[a4n];omega
   have e2:c8f k x=(M6 k x:List Step):=by subst_vars;rfl
   simp only[Q5];rw[e2,e]
  have ih:=e1i n hn rest (i+1) (es.set i (H5 (M6 k x:List Step))) k1 (by simpa using hl) (by omega) (by rw[List.drop_set_of_lt (by omega)];exact hr.symm) (fun y hy=>hf y (by simp[hy])) (by omega) (by omega);have hes:(es.set i (H5 (M6 k x:List Step))).take (i+1)=es.take i++[H5 (M6 k x:List Step)]:=by
   rw[List.take_add_one,List.take_set_of_le (Nat.le_refl _)];simp[hi2]
  rw[hk,hes,List.append_assoc] at ih;rw[hm];refine C1 ?_ (by simpa only[List.length_cons,List.map_cons,List.singleton_append] using ih);simp (maxSteps:=1000000) +contextual -dsimp [f119,hlt,hi2,hin,hw,hz1,hl,g0,V8,a1x,a1v,a2u,N3,a1b,a1h,a3b,valArg,List.set]
theorem g5x (l:List (List Step)) (k:Int) (h0:0≤k) (h1:k+(P0 l:Nat) < 2 ^ 60) (hn:l.length≤2097152) (hf:∀ x,x∈l→J5 x≤2097152):∃ b,fo 119 [⟨.ref 0 0 [] 0 l.length,some ⟨0,0,false,[.own 160 (l.map H5)]⟩⟩,A (vI k)]=some ⟨vI (k+(P0 l:Nat)),[(0,[.own 160 ((Q5 k l).map H5)])],b⟩:=by
 have hlp:=e1i l.length hn l 0 (l.map H5) k (by simp) (by simp) rfl hf h0 (by omega);have hcl:=a1q (Q5 k l);refine ⟨true,h6m (l.length+1) ?_⟩;generalize k+(P0 l:Nat)=k' at *;generalize Q5 k l=l' at *;simp -dsimp [f119] at hlp;simp (maxSteps:=1000000) +contextual -dsimp [f119,hlp,hcl,V9,K7,List.set]
theorem e1j (n:Nat) (hn:n≤2097152):∀ (rest:List Inst) (i:Nat) (es:List (List T)) (k:Int),es.length=n→i+rest.length=n→es.drop i=rest.map L7→(∀ x,x∈rest→H9 x≤2097152)→0≤k→k+(P4 rest:Nat) < 2 ^ 60→
  A6 E (orc E) (120:Nat) (rest.length+1) (A8 f120 0) ⟨60,[(0,.ref 0 0 [] 0 n),(1,vI k),(5,vI i)],[(0,⟨0,0,false,[.own 163 es]⟩)],2⟩=
  some (.exit 0,⟨60,[(0,.ref 0 0 [] 0 n),(1,vI (k+(P4 rest:Nat))),(5,vI (n:Nat)),(9,vB false)],[(0,⟨0,0,false,[.own 163 (es.take i++(Q6 k rest).map L7)]⟩)],2⟩)
 | [],i,es,k,hl,hi,h,hf,h0,h1=>by
  have e:i=n:=by simpa using hi
  subst e;have hlt:ltI (i:Int) (i:Int)=false:=B6 (by omega);have ht:es.take i=es:=List.take_of_length_le (by omega);rw[C3];simp +contextual -dsimp [f120,hlt,ht,d3h,Q6]
 | x::rest,i,es,k,hl,hi,h,hf,h0,h1=>by
  have hx:=hf x (by simp);simp only[List.length_cons] at hi;have hin:i < n:=by omega
  have hi2:i < es.length:=by omega
  have hlt:ltI (i:Int) (n:Int)=true:=C4 (by omega);have hw:IntKind.i64.wrap ((i:Int)+1)=((i+1:Nat):Int):=by rw[A5] <;> omega
  have hd:=List.drop_eq_getElem_cons hi2;rw[h,List.map_cons,List.cons.injEq] at hd;obtain ⟨hz1,hr⟩:=hd;have hz1:=hz1.symm;rw[b4g] at h1;simp only[a4o] at h1;obtain ⟨k1,e1⟩:∃ z,z=k+1:=⟨_,rfl⟩;have w0:IntKind.i64.wrap (k+1)=k1:=by rw[e1,A5] <;> omega
  obtain ⟨k2,e2⟩:∃ z,z=k1+1:=⟨_,rfl⟩;have w1:IntKind.i64.wrap (k1+1)=k2:=by rw[e2,A5] <;> omega
  obtain ⟨k3,e3⟩:∃ z,z=k2+1:=⟨_,rfl⟩;have w2:IntKind.i64.wrap (k2+1)=k3:=by rw[e3,A5] <;> omega
  obtain ⟨k4,e4⟩:∃ z,z=k3+(K0 x.chart.vars:Nat):=⟨_,rfl⟩;obtain ⟨b3,g3⟩:=b6v x.chart.vars k3 (by omega) (by omega) (by simp only[H9,J2] at hx;omega);rw[← e4] at g3;obtain ⟨k5,e5⟩:∃ z,z=k4+(K0 x.chart.acts:Nat):=⟨_,rfl⟩;obtain ⟨b4,g4⟩:=b6v x.chart.acts k4 (by omega) (by omega) (by simp only[H9,J2] at hx;omega);rw[← e5] at g4;obtain ⟨k6,e6⟩:∃ z,z=k5+(K0 x.chart.dues:Nat):=⟨_,rfl⟩;obtain ⟨b5,g5⟩:=b6v x.chart.dues k5 (by omega) (by omega) (by simp only[H9,J2] at hx;omega);rw[← e6] at g5;have hk:k6+(P4 rest:Nat)=k+(P4 (x::rest):Nat):=by rw[b4g];simp only[a4o];omega
  have hm:Q6 k (x::rest)=({ proc:=k,chart:={ status:=k1,now:=k2,vars:=G6 k3 x.chart.vars,acts:=G6 k4 x.chart.acts,dues:=G6 k5 x.chart.dues } }:Inst)::Q6 k6 rest:=by
   have e:k6=k+(a4o x:Nat):=by simp only[a4o];omega
   have e2:c8g k x=({ proc:=k,chart:={ status:=k1,now:=k2,vars:=G6 k3 x.chart.vars,acts:=G6 k4 x.chart.acts,dues:=G6 k5 x.chart.dues } }:Inst):=by subst_vars;rfl
   simp only[Q6];rw[e2,e]
  have ih:=e1j n hn rest (i+1) (es.set i (L7 ({ proc:=k,chart:={ status:=k1,now:=k2,vars:=G6 k3 x.chart.vars,acts:=G6 k4 x.chart.acts,dues:=G6 k5 x.chart.dues } }:Inst))) k6 (by simpa using hl) (by omega) (by rw[List.drop_set_of_lt (by omega)];exact hr.symm) (fun y hy=>hf y (by simp[hy])) (by omega) (by omega);have hes:(es.set i (L7 ({ proc:=k,chart:={ status:=k1,now:=k2,vars:=G6 k3 x.chart.vars,acts:=G6 k4 x.chart.acts,dues:=G6 k5 x.chart.dues } }:Inst))).take (i+1)=es.take i++[L7 ({ proc:=k,chart:={ status:=k1,now:=k2,vars:=G6 k3 x.chart.vars,acts:=G6 k4 x.chart.acts,dues:=G6 k5 x.chart.dues } }:Inst)]:=by
   rw[List.take_add_one,List.take_set_of_le (Nat.le_refl _)];simp[hi2]
  rw[hk,hes,List.append_assoc] at ih;rw[hm];refine C1 ?_ (by simpa only[List.length_cons,List.map_cons,List.singleton_append] using ih);simp (maxSteps:=1000000) +contextual -dsimp [f120,hlt,hi2,hin,hw,hz1,hl,w0,w1,w2,g3,g4,g5,V8,a1x,a1v,a2u,N3,a1b,a1h,a3b,valArg,List.set]
theorem g5y (l:List Inst) (k:Int) (h0:0≤k) (h1:k+(P4 l:Nat) < 2 ^ 60) (hn:l.length≤2097152) (hf:∀ x,x∈l→H9 x≤2097152):∃ b,fo 120 [⟨.ref 0 0 [] 0 l.length,some ⟨0,0,false,[.own 163 (l.map L7)]⟩⟩,A (vI k)]=some ⟨vI (k+(P4 l:Nat)),[(0,[.own 163 ((Q6 k l).map L7)])],b⟩:=by
 have hlp:=e1j l.length hn l 0 (l.map L7) k (by simp) (by simp) rfl hf h0 (by omega);have hcl:=a2t (Q6 k l);refine ⟨true,h6n (l.length+1) ?_⟩;generalize k+(P4 l:Nat)=k' at *;generalize Q6 k l=l' at *;simp -dsimp [f120] at hlp;simp (maxSteps:=1000000) +contextual -dsimp [f120,hlp,hcl,V9,K7,List.set]
theorem d6x (n:Nat) (hn:n≤2097152):∀ (rest:List Claim) (i:Nat) (es:List (List T)) (k:Int),es.length=n→i+rest.length=n→es.drop i=rest.map kT→0≤k→k+(Q0 rest:Nat) < 2 ^ 60→
  A6 E (orc E) (103:Nat) (rest.length+1) (A8 f103 0) ⟨34,[(0,.ref 0 0 [] 0 n),(1,vI k),(5,vI i)],[(0,⟨0,0,false,[.own 150 es]⟩)],2⟩=
  some (.exit 0,⟨34,[(0,.ref 0 0 [] 0 n),(1,vI (k+(Q0 rest:Nat))),(5,vI (n:Nat)),(9,vB false)],[(0,⟨0,0,false,[.own 150 (es.take i++(Q2 k rest).map kT)]⟩)],2⟩)
 | [],i,es,k,hl,hi,h,h0,h1=>by
  have e:i=n:=by simpa using hi
  subst e;have hlt:ltI (i:Int) (i:Int)=false:=B6 (by omega);have ht:es.take i=es:=List.take_of_length_le (by omega);rw[C3];simp +contextual -dsimp [f103,hlt,ht,d1z,Q2]
 | x::rest,i,es,k,hl,hi,h,h0,h1=>by
  simp only[List.length_cons] at hi;have hin:i < n:=by omega
  have hi2:i < es.length:=by omega
  have hlt:ltI (i:Int) (n:Int)=true:=C4 (by omega);have hw:IntKind.i64.wrap ((i:Int)+1)=((i+1:Nat):Int):=by rw[A5] <;> omega
  have hd:=List.drop_eq_getElem_cons hi2;rw[h,List.map_cons,List.cons.injEq] at hd;obtain ⟨hz1,hr⟩:=hd;have hz1:=hz1.symm;rw[b3y] at h1;simp only[a4i] at h1;obtain ⟨k1,e1⟩:∃ z,z=k+1:=⟨_,rfl⟩;have w0:IntKind.i64.wrap (k+1)=k1:=by rw[e1,A5] <;> omega
  obtain ⟨k2,e2⟩:∃ z,z=k1+1:=⟨_,rfl⟩;have w1:IntKind.i64.wrap (k1+1)=k2:=by rw[e2,A5] <;> omega
  obtain ⟨k3,e3⟩:∃ z,z=k2+1:=⟨_,rfl⟩;have w2:IntKind.i64.wrap (k2+1)=k3:=by rw[e3,A5] <;> omega
  have hk:k3+(Q0 rest:Nat)=k+(Q0 (x::rest):Nat):=by rw[b3y];simp only[a4i];omega
  have hm:Q2 k (x::rest)=({ inst:=k,step:=k1,user:=k2 }:Claim)::Q2 k3 rest:=by
   have e:k3=k+(a4i x:Nat):=by simp only[a4i];omega
   have e2:c7k k x=({ inst:=k,step:=k1,user:=k2 }:Claim):=by subst_vars;rfl
   simp only[Q2];rw[e2,e]
  have ih:=d6x n hn rest (i+1) (es.set i (kT ({ inst:=k,step:=k1,user:=k2 }:Claim))) k3 (by simpa using hl) (by omega) (by rw[List.drop_set_of_lt (by omega)];exact hr.symm) (by omega) (by omega);have hes:(es.set i (kT ({ inst:=k,step:=k1,user:=k2 }:Claim))).take (i+1)=es.take i++[kT ({ inst:=k,step:=k1,user:=k2 }:Claim)]:=by
   rw[List.take_add_one,List.take_set_of_le (Nat.le_refl _)];simp[hi2]
  rw[hk,hes,List.append_assoc] at ih;rw[hm];refine C1 ?_ (by simpa only[List.length_cons,List.map_cons,List.singleton_append] using ih);simp (maxSteps:=1000000) +contextual -dsimp [f103,hlt,hi2,hin,hw,hz1,hl,w0,w1,w2,V8,a1x,a1v,a2u,N3,a1b,a1h,a3b,valArg,List.set]
theorem g4x (l:List Claim) (k:Int) (h0:0≤k) (h1:k+(Q0 l:Nat) < 2 ^ 60) (hn:l.length≤2097152):∃ b,fo 103 [⟨.ref 0 0 [] 0 l.length,some ⟨0,0,false,[.own 150 (l.map kT)]⟩⟩,A (vI k)]=some ⟨vI (k+(Q0 l:Nat)),[(0,[.own 150 ((Q2 k l).map kT)])],b⟩:=by
 have hlp:=d6x l.length hn l 0 (l.map kT) k (by simp) (by simp) rfl h0 (by omega);have hcl:=a2r (Q2 k l);refine ⟨true,h5w (l.length+1) ?_⟩;generalize k+(Q0 l:Nat)=k' at *;generalize Q2 k l=l' at *;simp -dsimp [f103] at hlp;simp (maxSteps:=1000000) +contextual -dsimp [f103,hlp,hcl,V9,K7,List.set]
def a1u (x:Engine):Nat:=P0 x.procs+P4 x.insts
noncomputable def b0j (k:Int) (x:Engine):Engine:={ x with procs:=Q5 (k) x.procs,insts:=Q6 (k+(P0 x.procs:Nat)) x.insts }
theorem g4y (x:Engine) (k:Int) (h0:0≤k) (h1:k+(a1u x:Nat) < 2 ^ 59) (hx:D8 x≤2097152):∃ b,fo 44 [⟨.agg [.ref 0 0 [] 0 x.procs.length,.ref 0 0 [] 1 x.insts.length,vI x.now],some ⟨0,0,false,[.own 160 (x.procs.map H5),.own 163 (x.insts.map L7),.dead]⟩⟩,A (vI k)]=some ⟨vI (k+(a1u x:Nat)),[(0,b2p (b0j k x))],b⟩:=by
 simp only[a1u] at h1;obtain ⟨k1,e1⟩:∃ z,z=k+(P0 x.procs:Nat):=⟨_,rfl⟩;obtain ⟨b0,g0⟩:=g5x x.procs k (by omega) (by omega) (by simp only[D8,Q7] at hx;omega) (fun y hy=>by have:=b4k hy;simp only[D8,Q7] at hx;omega)
 rw[← e1] at g0;obtain ⟨k2,e2⟩:∃ z,z=k1+(P4 x.insts:Nat):=⟨_,rfl⟩;obtain ⟨b1,g1⟩:=g5y x.insts k1 (by omega) (by omega) (by simp only[D8,U8] at hx;omega) (fun y hy=>by have:=b4l hy;simp only[D8,U8] at hx;omega)
 rw[← e2] at g1;have hk:k+(a1u x:Nat)=k2:=by simp only[a1u];omega
 have hm:b0j k x={ x with procs:=Q5 k x.procs,insts:=Q6 k1 x.insts }:=by subst_vars;rfl
 rw[hk,hm];refine ⟨true,i3j 1 ?_⟩;simp (maxSteps:=1000000) +contextual -dsimp [f44,g0,g1,a1q,a2t,a1e,a8p,a6r,V9,K7,V8,a1x,a1v,a2u,N3,a1b,a1h,a3b,valArg,List.set]
def a0p (x:Desk):Nat:=a1u x.eng+Q0 x.claims
noncomputable def a9j (k:Int) (x:Desk):Desk:={ x with eng:=b0j (k) x.eng,claims:=Q2 (k+(a1u x.eng:Nat)) x.claims }
theorem d4s (x:Desk) (k:Int) (h0:0≤k) (h1:k+(a0p x:Nat) < 2 ^ 59) (hx:K9 x≤2097152):∃ b,fo 35 [⟨.agg [.ref 0 0 [] 0 x.eng.procs.length,.ref 0 0 [] 1 x.eng.insts.length,vI x.eng.now,.ref 0 0 [] 3 x.claims.length],some ⟨0,0,false,[.own 160 (x.eng.procs.map H5),.own 163 (x.eng.insts.map L7),.dead,.own 150 (x.claims.map kT)]⟩⟩,A (vI k)]=some ⟨vI (k+(a0p x:Nat)),[(0,g2l (a9j k x))],b⟩:=by
 simp only[a0p] at h1;obtain ⟨k1,e1⟩:∃ z,z=k+(a1u x.eng:Nat):=⟨_,rfl⟩;obtain ⟨b0,g0⟩:=g4y x.eng k (by omega) (by omega) (by simp only[K9] at hx;omega);rw[← e1] at g0;obtain ⟨k2,e2⟩:∃ z,z=k1+(Q0 x.claims:Nat):=⟨_,rfl⟩;obtain ⟨b1,g1⟩:=g4x x.claims k1 (by omega) (by omega) (by simp only[K9,D8] at hx;omega);rw[← e2] at g1;have hk:k+(a0p x:Nat)=k2:=by simp only[a0p];omega
 have hm:a9j k x={ x with eng:=b0j k x.eng,claims:=Q2 k1 x.claims }:=by subst_vars;rfl
 rw[hk,hm];refine ⟨true,i3d 1 ?_⟩;simp (maxSteps:=1000000) +contextual -dsimp [f35,g0,g1,a1q,a2t,a2r,a1e,a8p,a6r,V9,K7,V8,a1x,a1v,a2u,N3,a1b,a1h,a3b,valArg,List.set]
 all_goals (repeat' (first | rfl | constructor))
def a2s (x:DeskR):Nat:=a0p x.desk
noncomputable def a7i (k:Int) (x:DeskR):DeskR:={ x with desk:=a9j (k) x.desk }
theorem g3n (x:DeskR) (k:Int) (h0:0≤k) (h1:k+(a2s x:Nat) < 2 ^ 59) (hx:a3o x≤2097152):∃ b,fo 36 [⟨.agg [vI x.code,vI x.value,.ref 0 0 [] 2 x.desk.eng.procs.length,.ref 0 0 [] 3 x.desk.eng.insts.length,vI x.desk.eng.now,.ref 0 0 [] 5 x.desk.claims.length],some ⟨0,0,false,[.dead,.dead,.own 160 (x.desk.eng.procs.map H5),.own 163 (x.desk.eng.insts.map L7),.dead,.own 150 (x.desk.claims.map kT)]⟩⟩,A (vI k)]=some ⟨vI (k+(a2s x:Nat)),[(0,d3b (a7i k x))],b⟩:=by
 simp only[a2s] at h1;obtain ⟨k1,e1⟩:∃ z,z=k+(a0p x.desk:Nat):=⟨_,rfl⟩;obtain ⟨b0,g0⟩:=d4s x.desk k (by omega) (by omega) (by simp only[a3o] at hx;omega);rw[← e1] at g0;have hk:k+(a2s x:Nat)=k1:=by simp only[a2s];omega
 have hm:a7i k x={ x with desk:=a9j k x.desk }:=by subst_vars;rfl
 rw[hk,hm];refine ⟨true,i3e 1 ?_⟩;simp (maxSteps:=1000000) +contextual -dsimp [f36,g0,a1q,a2t,a2r,a1e,a8p,a6r,V9,K7,V8,a1x,a1v,a2u,N3,a1b,a1h,a3b,valArg,List.set]
 all_goals (repeat' (first | rfl | constructor))
end Go.TM.Ft
