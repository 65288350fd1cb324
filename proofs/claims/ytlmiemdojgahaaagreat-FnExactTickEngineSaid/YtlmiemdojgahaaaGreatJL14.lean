/- What functions of the program come to, by the machine. -/
import Derived.Test.YtlmiemdojgahaaaGreatJL13
set_option linter.unusedSimpArgs false
set_option linter.unusedVariables false
set_option maxHeartbeats 4000000
namespace Go.TM.Ft
open Go Go.TM Go.Proofs Go.Proofs.Tryz
set_option maxRecDepth 20000
attribute [local congr] K9
attribute [local simp] J8 K0 J0 J9 H3 J6 H4 G4 H5 G1
noncomputable section
def G5:Int→List Int→List Int
 | _,[]=>[]
 | k,_::r=>k::G5 (k+1) r
def K5 (l:List Int):Nat:=l.length
theorem d0z:K5 []=0:=rfl
theorem b5o (x:Int) (r:List Int):K5 (x::r)=1+K5 r:=by simp only [K5,List.length_cons]; omega
def a4i (x:Node):Nat:=1+1+1+1
def M3:List Node→Nat
 | []=>0
 | x::r=>a4i x+M3 r
theorem c9n:M3 []=0:=rfl
theorem b3c (x:Node) (r:List Node):M3 (x::r)=a4i x+M3 r:=rfl
def c5i (k:Int) (x:Node):Node:={ kind:=k,value:=k+1,left:=k+1+1,right:=k+1+1+1 }
def J5:Int→List Node→List Node
 | _,[]=>[]
 | k,x::r=>c5i k x::J5 (k+(a4i x:Nat)) r
def a3q (x:Step):Nat:=1+1+1+1+M3 x.cond+M3 x.expr
def N9:List Step→Nat
 | []=>0
 | x::r=>a3q x+N9 r
theorem c9o:N9 []=0:=rfl
theorem b3d (x:Step) (r:List Step):N9 (x::r)=a3q x+N9 r:=rfl
def c5j (k:Int) (x:Step):Step:={ kind:=k,parent:=k+1,name:=a6v (k+1+1),arg:=k+1+1+1,cond:=J5 (k+1+1+1+1) x.cond,expr:=J5 (k+1+1+1+1+(M3 x.cond:Nat)) x.expr }
def L4:Int→List Step→List Step
 | _,[]=>[]
 | k,x::r=>c5j k x::L4 (k+(a3q x:Nat)) r
def a4j (x:List Step):Nat:=N9 x
def N4:List (List Step)→Nat
 | []=>0
 | x::r=>a4j x+N4 r
theorem c9p:N4 []=0:=rfl
theorem b3e (x:List Step) (r:List (List Step)):N4 (x::r)=a4j x+N4 r:=rfl
def c5k (k:Int) (x:List Step):List Step:=L4 (k) x
def O9:Int→List (List Step)→List (List Step)
 | _,[]=>[]
 | k,x::r=>c5k k x::O9 (k+(a4j x:Nat)) r
def a4k (x:Inst):Nat:=1+1+1+K5 x.chart.vars+K5 x.chart.acts+K5 x.chart.dues
def O0:List Inst→Nat
 | []=>0
 | x::r=>a4k x+O0 r
theorem c9q:O0 []=0:=rfl
theorem b3f (x:Inst) (r:List Inst):O0 (x::r)=a4k x+O0 r:=rfl
def c5l (k:Int) (x:Inst):Inst:={ proc:=k,chart:={ status:=k+1,now:=k+1+1,vars:=G5 (k+1+1+1) x.chart.vars,acts:=G5 (k+1+1+1+(K5 x.chart.vars:Nat)) x.chart.acts,dues:=G5 (k+1+1+1+(K5 x.chart.vars:Nat)+(K5 x.chart.acts:Nat)) x.chart.dues } }
def P0:Int→List Inst→List Inst
 | _,[]=>[]
 | k,x::r=>c5l k x::P0 (k+(a4k x:Nat)) r
end
theorem e9t (n:Nat) (hn:n≤2097152):∀ (rest:List Int) (i:Nat) (es:List (List T)) (k:Int),es.length=n→i+rest.length=n→es.drop i=rest.map iV→0≤k→k+(K5 rest:Nat) < 2 ^ 60→
  A5 E (orc E) (25:Nat) (rest.length+1) (B3 f25 0) ⟨19,[(0,.ref 0 0 [] 0 n),(1,vI k),(5,vI i)],[(0,⟨0,0,false,[.own 2 es]⟩)],2⟩=
  some (.exit 0,⟨19,[(0,.ref 0 0 [] 0 n),(1,vI (k+(K5 rest:Nat))),(5,vI (n:Nat)),(9,vB false)],[(0,⟨0,0,false,[.own 2 (es.take i++(G5 k rest).map iV)]⟩)],2⟩)
 | [],i,es,k,hl,hi,h,h0,h1=>by
  have e:i=n:=by simpa using hi
  subst e
  have hlt:ltI (i:Int) (i:Int)=false:=B7 (by omega)
  have ht:es.take i=es:=List.take_of_length_le (by omega)
  rw [C2]
  simp +contextual -dsimp [f25,hlt,ht,d0z,G5]
 | x::rest,i,es,k,hl,hi,h,h0,h1=>by
  simp only [List.length_cons] at hi
  have hin:i < n:=by omega
  have hi2:i < es.length:=by omega
  have hlt:ltI (i:Int) (n:Int)=true:=C5 (by omega)
  have hw:IntKind.i64.wrap ((i:Int)+1)=((i+1:Nat):Int):=by rw [A6] <;> omega
  have hd:=List.drop_eq_getElem_cons hi2
  rw [h,List.map_cons,List.cons.injEq] at hd
  obtain ⟨hz1,hr⟩:=hd
  have hz1:=hz1.symm
  rw [b5o] at h1
  obtain ⟨k1,e1⟩:∃ z,z=k+1:=⟨_,rfl⟩
  have w0:IntKind.i64.wrap (k+1)=k1:=by rw [e1,A6] <;> omega
  have hk:k1+(K5 rest:Nat)=k+(K5 (x::rest):Nat):=by rw [b5o]; omega
  have hm:G5 k (x::rest)=k::G5 k1 rest:=by rw [e1]; rfl
  have ih:=e9t n hn rest (i+1) (es.set i (iV k)) k1 (by simpa using hl) (by omega) (by rw [List.drop_set_of_lt (by omega)]; exact hr.symm) (by omega) (by omega)
  have hes:(es.set i (iV k)).take (i+1)=es.take i++[iV k]:=by
   rw [List.take_add_one,List.take_set_of_le (Nat.le_refl _)]
   simp [hi2]
  rw [hk,hes,List.append_assoc] at ih
  rw [hm]
  refine C0 ?_ (by simpa only [List.length_cons,List.map_cons,List.singleton_append] using ih)
  simp (maxSteps:=1000000) +contextual -dsimp [f25,hlt,hi2,hin,hw,hz1,hl,w0,a1e,a3o,a3m,a5a,O1,a2r,a3a,a5d,valArg,List.set]
theorem b9h (l:List Int) (k:Int) (h0:0≤k) (h1:k+(K5 l:Nat) < 2 ^ 60) (hn:l.length≤2097152):∃ b,fo 25 [⟨.ref 0 0 [] 0 l.length,some ⟨0,0,false,[.own 2 (l.map iV)]⟩⟩,A (vI k)]=some ⟨vI (k+(K5 l:Nat)),[(0,[.own 2 ((G5 k l).map iV)])],b⟩:=by
 have hlp:=e9t l.length hn l 0 (l.map iV) k (by simp) (by simp) rfl h0 (by omega)
 have hcl:=a6a (G5 k l)
 refine ⟨true,h2u (l.length+1) ?_⟩
 generalize k+(K5 l:Nat)=k' at *
 generalize G5 k l=l' at *
 simp -dsimp [f25] at hlp
 simp (maxSteps:=1000000) +contextual -dsimp [f25,hlp,hcl,a1f,K6,List.set]
theorem d6w (n:Nat) (hn:n≤2097152):∀ (rest:List Node) (i:Nat) (es:List (List T)) (k:Int),es.length=n→i+rest.length=n→es.drop i=rest.map nT→0≤k→k+(M3 rest:Nat) < 2 ^ 60→
  A5 E (orc E) (86:Nat) (rest.length+1) (B3 f86 0) ⟨41,[(0,.ref 0 0 [] 0 n),(1,vI k),(5,vI i)],[(0,⟨0,0,false,[.own 219 es]⟩)],2⟩=
  some (.exit 0,⟨41,[(0,.ref 0 0 [] 0 n),(1,vI (k+(M3 rest:Nat))),(5,vI (n:Nat)),(9,vB false)],[(0,⟨0,0,false,[.own 219 (es.take i++(J5 k rest).map nT)]⟩)],2⟩)
 | [],i,es,k,hl,hi,h,h0,h1=>by
  have e:i=n:=by simpa using hi
  subst e
  have hlt:ltI (i:Int) (i:Int)=false:=B7 (by omega)
  have ht:es.take i=es:=List.take_of_length_le (by omega)
  rw [C2]
  simp +contextual -dsimp [f86,hlt,ht,c9n,J5]
 | x::rest,i,es,k,hl,hi,h,h0,h1=>by
  simp only [List.length_cons] at hi
  have hin:i < n:=by omega
  have hi2:i < es.length:=by omega
  have hlt:ltI (i:Int) (n:Int)=true:=C5 (by omega)
  have hw:IntKind.i64.wrap ((i:Int)+1)=((i+1:Nat):Int):=by rw [A6] <;> omega
  have hd:=List.drop_eq_getElem_cons hi2
  rw [h,List.map_cons,List.cons.injEq] at hd
  obtain ⟨hz1,hr⟩:=hd
  have hz1:=hz1.symm
  rw [b3c] at h1
  simp only [a4i] at h1
  obtain ⟨k1,e1⟩:∃ z,z=k+1:=⟨_,rfl⟩
  have w0:IntKind.i64.wrap (k+1)=k1:=by rw [e1,A6] <;> omega
  obtain ⟨k2,e2⟩:∃ z,z=k1+1:=⟨_,rfl⟩
  have w1:IntKind.i64.wrap (k1+1)=k2:=by rw [e2,A6] <;> omega
  obtain ⟨k3,e3⟩:∃ z,z=k2+1:=⟨_,rfl⟩
  have w2:IntKind.i64.wrap (k2+1)=k3:=by rw [e3,A6] <;> omega
  obtain ⟨k4,e4⟩:∃ z,z=k3+1:=⟨_,rfl⟩
  have w3:IntKind.i64.wrap (k3+1)=k4:=by rw [e4,A6] <;> omega
  have hk:k4+(M3 rest:Nat)=k+(M3 (x::rest):Nat):=by rw [b3c]; simp only [a4i]; omega
  have hm:J5 k (x::rest)=({ kind:=k,value:=k1,left:=k2,right:=k3 }:Node)::J5 k4 rest:=by
   have e:k4=k+(a4i x:Nat):=by simp only [a4i]; omega
   have e2:c5i k x=({ kind:=k,value:=k1,left:=k2,right:=k3 }:Node):=by subst_vars; rfl
   simp only [J5]; rw [e2,e]
  have ih:=d6w n hn rest (i+1) (es.set i (nT ({ kind:=k,value:=k1,left:=k2,right:=k3 }:Node))) k4 (by simpa using hl) (by omega) (by rw [List.drop_set_of_lt (by omega)]; exact hr.symm) (by omega) (by omega)
  have hes:(es.set i (nT ({ kind:=k,value:=k1,left:=k2,right:=k3 }:Node))).take (i+1)=es.take i++[nT ({ kind:=k,value:=k1,left:=k2,right:=k3 }:Node)]:=by
   rw [List.take_add_one,List.take_set_of_le (Nat.le_refl _)]
   simp [hi2]
  rw [hk,hes,List.append_assoc] at ih
  rw [hm]
  refine C0 ?_ (by simpa only [List.length_cons,List.map_cons,List.singleton_append] using ih)
  simp (maxSteps:=1000000) +contextual -dsimp [f86,hlt,hi2,hin,hw,hz1,hl,w0,w1,w2,w3,a1e,a3o,a3m,a5a,O1,a2r,a3a,a5d,valArg,List.set]
theorem c9r (l:List Node) (k:Int) (h0:0≤k) (h1:k+(M3 l:Nat) < 2 ^ 60) (hn:l.length≤2097152):∃ b,fo 86 [⟨.ref 0 0 [] 0 l.length,some ⟨0,0,false,[.own 219 (l.map nT)]⟩⟩,A (vI k)]=some ⟨vI (k+(M3 l:Nat)),[(0,[.own 219 ((J5 k l).map nT)])],b⟩:=by
 have hlp:=d6w l.length hn l 0 (l.map nT) k (by simp) (by simp) rfl h0 (by omega)
 have hcl:=a9s (J5 k l)
 refine ⟨true,h3g (l.length+1) ?_⟩
 generalize k+(M3 l:Nat)=k' at *
 generalize J5 k l=l' at *
 simp -dsimp [f86] at hlp
 simp (maxSteps:=1000000) +contextual -dsimp [f86,hlp,hcl,a1f,K6,List.set]
theorem d6x (n:Nat) (hn:n≤2097152):∀ (rest:List Step) (i:Nat) (es:List (List T)) (k:Int),es.length=n→i+rest.length=n→es.drop i=rest.map M5→(∀ x,x∈rest→G8 x≤2097152)→0≤k→k+(N9 rest:Nat) < 2 ^ 60→
  A5 E (orc E) (24:Nat) (rest.length+1) (B3 f24 0) ⟨56,[(0,.ref 0 0 [] 0 n),(1,vI k),(5,vI i)],[(0,⟨0,0,false,[.own 124 es]⟩)],2⟩=
  some (.exit 0,⟨56,[(0,.ref 0 0 [] 0 n),(1,vI (k+(N9 rest:Nat))),(5,vI (n:Nat)),(9,vB false)],[(0,⟨0,0,false,[.own 124 (es.take i++(L4 k rest).map M5)]⟩)],2⟩)
 | [],i,es,k,hl,hi,h,hf,h0,h1=>by
  have e:i=n:=by simpa using hi
  subst e
  have hlt:ltI (i:Int) (i:Int)=false:=B7 (by omega)
  have ht:es.take i=es:=List.take_of_length_le (by omega)
  rw [C2]
  simp +contextual -dsimp [f24,hlt,ht,c9o,L4]
 | x::rest,i,es,k,hl,hi,h,hf,h0,h1=>by
  have hx:=hf x (by simp)
  simp only [List.length_cons] at hi
  have hin:i < n:=by omega
  have hi2:i < es.length:=by omega
  have hlt:ltI (i:Int) (n:Int)=true:=C5 (by omega)
  have hw:IntKind.i64.wrap ((i:Int)+1)=((i+1:Nat):Int):=by rw [A6] <;> omega
  have hd:=List.drop_eq_getElem_cons hi2
  rw [h,List.map_cons,List.cons.injEq] at hd
  obtain ⟨hz1,hr⟩:=hd
  have hz1:=hz1.symm
  rw [b3d] at h1
  simp only [a3q] at h1
  obtain ⟨k1,e1⟩:∃ z,z=k+1:=⟨_,rfl⟩
  have w0:IntKind.i64.wrap (k+1)=k1:=by rw [e1,A6] <;> omega
  obtain ⟨k2,e2⟩:∃ z,z=k1+1:=⟨_,rfl⟩
  have w1:IntKind.i64.wrap (k1+1)=k2:=by rw [e2,A6] <;> omega
  obtain ⟨k3,e3⟩:∃ z,z=k2+1:=⟨_,rfl⟩
  have w2:IntKind.i64.wrap (k2+1)=k3:=by rw [e3,A6] <;> omega
  have g2:=d0y k2 (by omega) (by omega)
  obtain ⟨k4,e4⟩:∃ z,z=k3+1:=⟨_,rfl⟩
  have w3:IntKind.i64.wrap (k3+1)=k4:=by rw [e4,A6] <;> omega
  obtain ⟨k5,e5⟩:∃ z,z=k4+(M3 x.cond:Nat):=⟨_,rfl⟩
  obtain ⟨b4,g4⟩:=c9r x.cond k4 (by omega) (by omega) (by simp only [G8] at hx; omega)
  rw [← e5] at g4
  obtain ⟨k6,e6⟩:∃ z,z=k5+(M3 x.expr:Nat):=⟨_,rfl⟩
  obtain ⟨b5,g5⟩:=c9r x.expr k5 (by omega) (by omega) (by simp only [G8] at hx; omega)
  rw [← e6] at g5
  have hk:k6+(N9 rest:Nat)=k+(N9 (x::rest):Nat):=by rw [b3d]; simp only [a3q]; omega
  have hm:L4 k (x::rest)=({ kind:=k,parent:=k1,name:=a6v k2,arg:=k3,cond:=J5 k4 x.cond,expr:=J5 k5 x.expr }:Step)::L4 k6 rest:=by
   have e:k6=k+(a3q x:Nat):=by simp only [a3q]; omega
   have e2:c5j k x=({ kind:=k,parent:=k1,name:=a6v k2,arg:=k3,cond:=J5 k4 x.cond,expr:=J5 k5 x.expr }:Step):=by subst_vars; rfl
   simp only [L4]; rw [e2,e]
  have ih:=d6x n hn rest (i+1) (es.set i (M5 ({ kind:=k,parent:=k1,name:=a6v k2,arg:=k3,cond:=J5 k4 x.cond,expr:=J5 k5 x.expr }:Step))) k6 (by simpa using hl) (by omega) (by rw [List.drop_set_of_lt (by omega)]; exact hr.symm) (fun y hy=>hf y (by simp [hy])) (by omega) (by omega)
  have hes:(es.set i (M5 ({ kind:=k,parent:=k1,name:=a6v k2,arg:=k3,cond:=J5 k4 x.cond,expr:=J5 k5 x.expr }:Step))).take (i+1)=es.take i++[M5 ({ kind:=k,parent:=k1,name:=a6v k2,arg:=k3,cond:=J5 k4 x.cond,expr:=J5 k5 x.expr }:Step)]:=by
   rw [List.take_add_one,List.take_set_of_le (Nat.le_refl _)]
   simp [hi2]
  rw [hk,hes,List.append_assoc] at ih
  rw [hm]
  refine C0 ?_ (by simpa only [List.length_cons,List.map_cons,List.singleton_append] using ih)
  simp (maxSteps:=1000000) +contextual -dsimp [f24,hlt,hi2,hin,hw,hz1,hl,w0,w1,w2,g2,w3,g4,g5,a1e,a3o,a3m,a5a,O1,a2r,a3a,a5d,valArg,List.set]
theorem f8c (l:List Step) (k:Int) (h0:0≤k) (h1:k+(N9 l:Nat) < 2 ^ 60) (hn:l.length≤2097152) (hf:∀ x,x∈l→G8 x≤2097152):∃ b,fo 24 [⟨.ref 0 0 [] 0 l.length,some ⟨0,0,false,[.own 124 (l.map M5)]⟩⟩,A (vI k)]=some ⟨vI (k+(N9 l:Nat)),[(0,[.own 124 ((L4 k l).map M5)])],b⟩:=by
 have hlp:=d6x l.length hn l 0 (l.map M5) k (by simp) (by simp) rfl hf h0 (by omega)
 have hcl:=b1e (L4 k l)
 refine ⟨true,h2t (l.length+1) ?_⟩
 generalize k+(N9 l:Nat)=k' at *
 generalize L4 k l=l' at *
 simp -dsimp [f24] at hlp
 simp (maxSteps:=1000000) +contextual -dsimp [f24,hlp,hcl,a1f,K6,List.set]
theorem d6y (n:Nat) (hn:n≤2097152):∀ (rest:List (List Step)) (i:Nat) (es:List (List T)) (k:Int),es.length=n→i+rest.length=n→es.drop i=rest.map J2→(∀ x,x∈rest→J4 x≤2097152)→0≤k→k+(N4 rest:Nat) < 2 ^ 60→
  A5 E (orc E) (119:Nat) (rest.length+1) (B3 f119 0) ⟨20,[(0,.ref 0 0 [] 0 n),(1,vI k),(5,vI i)],[(0,⟨0,0,false,[.own 160 es]⟩)],2⟩=
  some (.exit 0,⟨20,[(0,.ref 0 0 [] 0 n),(1,vI (k+(N4 rest:Nat))),(5,vI (n:Nat)),(9,vB false)],[(0,⟨0,0,false,[.own 160 (es.take i++(O9 k rest).map J2)]⟩)],2⟩)
 | [],i,es,k,hl,hi,h,hf,h0,h1=>by
  have e:i=n:=by simpa using hi
  subst e
  have hlt:ltI (i:Int) (i:Int)=false:=B7 (by omega)
  have ht:es.take i=es:=List.take_of_length_le (by omega)
  rw [C2]
  simp +contextual -dsimp [f119,hlt,ht,c9p,O9]
 | x::rest,i,es,k,hl,hi,h,hf,h0,h1=>by
  have hx:=hf x (by simp)
  simp only [List.length_cons] at hi
  have hin:i < n:=by omega
  have hi2:i < es.length:=by omega
  have hlt:ltI (i:Int) (n:Int)=true:=C5 (by omega)
  have hw:IntKind.i64.wrap ((i:Int)+1)=((i+1:Nat):Int):=by rw [A6] <;> omega
  have hd:=List.drop_eq_getElem_cons hi2
  rw [h,List.map_cons,List.cons.injEq] at hd
  obtain ⟨hz1,hr⟩:=hd
  have hz1:=hz1.symm
  rw [b3e] at h1
  simp only [a4j] at h1
  obtain ⟨k1,e1⟩:∃ z,z=k+(N9 x:Nat):=⟨_,rfl⟩
  obtain ⟨b0,g0⟩:=f8c x k (by omega) (by omega) (by simp only [J4,a1u] at hx; omega) (fun y hy=>by have:=b3i hy; simp only [J4,a1u] at hx; omega)
  rw [← e1] at g0
  have hk:k1+(N4 rest:Nat)=k+(N4 (x::rest):Nat):=by rw [b3e]; simp only [a4j]; omega
  have hm:O9 k (x::rest)=(L4 k x:List Step)::O9 k1 rest:=by
   have e:k1=k+(a4j x:Nat):=by simp only [a4j]; omega
   have e2:c5k k x=(L4 k x:List Step):=by subst_vars; rfl
   simp only [O9]; rw [e2,e]
  have ih:=d6y n hn rest (i+1) (es.set i (J2 (L4 k x:List Step))) k1 (by simpa using hl) (by omega) (by rw [List.drop_set_of_lt (by omega)]; exact hr.symm) (fun y hy=>hf y (by simp [hy])) (by omega) (by omega)
  have hes:(es.set i (J2 (L4 k x:List Step))).take (i+1)=es.take i++[J2 (L4 k x:List Step)]:=by
   rw [List.take_add_one,List.take_set_of_le (Nat.le_refl _)]
   simp [hi2]
  rw [hk,hes,List.append_assoc] at ih
  rw [hm]
  refine C0 ?_ (by simpa only [List.length_cons,List.map_cons,List.singleton_append] using ih)
  simp (maxSteps:=1000000) +contextual -dsimp [f119,hlt,hi2,hin,hw,hz1,hl,g0,a1e,a3o,a3m,a5a,O1,a2r,a3a,a5d,valArg,List.set]
theorem f8d (l:List (List Step)) (k:Int) (h0:0≤k) (h1:k+(N4 l:Nat) < 2 ^ 60) (hn:l.length≤2097152) (hf:∀ x,x∈l→J4 x≤2097152):∃ b,fo 119 [⟨.ref 0 0 [] 0 l.length,some ⟨0,0,false,[.own 160 (l.map J2)]⟩⟩,A (vI k)]=some ⟨vI (k+(N4 l:Nat)),[(0,[.own 160 ((O9 k l).map J2)])],b⟩:=by
 have hlp:=d6y l.length hn l 0 (l.map J2) k (by simp) (by simp) rfl hf h0 (by omega)
 have hcl:=a4c (O9 k l)
 refine ⟨true,g7l (l.length+1) ?_⟩
 generalize k+(N4 l:Nat)=k' at *
 generalize O9 k l=l' at *
 simp -dsimp [f119] at hlp
 simp (maxSteps:=1000000) +contextual -dsimp [f119,hlp,hcl,a1f,K6,List.set]
theorem d6z (n:Nat) (hn:n≤2097152):∀ (rest:List Inst) (i:Nat) (es:List (List T)) (k:Int),es.length=n→i+rest.length=n→es.drop i=rest.map L8→(∀ x,x∈rest→H9 x≤2097152)→0≤k→k+(O0 rest:Nat) < 2 ^ 60→
  A5 E (orc E) (120:Nat) (rest.length+1) (B3 f120 0) ⟨60,[(0,.ref 0 0 [] 0 n),(1,vI k),(5,vI i)],[(0,⟨0,0,false,[.own 163 es]⟩)],2⟩=
  some (.exit 0,⟨60,[(0,.ref 0 0 [] 0 n),(1,vI (k+(O0 rest:Nat))),(5,vI (n:Nat)),(9,vB false)],[(0,⟨0,0,false,[.own 163 (es.take i++(P0 k rest).map L8)]⟩)],2⟩)
 | [],i,es,k,hl,hi,h,hf,h0,h1=>by
  have e:i=n:=by simpa using hi
  subst e
  have hlt:ltI (i:Int) (i:Int)=false:=B7 (by omega)
  have ht:es.take i=es:=List.take_of_length_le (by omega)
  rw [C2]
  simp +contextual -dsimp [f120,hlt,ht,c9q,P0]
 | x::rest,i,es,k,hl,hi,h,hf,h0,h1=>by
  have hx:=hf x (by simp)
  simp only [List.length_cons] at hi
  have hin:i < n:=by omega
  have hi2:i < es.length:=by omega
  have hlt:ltI (i:Int) (n:Int)=true:=C5 (by omega)
  have hw:IntKind.i64.wrap ((i:Int)+1)=((i+1:Nat):Int):=by rw [A6] <;> omega
  have hd:=List.drop_eq_getElem_cons hi2
  rw [h,List.map_cons,List.cons.injEq] at hd
  obtain ⟨hz1,hr⟩:=hd
  have hz1:=hz1.symm
  rw [b3f] at h1
  simp only [a4k] at h1
  obtain ⟨k1,e1⟩:∃ z,z=k+1:=⟨_,rfl⟩
  have w0:IntKind.i64.wrap (k+1)=k1:=by rw [e1,A6] <;> omega
  obtain ⟨k2,e2⟩:∃ z,z=k1+1:=⟨_,rfl⟩
  have w1:IntKind.i64.wrap (k1+1)=k2:=by rw [e2,A6] <;> omega
  obtain ⟨k3,e3⟩:∃ z,z=k2+1:=⟨_,rfl⟩
  have w2:IntKind.i64.wrap (k2+1)=k3:=by rw [e3,A6] <;> omega
  obtain ⟨k4,e4⟩:∃ z,z=k3+(K5 x.chart.vars:Nat):=⟨_,rfl⟩
  obtain ⟨b3,g3⟩:=b9h x.chart.vars k3 (by omega) (by omega) (by simp only [H9,K2] at hx; omega)
  rw [← e4] at g3
  obtain ⟨k5,e5⟩:∃ z,z=k4+(K5 x.chart.acts:Nat):=⟨_,rfl⟩
  obtain ⟨b4,g4⟩:=b9h x.chart.acts k4 (by omega) (by omega) (by simp only [H9,K2] at hx; omega)
  rw [← e5] at g4
  obtain ⟨k6,e6⟩:∃ z,z=k5+(K5 x.chart.dues:Nat):=⟨_,rfl⟩
  obtain ⟨b5,g5⟩:=b9h x.chart.dues k5 (by omega) (by omega) (by simp only [H9,K2] at hx; omega)
  rw [← e6] at g5
  have hk:k6+(O0 rest:Nat)=k+(O0 (x::rest):Nat):=by rw [b3f]; simp only [a4k]; omega
  have hm:P0 k (x::rest)=({ proc:=k,chart:={ status:=k1,now:=k2,vars:=G5 k3 x.chart.vars,acts:=G5 k4 x.chart.acts,dues:=G5 k5 x.chart.dues } }:Inst)::P0 k6 rest:=by
   have e:k6=k+(a4k x:Nat):=by simp only [a4k]; omega
   have e2:c5l k x=({ proc:=k,chart:={ status:=k1,now:=k2,vars:=G5 k3 x.chart.vars,acts:=G5 k4 x.chart.acts,dues:=G5 k5 x.chart.dues } }:Inst):=by subst_vars; rfl
   simp only [P0]; rw [e2,e]
  have ih:=d6z n hn rest (i+1) (es.set i (L8 ({ proc:=k,chart:={ status:=k1,now:=k2,vars:=G5 k3 x.chart.vars,acts:=G5 k4 x.chart.acts,dues:=G5 k5 x.chart.dues } }:Inst))) k6 (by simpa using hl) (by omega) (by rw [List.drop_set_of_lt (by omega)]; exact hr.symm) (fun y hy=>hf y (by simp [hy])) (by omega) (by omega)
  have hes:(es.set i (L8 ({ proc:=k,chart:={ status:=k1,now:=k2,vars:=G5 k3 x.chart.vars,acts:=G5 k4 x.chart.acts,dues:=G5 k5 x.chart.dues } }:Inst))).take (i+1)=es.take i++[L8 ({ proc:=k,chart:={ status:=k1,now:=k2,vars:=G5 k3 x.chart.vars,acts:=G5 k4 x.chart.acts,dues:=G5 k5 x.chart.dues } }:Inst)]:=by
   rw [List.take_add_one,List.take_set_of_le (Nat.le_refl _)]
   simp [hi2]
  rw [hk,hes,List.append_assoc] at ih
  rw [hm]
  refine C0 ?_ (by simpa only [List.length_cons,List.map_cons,List.singleton_append] using ih)
  simp (maxSteps:=1000000) +contextual -dsimp [f120,hlt,hi2,hin,hw,hz1,hl,w0,w1,w2,g3,g4,g5,a1e,a3o,a3m,a5a,O1,a2r,a3a,a5d,valArg,List.set]
theorem f8e (l:List Inst) (k:Int) (h0:0≤k) (h1:k+(O0 l:Nat) < 2 ^ 60) (hn:l.length≤2097152) (hf:∀ x,x∈l→H9 x≤2097152):∃ b,fo 120 [⟨.ref 0 0 [] 0 l.length,some ⟨0,0,false,[.own 163 (l.map L8)]⟩⟩,A (vI k)]=some ⟨vI (k+(O0 l:Nat)),[(0,[.own 163 ((P0 k l).map L8)])],b⟩:=by
 have hlp:=d6z l.length hn l 0 (l.map L8) k (by simp) (by simp) rfl hf h0 (by omega)
 have hcl:=a5y (P0 k l)
 refine ⟨true,g7m (l.length+1) ?_⟩
 generalize k+(O0 l:Nat)=k' at *
 generalize P0 k l=l' at *
 simp -dsimp [f120] at hlp
 simp (maxSteps:=1000000) +contextual -dsimp [f120,hlp,hcl,a1f,K6,List.set]
def a0z (x:Engine):Nat:=N4 x.procs+O0 x.insts
noncomputable def a8m (k:Int) (x:Engine):Engine:={ x with procs:=O9 (k) x.procs,insts:=P0 (k+(N4 x.procs:Nat)) x.insts }
theorem c8n (x:Engine) (k:Int) (h0:0≤k) (h1:k+(a0z x:Nat) < 2 ^ 59) (hx:G7 x≤2097152):∃ b,fo 44 [⟨.agg [.ref 0 0 [] 0 x.procs.length,.ref 0 0 [] 1 x.insts.length,vI x.now],some ⟨0,0,false,[.own 160 (x.procs.map J2),.own 163 (x.insts.map L8),.dead]⟩⟩,A (vI k)]=some ⟨vI (k+(a0z x:Nat)),[(0,b1w (a8m k x))],b⟩:=by
 simp only [a0z] at h1
 obtain ⟨k1,e1⟩:∃ z,z=k+(N4 x.procs:Nat):=⟨_,rfl⟩
 obtain ⟨b0,g0⟩:=f8d x.procs k (by omega) (by omega) (by simp only [G7,P8] at hx; omega) (fun y hy=>by have:=b3j hy; simp only [G7,P8] at hx; omega)
 rw [← e1] at g0
 obtain ⟨k2,e2⟩:∃ z,z=k1+(O0 x.insts:Nat):=⟨_,rfl⟩
 obtain ⟨b1,g1⟩:=f8e x.insts k1 (by omega) (by omega) (by simp only [G7,Q9] at hx; omega) (fun y hy=>by have:=b3k hy; simp only [G7,Q9] at hx; omega)
 rw [← e2] at g1
 have hk:k+(a0z x:Nat)=k2:=by simp only [a0z]; omega
 have hm:a8m k x={ x with procs:=O9 k x.procs,insts:=P0 k1 x.insts }:=by subst_vars; rfl
 rw [hk,hm]
 refine ⟨true,h2z 1 ?_⟩
 simp (maxSteps:=1000000) +contextual -dsimp [f44,g0,g1,a4c,a5y,a2i,a9m,a7j,a1f,K6,a1e,a3o,a3m,a5a,O1,a2r,a3a,a5d,valArg,List.set]
def a2q (x:EngR):Nat:=a0z x.eng
noncomputable def a8e (k:Int) (x:EngR):EngR:={ x with eng:=a8m (k) x.eng }
theorem f6c (x:EngR) (k:Int) (h0:0≤k) (h1:k+(a2q x:Nat) < 2 ^ 59) (hx:a3k x≤2097152):∃ b,fo 45 [⟨.agg [vI x.code,vI x.value,.ref 0 0 [] 2 x.eng.procs.length,.ref 0 0 [] 3 x.eng.insts.length,vI x.eng.now],some ⟨0,0,false,[.dead,.dead,.own 160 (x.eng.procs.map J2),.own 163 (x.eng.insts.map L8),.dead]⟩⟩,A (vI k)]=some ⟨vI (k+(a2q x:Nat)),[(0,c8d (a8e k x))],b⟩:=by
 simp only [a2q] at h1
 obtain ⟨k1,e1⟩:∃ z,z=k+(a0z x.eng:Nat):=⟨_,rfl⟩
 obtain ⟨b0,g0⟩:=c8n x.eng k (by omega) (by omega) (by simp only [a3k] at hx; omega)
 rw [← e1] at g0
 have hk:k+(a2q x:Nat)=k1:=by simp only [a2q]; omega
 have hm:a8e k x={ x with eng:=a8m k x.eng }:=by subst_vars; rfl
 rw [hk,hm]
 refine ⟨true,h3a 1 ?_⟩
 simp (maxSteps:=1000000) +contextual -dsimp [f45,g0,a4c,a5y,a2i,a9m,a7j,a1f,K6,a1e,a3o,a3m,a5a,O1,a2r,a3a,a5d,valArg,List.set]
 all_goals (repeat' (first | rfl | constructor))
theorem e9u (all:List Int) (hall:all.length≤2097152):∀ (rest:List Int) (i:Nat) (k:Int),all.drop i=G5 k rest→0≤k→k+(K5 rest:Nat) < 2 ^ 60→
  A5 E (orc E) (89:Nat) (rest.length+1) (B3 f89 0) ⟨21,[(0,.sl 2 (all.map iV)),(1,vI k),(5,vI i)],[],2⟩=
  some (.exit 0,⟨21,[(0,.sl 2 (all.map iV)),(1,vI (k+(K5 rest:Nat))),(5,vI (i+rest.length:Nat)),(9,vB false)],[],2⟩)
 | [],i,k,h,h0,h1=>by
  have hge:all.length≤i:=by simpa [G5] using h
  have hlt:ltI (i:Int) (all.length:Int)=false:=B7 (by omega)
  rw [C2]
  simp +contextual -dsimp [f89,hlt,d0z]
 | x::rest,i,k,h,h0,h1=>by
  rw [b5o] at h1
  have he:i+1+rest.length=i+(rest.length+1):=by omega
  obtain ⟨k1,e1⟩:∃ z,z=k+1:=⟨_,rfl⟩
  have w0:IntKind.i64.wrap (k+1)=k1:=by rw [e1,A6] <;> omega
  have hk:k1+(K5 rest:Nat)=k+(K5 (x::rest):Nat):=by rw [b5o]; omega
  have hm:G5 k (x::rest)=k::G5 k1 rest:=by rw [e1]; rfl
  rw [hm] at h
  obtain ⟨hi,hc,hr⟩:=C8 h
  have hlt:ltI (i:Int) (all.length:Int)=true:=C5 (by omega)
  have hw:IntKind.i64.wrap ((i:Int)+1)=((i+1:Nat):Int):=by rw [A6] <;> omega
  have ih:=e9u all hall rest (i+1) k1 hr (by omega) (by omega)
  rw [hk,he] at ih
  refine C0 ?_ (by simpa only [List.length_cons] using ih)
  simp (maxSteps:=1000000) +contextual -dsimp [f89,hlt,hi,hc,hw,C1,a9y,w0,List.set]
theorem d1a:∀ (l:List Int) (k:Int),(G5 k l).length=l.length
 | [],_=>rfl
 | x::l,k=>by simp only [G5,List.length_cons,d1a l]
theorem b9i (l:List Int) (k:Int) (h0:0≤k) (h1:k+(K5 l:Nat) < 2 ^ 60) (hn:l.length≤2097152):fo 89 [A (.sl 2 ((G5 k l).map iV)),A (vI k)]=some (R (vI (k+(K5 l:Nat)))):=by
 have hlp:=e9u (G5 k l) (by rw [d1a]; exact hn) l 0 k rfl h0 h1
 refine h3h (l.length+1) ?_
 generalize k+(K5 l:Nat)=k' at *
 generalize G5 k l=l' at *
 simp -dsimp [f89] at hlp
 simp (maxSteps:=1000000) +contextual -dsimp [f89,hlp,List.set]
theorem d7a (all:List Node) (hall:all.length≤2097152):∀ (rest:List Node) (i:Nat) (k:Int),all.drop i=J5 k rest→0≤k→k+(M3 rest:Nat) < 2 ^ 60→
  A5 E (orc E) (286:Nat) (rest.length+1) (B3 f286 0) ⟨49,[(0,.sl 219 (all.map nT)),(1,vI k),(5,vI i)],[],2⟩=
  some (.exit 0,⟨49,[(0,.sl 219 (all.map nT)),(1,vI (k+(M3 rest:Nat))),(5,vI (i+rest.length:Nat)),(9,vB false)],[],2⟩)
 | [],i,k,h,h0,h1=>by
  have hge:all.length≤i:=by simpa [J5] using h
  have hlt:ltI (i:Int) (all.length:Int)=false:=B7 (by omega)
  rw [C2]
  simp +contextual -dsimp [f286,hlt,c9n]
 | x::rest,i,k,h,h0,h1=>by
  rw [b3c] at h1
  have he:i+1+rest.length=i+(rest.length+1):=by omega
  simp only [a4i] at h1
  obtain ⟨k1,e1⟩:∃ z,z=k+1:=⟨_,rfl⟩
  have w0:IntKind.i64.wrap (k+1)=k1:=by rw [e1,A6] <;> omega
  obtain ⟨k2,e2⟩:∃ z,z=k1+1:=⟨_,rfl⟩
  have w1:IntKind.i64.wrap (k1+1)=k2:=by rw [e2,A6] <;> omega
  obtain ⟨k3,e3⟩:∃ z,z=k2+1:=⟨_,rfl⟩
  have w2:IntKind.i64.wrap (k2+1)=k3:=by rw [e3,A6] <;> omega
  obtain ⟨k4,e4⟩:∃ z,z=k3+1:=⟨_,rfl⟩
  have w3:IntKind.i64.wrap (k3+1)=k4:=by rw [e4,A6] <;> omega
  have hk:k4+(M3 rest:Nat)=k+(M3 (x::rest):Nat):=by rw [b3c]; simp only [a4i]; omega
  have hm:J5 k (x::rest)=({ kind:=k,value:=k1,left:=k2,right:=k3 }:Node)::J5 k4 rest:=by
   have e:k4=k+(a4i x:Nat):=by simp only [a4i]; omega
   have e2:c5i k x=({ kind:=k,value:=k1,left:=k2,right:=k3 }:Node):=by subst_vars; rfl
   simp only [J5]; rw [e2,e]
  rw [hm] at h
  obtain ⟨hi,hc,hr⟩:=C8 h
  have hlt:ltI (i:Int) (all.length:Int)=true:=C5 (by omega)
  have hw:IntKind.i64.wrap ((i:Int)+1)=((i+1:Nat):Int):=by rw [A6] <;> omega
  have ih:=d7a all hall rest (i+1) k4 hr (by omega) (by omega)
  rw [hk,he] at ih
  refine C0 ?_ (by simpa only [List.length_cons] using ih)
  simp (maxSteps:=1000000) +contextual -dsimp [f286,hlt,hi,hc,hw,C1,a9y,w0,w1,w2,w3,List.set]
theorem c9s:∀ (l:List Node) (k:Int),(J5 k l).length=l.length
 | [],_=>rfl
 | x::l,k=>by simp only [J5,List.length_cons,c9s l]
theorem c9t (l:List Node) (k:Int) (h0:0≤k) (h1:k+(M3 l:Nat) < 2 ^ 60) (hn:l.length≤2097152):fo 286 [A (.sl 219 ((J5 k l).map nT)),A (vI k)]=some (R (vI (k+(M3 l:Nat)))):=by
 have hlp:=d7a (J5 k l) (by rw [c9s]; exact hn) l 0 k rfl h0 h1
 refine h0p (l.length+1) ?_
 generalize k+(M3 l:Nat)=k' at *
 generalize J5 k l=l' at *
 simp -dsimp [f286] at hlp
 simp (maxSteps:=1000000) +contextual -dsimp [f286,hlp,List.set]
theorem d7b (all:List Step) (hall:all.length≤2097152):∀ (rest:List Step) (i:Nat) (k:Int),all.drop i=L4 k rest→(∀ x,x∈rest→G8 x≤2097152)→0≤k→k+(N9 rest:Nat) < 2 ^ 60→
  A5 E (orc E) (247:Nat) (rest.length+1) (B3 f247 0) ⟨68,[(0,.sl 124 (all.map (sT 219))),(1,vI k),(5,vI i)],[],2⟩=
  some (.exit 0,⟨68,[(0,.sl 124 (all.map (sT 219))),(1,vI (k+(N9 rest:Nat))),(5,vI (i+rest.length:Nat)),(9,vB false)],[],2⟩)
 | [],i,k,h,hf,h0,h1=>by
  have hge:all.length≤i:=by simpa [L4] using h
  have hlt:ltI (i:Int) (all.length:Int)=false:=B7 (by omega)
  rw [C2]
  simp +contextual -dsimp [f247,hlt,c9o]
 | x::rest,i,k,h,hf,h0,h1=>by
  have hx:=hf x (by simp)
  rw [b3d] at h1
  have he:i+1+rest.length=i+(rest.length+1):=by omega
  simp only [a3q] at h1
  obtain ⟨k1,e1⟩:∃ z,z=k+1:=⟨_,rfl⟩
  have w0:IntKind.i64.wrap (k+1)=k1:=by rw [e1,A6] <;> omega
  obtain ⟨k2,e2⟩:∃ z,z=k1+1:=⟨_,rfl⟩
  have w1:IntKind.i64.wrap (k1+1)=k2:=by rw [e2,A6] <;> omega
  obtain ⟨k3,e3⟩:∃ z,z=k2+1:=⟨_,rfl⟩
  have w2:IntKind.i64.wrap (k2+1)=k3:=by rw [e3,A6] <;> omega
  have g2:=d0y k2 (by omega) (by omega)
  obtain ⟨k4,e4⟩:∃ z,z=k3+1:=⟨_,rfl⟩
  have w3:IntKind.i64.wrap (k3+1)=k4:=by rw [e4,A6] <;> omega
  obtain ⟨k5,e5⟩:∃ z,z=k4+(M3 x.cond:Nat):=⟨_,rfl⟩
  have g4:=c9t x.cond k4 (by omega) (by omega) (by simp only [G8] at hx; omega)
  have n4:ltI k5 0=false:=B7 (by omega)
  rw [← e5] at g4
  obtain ⟨k6,e6⟩:∃ z,z=k5+(M3 x.expr:Nat):=⟨_,rfl⟩
  have g5:=c9t x.expr k5 (by omega) (by omega) (by simp only [G8] at hx; omega)
  have n5:ltI k6 0=false:=B7 (by omega)
  rw [← e6] at g5
  have hk:k6+(N9 rest:Nat)=k+(N9 (x::rest):Nat):=by rw [b3d]; simp only [a3q]; omega
  have hm:L4 k (x::rest)=({ kind:=k,parent:=k1,name:=a6v k2,arg:=k3,cond:=J5 k4 x.cond,expr:=J5 k5 x.expr }:Step)::L4 k6 rest:=by
   have e:k6=k+(a3q x:Nat):=by simp only [a3q]; omega
   have e2:c5j k x=({ kind:=k,parent:=k1,name:=a6v k2,arg:=k3,cond:=J5 k4 x.cond,expr:=J5 k5 x.expr }:Step):=by subst_vars; rfl
   simp only [L4]; rw [e2,e]
  rw [hm] at h
  obtain ⟨hi,hc,hr⟩:=C8 h
  have hlt:ltI (i:Int) (all.length:Int)=true:=C5 (by omega)
  have hw:IntKind.i64.wrap ((i:Int)+1)=((i+1:Nat):Int):=by rw [A6] <;> omega
  have ih:=d7b all hall rest (i+1) k6 hr (fun y hy=>hf y (by simp [hy])) (by omega) (by omega)
  rw [hk,he] at ih
  refine C0 ?_ (by simpa only [List.length_cons] using ih)
  simp (maxSteps:=1000000) +contextual -dsimp [f247,hlt,hi,hc,hw,C1,a9y,w0,w1,w2,g2,w3,n4,g4,n5,g5,List.set]
theorem c9u:∀ (l:List Step) (k:Int),(L4 k l).length=l.length
 | [],_=>rfl
 | x::l,k=>by simp only [L4,List.length_cons,c9u l]
theorem f8f (l:List Step) (k:Int) (h0:0≤k) (h1:k+(N9 l:Nat) < 2 ^ 60) (hn:l.length≤2097152) (hf:∀ x,x∈l→G8 x≤2097152):fo 247 [A (.sl 124 ((L4 k l).map (sT 219))),A (vI k)]=some (R (vI (k+(N9 l:Nat)))):=by
 have hlp:=d7b (L4 k l) (by rw [c9u]; exact hn) l 0 k rfl hf h0 h1
 refine g9r (l.length+1) ?_
 generalize k+(N9 l:Nat)=k' at *
 generalize L4 k l=l' at *
 simp -dsimp [f247] at hlp
 simp (maxSteps:=1000000) +contextual -dsimp [f247,hlp,List.set]
theorem d7c (all:List (List Step)) (hall:all.length≤2097152):∀ (rest:List (List Step)) (i:Nat) (k:Int),all.drop i=O9 k rest→(∀ x,x∈rest→J4 x≤2097152)→0≤k→k+(N4 rest:Nat) < 2 ^ 60→
  A5 E (orc E) (191:Nat) (rest.length+1) (B3 f191 0) ⟨22,[(0,.sl 160 (all.map (pT 124 219))),(1,vI k),(5,vI i)],[],2⟩=
  some (.exit 0,⟨22,[(0,.sl 160 (all.map (pT 124 219))),(1,vI (k+(N4 rest:Nat))),(5,vI (i+rest.length:Nat)),(9,vB false)],[],2⟩)
 | [],i,k,h,hf,h0,h1=>by
  have hge:all.length≤i:=by simpa [O9] using h
  have hlt:ltI (i:Int) (all.length:Int)=false:=B7 (by omega)
  rw [C2]
  simp +contextual -dsimp [f191,hlt,c9p]
 | x::rest,i,k,h,hf,h0,h1=>by
  have hx:=hf x (by simp)
  rw [b3e] at h1
  have he:i+1+rest.length=i+(rest.length+1):=by omega
  simp only [a4j] at h1
  obtain ⟨k1,e1⟩:∃ z,z=k+(N9 x:Nat):=⟨_,rfl⟩
  have g0:=f8f x k (by omega) (by omega) (by simp only [J4,a1u] at hx; omega) (fun y hy=>by have:=b3i hy; simp only [J4,a1u] at hx; omega)
  have n0:ltI k1 0=false:=B7 (by omega)
  rw [← e1] at g0
  have hk:k1+(N4 rest:Nat)=k+(N4 (x::rest):Nat):=by rw [b3e]; simp only [a4j]; omega
  have hm:O9 k (x::rest)=(L4 k x:List Step)::O9 k1 rest:=by
   have e:k1=k+(a4j x:Nat):=by simp only [a4j]; omega
   have e2:c5k k x=(L4 k x:List Step):=by subst_vars; rfl
   simp only [O9]; rw [e2,e]
  rw [hm] at h
  obtain ⟨hi,hc,hr⟩:=C8 h
  have hlt:ltI (i:Int) (all.length:Int)=true:=C5 (by omega)
  have hw:IntKind.i64.wrap ((i:Int)+1)=((i+1:Nat):Int):=by rw [A6] <;> omega
  have ih:=d7c all hall rest (i+1) k1 hr (fun y hy=>hf y (by simp [hy])) (by omega) (by omega)
  rw [hk,he] at ih
  refine C0 ?_ (by simpa only [List.length_cons] using ih)
  simp (maxSteps:=1000000) +contextual -dsimp [f191,hlt,hi,hc,hw,C1,a9y,n0,g0,List.set]
theorem c9v:∀ (l:List (List Step)) (k:Int),(O9 k l).length=l.length
 | [],_=>rfl
 | x::l,k=>by simp only [O9,List.length_cons,c9v l]
theorem f8g (l:List (List Step)) (k:Int) (h0:0≤k) (h1:k+(N4 l:Nat) < 2 ^ 60) (hn:l.length≤2097152) (hf:∀ x,x∈l→J4 x≤2097152):fo 191 [A (.sl 160 ((O9 k l).map (pT 124 219))),A (vI k)]=some (R (vI (k+(N4 l:Nat)))):=by
 have hlp:=d7c (O9 k l) (by rw [c9v]; exact hn) l 0 k rfl hf h0 h1
 refine g8l (l.length+1) ?_
 generalize k+(N4 l:Nat)=k' at *
 generalize O9 k l=l' at *
 simp -dsimp [f191] at hlp
 simp (maxSteps:=1000000) +contextual -dsimp [f191,hlp,List.set]
theorem d7d (all:List Inst) (hall:all.length≤2097152):∀ (rest:List Inst) (i:Nat) (k:Int),all.drop i=P0 k rest→(∀ x,x∈rest→H9 x≤2097152)→0≤k→k+(O0 rest:Nat) < 2 ^ 60→
  A5 E (orc E) (192:Nat) (rest.length+1) (B3 f192 0) ⟨72,[(0,.sl 163 (all.map xT)),(1,vI k),(5,vI i)],[],2⟩=
  some (.exit 0,⟨72,[(0,.sl 163 (all.map xT)),(1,vI (k+(O0 rest:Nat))),(5,vI (i+rest.length:Nat)),(9,vB false)],[],2⟩)
 | [],i,k,h,hf,h0,h1=>by
  have hge:all.length≤i:=by simpa [P0] using h
  have hlt:ltI (i:Int) (all.length:Int)=false:=B7 (by omega)
  rw [C2]
  simp +contextual -dsimp [f192,hlt,c9q]
 | x::rest,i,k,h,hf,h0,h1=>by
  have hx:=hf x (by simp)
  rw [b3f] at h1
  have he:i+1+rest.length=i+(rest.length+1):=by omega
  simp only [a4k] at h1
  obtain ⟨k1,e1⟩:∃ z,z=k+1:=⟨_,rfl⟩
  have w0:IntKind.i64.wrap (k+1)=k1:=by rw [e1,A6] <;> omega
  obtain ⟨k2,e2⟩:∃ z,z=k1+1:=⟨_,rfl⟩
  have w1:IntKind.i64.wrap (k1+1)=k2:=by rw [e2,A6] <;> omega
  obtain ⟨k3,e3⟩:∃ z,z=k2+1:=⟨_,rfl⟩
  have w2:IntKind.i64.wrap (k2+1)=k3:=by rw [e3,A6] <;> omega
  obtain ⟨k4,e4⟩:∃ z,z=k3+(K5 x.chart.vars:Nat):=⟨_,rfl⟩
  have g3:=b9i x.chart.vars k3 (by omega) (by omega) (by simp only [H9,K2] at hx; omega)
  have n3:ltI k4 0=false:=B7 (by omega)
  rw [← e4] at g3
  obtain ⟨k5,e5⟩:∃ z,z=k4+(K5 x.chart.acts:Nat):=⟨_,rfl⟩
  have g4:=b9i x.chart.acts k4 (by omega) (by omega) (by simp only [H9,K2] at hx; omega)
  have n4:ltI k5 0=false:=B7 (by omega)
  rw [← e5] at g4
  obtain ⟨k6,e6⟩:∃ z,z=k5+(K5 x.chart.dues:Nat):=⟨_,rfl⟩
  have g5:=b9i x.chart.dues k5 (by omega) (by omega) (by simp only [H9,K2] at hx; omega)
  have n5:ltI k6 0=false:=B7 (by omega)
  rw [← e6] at g5
  have hk:k6+(O0 rest:Nat)=k+(O0 (x::rest):Nat):=by rw [b3f]; simp only [a4k]; omega
  have hm:P0 k (x::rest)=({ proc:=k,chart:={ status:=k1,now:=k2,vars:=G5 k3 x.chart.vars,acts:=G5 k4 x.chart.acts,dues:=G5 k5 x.chart.dues } }:Inst)::P0 k6 rest:=by
   have e:k6=k+(a4k x:Nat):=by simp only [a4k]; omega
   have e2:c5l k x=({ proc:=k,chart:={ status:=k1,now:=k2,vars:=G5 k3 x.chart.vars,acts:=G5 k4 x.chart.acts,dues:=G5 k5 x.chart.dues } }:Inst):=by subst_vars; rfl
   simp only [P0]; rw [e2,e]
  rw [hm] at h
  obtain ⟨hi,hc,hr⟩:=C8 h
  have hlt:ltI (i:Int) (all.length:Int)=true:=C5 (by omega)
  have hw:IntKind.i64.wrap ((i:Int)+1)=((i+1:Nat):Int):=by rw [A6] <;> omega
  have ih:=d7d all hall rest (i+1) k6 hr (fun y hy=>hf y (by simp [hy])) (by omega) (by omega)
  rw [hk,he] at ih
  refine C0 ?_ (by simpa only [List.length_cons] using ih)
  simp (maxSteps:=1000000) +contextual -dsimp [f192,hlt,hi,hc,hw,C1,a9y,w0,w1,w2,n3,g3,n4,g4,n5,g5,List.set]
theorem c9w:∀ (l:List Inst) (k:Int),(P0 k l).length=l.length
 | [],_=>rfl
 | x::l,k=>by simp only [P0,List.length_cons,c9w l]
theorem f8h (l:List Inst) (k:Int) (h0:0≤k) (h1:k+(O0 l:Nat) < 2 ^ 60) (hn:l.length≤2097152) (hf:∀ x,x∈l→H9 x≤2097152):fo 192 [A (.sl 163 ((P0 k l).map xT)),A (vI k)]=some (R (vI (k+(O0 l:Nat)))):=by
 have hlp:=d7d (P0 k l) (by rw [c9w]; exact hn) l 0 k rfl hf h0 h1
 refine g8m (l.length+1) ?_
 generalize k+(O0 l:Nat)=k' at *
 generalize P0 k l=l' at *
 simp -dsimp [f192] at hlp
 simp (maxSteps:=1000000) +contextual -dsimp [f192,hlp,List.set]
theorem f7i (x:Engine) (k:Int) (h0:0≤k) (h1:k+(a0z x:Nat) < 2 ^ 59) (hx:G7 x≤2097152):fo 121 [A (.agg (eT (a8m k x))),A (vI k)]=some (R (vI (k+(a0z x:Nat)))):=by
 simp only [a0z] at h1
 obtain ⟨k1,e1⟩:∃ z,z=k+(N4 x.procs:Nat):=⟨_,rfl⟩
 have g0:=f8g x.procs k (by omega) (by omega) (by simp only [G7,P8] at hx; omega) (fun y hy=>by have:=b3j hy; simp only [G7,P8] at hx; omega)
 rw [← e1] at g0
 have n0:ltI k1 0=false:=B7 (by omega)
 obtain ⟨k2,e2⟩:∃ z,z=k1+(O0 x.insts:Nat):=⟨_,rfl⟩
 have g1:=f8h x.insts k1 (by omega) (by omega) (by simp only [G7,Q9] at hx; omega) (fun y hy=>by have:=b3k hy; simp only [G7,Q9] at hx; omega)
 rw [← e2] at g1
 have n1:ltI k2 0=false:=B7 (by omega)
 have hk:k+(a0z x:Nat)=k2:=by simp only [a0z]; omega
 have hm:a8m k x={ x with procs:=O9 k x.procs,insts:=P0 k1 x.insts }:=by subst_vars; rfl
 rw [hk,hm]
 refine g7n 1 ?_
 simp (maxSteps:=1000000) +contextual -dsimp [f121,g0,n0,g1,n1,List.set]
theorem f6d (x:EngR) (k:Int) (h0:0≤k) (h1:k+(a2q x:Nat) < 2 ^ 59) (hx:a3k x≤2097152):fo 46 [A (.agg (erT (a8e k x))),A (vI k)]=some (R (vI (k+(a2q x:Nat)))):=by
 simp only [a2q] at h1
 obtain ⟨k1,e1⟩:∃ z,z=k+(a0z x.eng:Nat):=⟨_,rfl⟩
 have g0:=f7i x.eng k (by omega) (by omega) (by simp only [a3k] at hx; omega)
 rw [← e1] at g0
 have n0:ltI k1 0=false:=B7 (by omega)
 have hk:k+(a2q x:Nat)=k1:=by simp only [a2q]; omega
 have hm:a8e k x={ x with eng:=a8m k x.eng }:=by subst_vars; rfl
 rw [hk,hm]
 refine h3b 1 ?_
 simp (maxSteps:=1000000) +contextual -dsimp [f46,g0,n0,List.set]
end Go.TM.Ft
