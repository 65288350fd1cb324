/- What functions of the program come to, by the machine. -/
import Derived.Test.YtlmiemdojgahaaaGreatJL12
import Derived.Test.YtlmiemdojgahaaaGreatJL13
import Derived.Test.YtlmiemdojgahaaaGreatJL14
import Derived.Test.YtlmiemdojgahaaaGreatJTm4
import Derived.Test.YtlmiemdojgahaaaGreatJL11
import Derived.ProofKit
import Derived.SizedLaws
set_option linter.unusedSimpArgs false
set_option linter.unusedVariables false
set_option maxHeartbeats 16000000
namespace Go.TM.Ft
open Go Go.TM Go.Proofs
set_option maxRecDepth 20000
attribute [local congr] K9
attribute [local simp] a9l b4t b7o J8 K0 J0 J9 H3 J6 H4 G4 H5 G1
abbrev zI:List T:=[vI 0]
theorem d7e (all:List Int) (hall:all.length≤1048576):∀ (rest:List Int) (i:Nat) (es:List (List T)),all.drop i=rest→es.length=all.length→(∀ j,i≤j→j < all.length→es[j]?=some zI)→
  A5 E (orc E) (17:Nat) (rest.length+1) (B3 Tryz.f17 0) ⟨22,[(0,.sl 2 (all.map iV)),(3,.ref 3 1 [] 0 all.length),(4,vI i)],[(3,⟨1,1,false,[.own 2 es]⟩)],2⟩=
  some (.exit 0,⟨22,[(0,.sl 2 (all.map iV)),(3,.ref 3 1 [] 0 all.length),(4,vI (i+rest.length:Nat)),(11,vB false)],[(3,⟨1,1,false,[.own 2 (es.take i++rest.map iV)]⟩)],2⟩)
 | [],i,es,h,hl,hz=>by
  have hge:all.length≤i:=by simpa using h
  have hlt:ltI (i:Int) (all.length:Int)=false:=B7 (by omega)
  have ht:es.take i=es:=List.take_of_length_le (by omega)
  rw [C2]
  simp +contextual -dsimp [Tryz.f17,hlt,ht]
 | x::rest,i,es,h,hl,hz=>by
  obtain ⟨hi,hc,hr⟩:=C8 h
  have hlt:ltI (i:Int) (all.length:Int)=true:=C5 (by omega)
  have hw:IntKind.i64.wrap ((i:Int)+1)=((i+1:Nat):Int):=by rw [A6] <;> omega
  have hi2:i < es.length:=by omega
  have hz1:es[i]=zI:=by
   have:=hz i (Nat.le_refl _) hi
   rw [List.getElem?_eq_getElem hi2] at this
   simpa using this
  have ih:=d7e all hall rest (i+1) (es.set i (iV x)) hr (by simpa using hl) (fun j hj hj2=>by
   rw [List.getElem?_set_ne (by omega)]
   exact hz j (by omega) hj2)
  have he:i+1+rest.length=i+(rest.length+1):=by omega
  have hes:(es.set i (iV x)).take (i+1)=es.take i++[iV x]:=by
   rw [List.take_add_one,List.take_set_of_le (Nat.le_refl _)]
   simp [hi2]
  rw [he,hes,List.append_assoc] at ih
  refine C0 ?_ (by simpa only [List.length_cons,List.map_cons,List.singleton_append] using ih)
  simp (maxSteps:=1000000) +contextual -dsimp [Tryz.f17,hlt,hi,hi2,hc,hw,hz1,hl,List.set]
theorem c3g (l:List Int) (hl:l.length≤1048576):fo 17 [A (.sl 2 (l.map iV))]=some ⟨.own 2 (l.map iV),[],true⟩:=by
 have hm:(l.length:Int)≤(B9:Nat):=by unfold B9; omega
 have hlp:=d7e l hl l 0 (List.replicate l.length zI) rfl (by simp) (fun j _ hj=>by simp [hj])
 have hcl:=a6a l
 refine h2q (l.length+1) ?_
 simp -dsimp [Tryz.f17] at hlp
 simp (maxSteps:=1000000) +contextual -dsimp [Tryz.f17,hm,hlp,hcl,a1f,K6,List.set]
theorem g4s (x:Node):fo 231 [A (.agg (nT x))]=some ⟨.agg (nT x),[],true⟩:=by
 refine g9c 1 ?_
 simp (maxSteps:=1000000) +contextual -dsimp [Tryz.f231,List.set]
theorem d3a (all:List Node) (hall:all.length≤1048576):∀ (rest:List Node) (i:Nat) (es:List (List T)),all.drop i=rest→es.length=all.length→(∀ j,i≤j→j < all.length→es[j]?=some [vI 0,vI 0,vI 0,vI 0])→
  A5 E (orc E) (166:Nat) (rest.length+1) (B3 Tryz.f166 0) ⟨23,[(0,.sl 267 (all.map nT)),(3,.ref 3 1 [] 0 all.length),(4,vI i)],[(3,⟨1,1,false,[.own 219 es]⟩)],2⟩=
  some (.exit 0,⟨23,[(0,.sl 267 (all.map nT)),(3,.ref 3 1 [] 0 all.length),(4,vI (i+rest.length:Nat)),(11,vB false)],[(3,⟨1,1,false,[.own 219 (es.take i++rest.map nT)]⟩)],2⟩)
 | [],i,es,h,hl,hz=>by
  have hge:all.length≤i:=by simpa using h
  have hlt:ltI (i:Int) (all.length:Int)=false:=B7 (by omega)
  have ht:es.take i=es:=List.take_of_length_le (by omega)
  rw [C2]
  simp +contextual -dsimp [Tryz.f166,hlt,ht]
 | x::rest,i,es,h,hl,hz=>by
  obtain ⟨hi,hc,hr⟩:=C8 h
  have hlt:ltI (i:Int) (all.length:Int)=true:=C5 (by omega)
  have hw:IntKind.i64.wrap ((i:Int)+1)=((i+1:Nat):Int):=by rw [A6] <;> omega
  have hi2:i < es.length:=by omega
  have hz1:es[i]=[vI 0,vI 0,vI 0,vI 0]:=by
   have:=hz i (Nat.le_refl _) hi
   rw [List.getElem?_eq_getElem hi2] at this
   simpa using this
  have ih:=d3a all hall rest (i+1) (es.set i (nT x)) hr (by simpa using hl) (fun j hj hj2=>by
   rw [List.getElem?_set_ne (by omega)]
   exact hz j (by omega) hj2)
  have he:i+1+rest.length=i+(rest.length+1):=by omega
  have hes:(es.set i (nT x)).take (i+1)=es.take i++[nT x]:=by
   rw [List.take_add_one,List.take_set_of_le (Nat.le_refl _)]
   simp [hi2]
  rw [he,hes,List.append_assoc] at ih
  have g:=g4s x
  refine C0 ?_ (by simpa only [List.length_cons,List.map_cons,List.singleton_append] using ih)
  simp (maxSteps:=1000000) +contextual -dsimp [Tryz.f166,hlt,hi,hi2,hc,hw,hz1,hl,g,List.set]
theorem d3b (l:List Node) (hl:l.length≤1048576):fo 166 [A (.sl 267 (l.map nT))]=some ⟨.own 219 (l.map nT),[],true⟩:=by
 have hm:(l.length:Int)≤(B9:Nat):=by unfold B9; omega
 have hlp:=d3a l hl l 0 (List.replicate l.length [vI 0,vI 0,vI 0,vI 0]) rfl (by simp) (fun j _ hj=>by simp [hj])
 have hcl:=a9s l
 refine g7x (l.length+1) ?_
 simp -dsimp [Tryz.f166] at hlp
 simp (maxSteps:=1000000) +contextual -dsimp [Tryz.f166,hm,hlp,hcl,a1f,K6,List.set]
theorem g4t (x:Step) (h:G8 x≤1048576):fo 75 [A (.agg (sT 267 x))]=some ⟨.agg (M5 x),[],true⟩:=by
 have g4:=d3b x.cond (by simp only [G8] at h; omega)
 have s4:=a9s x.cond
 have g5:=d3b x.expr (by simp only [G8] at h; omega)
 have s5:=a9s x.expr
 refine h3d 1 ?_
 simp (maxSteps:=1000000) +contextual -dsimp [Tryz.f75,g4,s4,g5,s5,List.set]
theorem d3c (all:List Step) (hall:all.length≤1048576) (hf:∀ x,x∈all→G8 x≤1048576):∀ (rest:List Step) (i:Nat) (es:List (List T)),all.drop i=rest→es.length=all.length→(∀ j,i≤j→j < all.length→es[j]?=some [vI 0,vI 0,vS emp,vI 0,.own 219 [],.own 219 []])→
  A5 E (orc E) (16:Nat) (rest.length+1) (B3 Tryz.f16 0) ⟨23,[(0,.sl 111 (all.map (sT 267))),(3,.ref 3 1 [] 0 all.length),(4,vI i)],[(3,⟨1,1,false,[.own 124 es]⟩)],2⟩=
  some (.exit 0,⟨23,[(0,.sl 111 (all.map (sT 267))),(3,.ref 3 1 [] 0 all.length),(4,vI (i+rest.length:Nat)),(11,vB false)],[(3,⟨1,1,false,[.own 124 (es.take i++rest.map M5)]⟩)],2⟩)
 | [],i,es,h,hl,hz=>by
  have hge:all.length≤i:=by simpa using h
  have hlt:ltI (i:Int) (all.length:Int)=false:=B7 (by omega)
  have ht:es.take i=es:=List.take_of_length_le (by omega)
  rw [C2]
  simp +contextual -dsimp [Tryz.f16,hlt,ht]
 | x::rest,i,es,h,hl,hz=>by
  obtain ⟨hi,hc,hr⟩:=C8 h
  have hlt:ltI (i:Int) (all.length:Int)=true:=C5 (by omega)
  have hw:IntKind.i64.wrap ((i:Int)+1)=((i+1:Nat):Int):=by rw [A6] <;> omega
  have hi2:i < es.length:=by omega
  have hz1:es[i]=[vI 0,vI 0,vS emp,vI 0,.own 219 [],.own 219 []]:=by
   have:=hz i (Nat.le_refl _) hi
   rw [List.getElem?_eq_getElem hi2] at this
   simpa using this
  have ih:=d3c all hall hf rest (i+1) (es.set i (M5 x)) hr (by simpa using hl) (fun j hj hj2=>by
   rw [List.getElem?_set_ne (by omega)]
   exact hz j (by omega) hj2)
  have he:i+1+rest.length=i+(rest.length+1):=by omega
  have hes:(es.set i (M5 x)).take (i+1)=es.take i++[M5 x]:=by
   rw [List.take_add_one,List.take_set_of_le (Nat.le_refl _)]
   simp [hi2]
  rw [he,hes,List.append_assoc] at ih
  have g:=g4t x (hf x (by rw [← hc]; exact List.getElem_mem _))
  refine C0 ?_ (by simpa only [List.length_cons,List.map_cons,List.singleton_append] using ih)
  simp (maxSteps:=1000000) +contextual -dsimp [Tryz.f16,hlt,hi,hi2,hc,hw,hz1,hl,g,List.set]
theorem g1l (l:List Step) (hl:l.length≤1048576) (hf:∀ x,x∈l→G8 x≤1048576):fo 16 [A (.sl 111 (l.map (sT 267)))]=some ⟨.own 124 (l.map M5),[],true⟩:=by
 have hm:(l.length:Int)≤(B9:Nat):=by unfold B9; omega
 have hlp:=d3c l hl hf l 0 (List.replicate l.length [vI 0,vI 0,vS emp,vI 0,.own 219 [],.own 219 []]) rfl (by simp) (fun j _ hj=>by simp [hj])
 have hcl:=b1e l
 refine h2p (l.length+1) ?_
 simp -dsimp [Tryz.f16] at hlp
 simp (maxSteps:=1000000) +contextual -dsimp [Tryz.f16,hm,hlp,hcl,a1f,K6,List.set]
theorem g4u (x:List Step) (h:J4 x≤1048576):fo 183 [A (.agg (pT 111 267 x))]=some ⟨.agg (J2 x),[],true⟩:=by
 have g0:=g1l x (by simp only [J4,a1u] at h; omega) (fun y hy=>by have:=b3i hy; simp only [J4,a1u] at h; omega)
 have s0:=b1e x
 refine g8e 1 ?_
 simp (maxSteps:=1000000) +contextual -dsimp [Tryz.f183,g0,s0,List.set]
theorem d3d (all:List (List Step)) (hall:all.length≤1048576) (hf:∀ x,x∈all→J4 x≤1048576):∀ (rest:List (List Step)) (i:Nat) (es:List (List T)),all.drop i=rest→es.length=all.length→(∀ j,i≤j→j < all.length→es[j]?=some [.own 124 []])→
  A5 E (orc E) (111:Nat) (rest.length+1) (B3 Tryz.f111 0) ⟨23,[(0,.sl 225 (all.map (pT 111 267))),(3,.ref 3 1 [] 0 all.length),(4,vI i)],[(3,⟨1,1,false,[.own 160 es]⟩)],2⟩=
  some (.exit 0,⟨23,[(0,.sl 225 (all.map (pT 111 267))),(3,.ref 3 1 [] 0 all.length),(4,vI (i+rest.length:Nat)),(11,vB false)],[(3,⟨1,1,false,[.own 160 (es.take i++rest.map J2)]⟩)],2⟩)
 | [],i,es,h,hl,hz=>by
  have hge:all.length≤i:=by simpa using h
  have hlt:ltI (i:Int) (all.length:Int)=false:=B7 (by omega)
  have ht:es.take i=es:=List.take_of_length_le (by omega)
  rw [C2]
  simp +contextual -dsimp [Tryz.f111,hlt,ht]
 | x::rest,i,es,h,hl,hz=>by
  obtain ⟨hi,hc,hr⟩:=C8 h
  have hlt:ltI (i:Int) (all.length:Int)=true:=C5 (by omega)
  have hw:IntKind.i64.wrap ((i:Int)+1)=((i+1:Nat):Int):=by rw [A6] <;> omega
  have hi2:i < es.length:=by omega
  have hz1:es[i]=[.own 124 []]:=by
   have:=hz i (Nat.le_refl _) hi
   rw [List.getElem?_eq_getElem hi2] at this
   simpa using this
  have ih:=d3d all hall hf rest (i+1) (es.set i (J2 x)) hr (by simpa using hl) (fun j hj hj2=>by
   rw [List.getElem?_set_ne (by omega)]
   exact hz j (by omega) hj2)
  have he:i+1+rest.length=i+(rest.length+1):=by omega
  have hes:(es.set i (J2 x)).take (i+1)=es.take i++[J2 x]:=by
   rw [List.take_add_one,List.take_set_of_le (Nat.le_refl _)]
   simp [hi2]
  rw [he,hes,List.append_assoc] at ih
  have g:=g4u x (hf x (by rw [← hc]; exact List.getElem_mem _))
  refine C0 ?_ (by simpa only [List.length_cons,List.map_cons,List.singleton_append] using ih)
  simp (maxSteps:=1000000) +contextual -dsimp [Tryz.f111,hlt,hi,hi2,hc,hw,hz1,hl,g,List.set]
theorem g1m (l:List (List Step)) (hl:l.length≤1048576) (hf:∀ x,x∈l→J4 x≤1048576):fo 111 [A (.sl 225 (l.map (pT 111 267)))]=some ⟨.own 160 (l.map J2),[],true⟩:=by
 have hm:(l.length:Int)≤(B9:Nat):=by unfold B9; omega
 have hlp:=d3d l hl hf l 0 (List.replicate l.length [.own 124 []]) rfl (by simp) (fun j _ hj=>by simp [hj])
 have hcl:=a4c l
 refine g7d (l.length+1) ?_
 simp -dsimp [Tryz.f111] at hlp
 simp (maxSteps:=1000000) +contextual -dsimp [Tryz.f111,hm,hlp,hcl,a1f,K6,List.set]
theorem g1n (x:Chart) (h:K2 x≤1048576):fo 243 [A (.agg (cT x))]=some ⟨.agg (h3v x),[],true⟩:=by
 have g2:=c3g x.vars (by simp only [K2] at h; omega)
 have s2:=a6a x.vars
 have g3:=c3g x.acts (by simp only [K2] at h; omega)
 have s3:=a6a x.acts
 have g4:=c3g x.dues (by simp only [K2] at h; omega)
 have s4:=a6a x.dues
 refine g9n 1 ?_
 simp (maxSteps:=1000000) +contextual -dsimp [Tryz.f243,g2,s2,g3,s3,g4,s4,List.set]
theorem g4v (x:Inst) (h:H9 x≤1048576):fo 184 [A (.agg (xT x))]=some ⟨.agg (L8 x),[],true⟩:=by
 have g1:=g1n x.chart (by simp only [H9] at h; omega)
 have s1vars:=a6a x.chart.vars
 have s1acts:=a6a x.chart.acts
 have s1dues:=a6a x.chart.dues
 refine g8f 1 ?_
 simp (maxSteps:=1000000) +contextual -dsimp [Tryz.f184,g1,s1vars,s1acts,s1dues,List.set]
theorem d3e (all:List Inst) (hall:all.length≤1048576) (hf:∀ x,x∈all→H9 x≤1048576):∀ (rest:List Inst) (i:Nat) (es:List (List T)),all.drop i=rest→es.length=all.length→(∀ j,i≤j→j < all.length→es[j]?=some [vI 0,vI 0,vI 0,.own 2 [],.own 2 [],.own 2 []])→
  A5 E (orc E) (112:Nat) (rest.length+1) (B3 Tryz.f112 0) ⟨23,[(0,.sl 229 (all.map xT)),(3,.ref 3 1 [] 0 all.length),(4,vI i)],[(3,⟨1,1,false,[.own 163 es]⟩)],2⟩=
  some (.exit 0,⟨23,[(0,.sl 229 (all.map xT)),(3,.ref 3 1 [] 0 all.length),(4,vI (i+rest.length:Nat)),(11,vB false)],[(3,⟨1,1,false,[.own 163 (es.take i++rest.map L8)]⟩)],2⟩)
 | [],i,es,h,hl,hz=>by
  have hge:all.length≤i:=by simpa using h
  have hlt:ltI (i:Int) (all.length:Int)=false:=B7 (by omega)
  have ht:es.take i=es:=List.take_of_length_le (by omega)
  rw [C2]
  simp +contextual -dsimp [Tryz.f112,hlt,ht]
 | x::rest,i,es,h,hl,hz=>by
  obtain ⟨hi,hc,hr⟩:=C8 h
  have hlt:ltI (i:Int) (all.length:Int)=true:=C5 (by omega)
  have hw:IntKind.i64.wrap ((i:Int)+1)=((i+1:Nat):Int):=by rw [A6] <;> omega
  have hi2:i < es.length:=by omega
  have hz1:es[i]=[vI 0,vI 0,vI 0,.own 2 [],.own 2 [],.own 2 []]:=by
   have:=hz i (Nat.le_refl _) hi
   rw [List.getElem?_eq_getElem hi2] at this
   simpa using this
  have ih:=d3e all hall hf rest (i+1) (es.set i (L8 x)) hr (by simpa using hl) (fun j hj hj2=>by
   rw [List.getElem?_set_ne (by omega)]
   exact hz j (by omega) hj2)
  have he:i+1+rest.length=i+(rest.length+1):=by omega
  have hes:(es.set i (L8 x)).take (i+1)=es.take i++[L8 x]:=by
   rw [List.take_add_one,List.take_set_of_le (Nat.le_refl _)]
   simp [hi2]
  rw [he,hes,List.append_assoc] at ih
  have g:=g4v x (hf x (by rw [← hc]; exact List.getElem_mem _))
  refine C0 ?_ (by simpa only [List.length_cons,List.map_cons,List.singleton_append] using ih)
  simp (maxSteps:=1000000) +contextual -dsimp [Tryz.f112,hlt,hi,hi2,hc,hw,hz1,hl,g,List.set]
theorem g1o (l:List Inst) (hl:l.length≤1048576) (hf:∀ x,x∈l→H9 x≤1048576):fo 112 [A (.sl 229 (l.map xT))]=some ⟨.own 163 (l.map L8),[],true⟩:=by
 have hm:(l.length:Int)≤(B9:Nat):=by unfold B9; omega
 have hlp:=d3e l hl hf l 0 (List.replicate l.length [vI 0,vI 0,vI 0,.own 2 [],.own 2 [],.own 2 []]) rfl (by simp) (fun j _ hj=>by simp [hj])
 have hcl:=a5y l
 refine g7e (l.length+1) ?_
 simp -dsimp [Tryz.f112] at hlp
 simp (maxSteps:=1000000) +contextual -dsimp [Tryz.f112,hm,hlp,hcl,a1f,K6,List.set]
theorem f9l (x:Engine) (h:G7 x≤1048576):fo 40 [A (.agg (eTl x))]=some ⟨.agg (b1w x),[],true⟩:=by
 have g0:=g1m x.procs (by simp only [G7,P8] at h; omega) (fun y hy=>by have:=b3j hy; simp only [G7,P8] at h; omega)
 have s0:=a4c x.procs
 have g1:=g1o x.insts (by simp only [G7,Q9] at h; omega) (fun y hy=>by have:=b3k hy; simp only [G7,Q9] at h; omega)
 have s1:=a5y x.insts
 refine h2w 1 ?_
 simp (maxSteps:=1000000) +contextual -dsimp [Tryz.f40,g0,s0,g1,s1,List.set]
end Go.TM.Ft
namespace Go.TM.Ft
open Go Go.TM Go.Proofs
set_option maxRecDepth 20000
attribute [local congr] K9
attribute [local simp] J8 K0 J0 J9 H3 J6 H4 G4 H5 G1
theorem f6f (x:EngR) (h:a3k x≤2097152):fo 42 [A (.agg (erT x)),A (.agg (erT x))]=some (R (vB true)):=by
 have g2:=d0w x.eng (by simp only [a3k] at h; omega)
 refine h2x 1 ?_
 simp (maxSteps:=1000000) +contextual -dsimp [Tryz.f42,C1,a9y,g2,List.set]
end Go.TM.Ft
namespace Go.TM.Ft
open Go Go.TM Go.Proofs
theorem g4w (l:List Node):M3 l=4*l.length:=by
 induction l with
 | nil=>rfl
 | cons x l ih=>rw [b3c,ih]; simp only [a4i,List.length_cons]; omega
theorem h1j (x:Step):a3q x≤4+4*G8 x:=by
 simp only [a3q,g4w,G8]; omega
theorem g4x (l:List Step):N9 l≤4*a1u l:=by
 have:N9 l≤4*l.length+4*N3 l:=by
  induction l with
  | nil=>exact Nat.zero_le _
  | cons x l ih=>rw [b3d]; have:=h1j x; simp only [N3,List.length_cons]; omega
 simp only [a1u]; omega
theorem g4y (l:List (List Step)):N4 l≤4*P8 l:=by
 have:N4 l≤4*N0 l:=by
  induction l with
  | nil=>exact Nat.zero_le _
  | cons x l ih=>rw [b3e]; have:=g4x x; simp only [N0,a4j,J4]; omega
 simp only [P8]; omega
theorem g4z (l:List Inst):O0 l≤3*Q9 l:=by
 have:O0 l≤3*l.length+3*L3 l:=by
  induction l with
  | nil=>exact Nat.zero_le _
  | cons x l ih=>rw [b3f]; simp only [L3,a4k,H9,K2,K5,List.length_cons]; omega
 simp only [Q9]; omega
theorem d3f (x:Engine):a0z x≤4*G7 x:=by
 have h1:=g4y x.procs
 have h2:=g4z x.insts
 simp only [a0z,G7]; omega
set_option maxRecDepth 20000
attribute [local congr] K9
attribute [local simp] J8 K0 J0 J9 H3 J6 H4 G4 H5 G1
theorem h1k {s:Step} (h:FitS s):b2d s:=⟨h.name,h.cond,h.expr⟩
theorem h1l {p:List Step} (h:FitP p):b2e p:=⟨h.len,fun s hs=>h1k (h.steps s hs)⟩
theorem g5a {c:Chart} (h:FitC c):b7h c:=⟨h.vars,h.acts,h.dues⟩
theorem g1p {e:Engine} (h:FitE e):c3d e:=⟨⟨h.np,fun p hp=>h1l (h.procs p hp)⟩,⟨h.ni,fun x hx=>g5a (h.insts x hx)⟩⟩
theorem a3l {n:Nat} {ts:List T} (h:L1 Tryz.prog (n+1) 2 ts):∃ x,ts=[vI x]∧-9223372036854775808≤x∧x < 9223372036854775808:=by
 unfold L1 at h
 rw [Tryz.underlying2] at h
 obtain ⟨x,rfl,hw⟩:=h
 have:=bounds_i64 hw
 exact ⟨x,rfl,by omega,by omega⟩
theorem f3r {α β:Type} {f:α→β} {p:α→Prop}:∀ {l:List β},(∀ c,c∈l→∃ x,c=f x∧p x)→∃ xs:List α,l=xs.map f∧∀ x,x∈xs→p x
 | [],_=>⟨[],rfl,fun x hx=>by simp at hx⟩
 | c::l,h=>by
  obtain ⟨x,rfl,hx⟩:=h c (by simp)
  obtain ⟨xs,rfl,hxs⟩:=f3r (f:=f) (p:=p) (l:=l) fun d hd=>h d (by simp [hd])
  exact ⟨x::xs,rfl,fun y hy=>by
   rcases List.mem_cons.1 hy with rfl | hy
   ·exact hx
   ·exact hxs y hy⟩
theorem b1j {α:Type} {P:Program} {n:Nat} {t e:TypeId} {ts:List T} {f:α→List T} {p:α→Prop} (hu:P.underlying t=some (.slice e)) (h:L1 P (n+1) t ts)
  (hx:∀ c,L1 P n e c→∃ x,c=f x∧p x):∃ l:List α,ts=[.sl e (l.map f)]∧l.length < 2 ^ 62∧∀ x,x∈l→p x:=by
 unfold L1 at h
 rw [hu] at h
 obtain ⟨es,rfl,hl,h2⟩:=h
 obtain ⟨xs,rfl,hp⟩:=f3r (f:=f) (p:=p) (l:=es) fun c hc=>hx c (h2 c hc)
 refine ⟨xs,rfl,?_,hp⟩
 simp at hl; unfold reachBytes at hl; omega
theorem d3g {n:Nat} {ts:List T} (h:L1 Tryz.prog (n+2) 267 ts):∃ x,ts=nT x∧True:=by
 unfold L1 at h
 rw [Tryz.underlying267] at h
 obtain ⟨c1,r1,rfl,h1,c2,r2,rfl,h2,c3,r3,rfl,h3,c4,r4,rfl,h4,rfl⟩:=h
 obtain ⟨x1,rfl,_⟩:=a3l h1
 obtain ⟨x2,rfl,_⟩:=a3l h2
 obtain ⟨x3,rfl,_⟩:=a3l h3
 obtain ⟨x4,rfl,_⟩:=a3l h4
 exact ⟨⟨x1,x2,x3,x4⟩,rfl,trivial⟩
theorem g1q {n:Nat} {ts:List T} (h:L1 Tryz.prog (n+4) 111 ts):∃ s:Step,ts=sT 267 s∧FitS s:=by
 unfold L1 at h
 rw [Tryz.underlying111] at h
 obtain ⟨c1,r1,rfl,h1,c2,r2,rfl,h2,c3,r3,rfl,h3,c4,r4,rfl,h4,c5,r5,rfl,h5,c6,r6,rfl,h6,rfl⟩:=h
 obtain ⟨x1,rfl,_⟩:=a3l h1
 obtain ⟨x2,rfl,p1,p2⟩:=a3l h2
 obtain ⟨x4,rfl,_⟩:=a3l h4
 obtain ⟨x5,rfl,l5,_⟩:=b1j (f:=nT) (p:=fun _=>True) Tryz.underlying109 h5 fun c hc=>d3g hc
 obtain ⟨x6,rfl,l6,_⟩:=b1j (f:=nT) (p:=fun _=>True) Tryz.underlying109 h6 fun c hc=>d3g hc
 simp only at h3
 unfold L1 at h3
 rw [Tryz.underlying9] at h3
 obtain ⟨x3,rfl,l3⟩:=h3
 exact ⟨⟨x1,x2,x3,x4,x5,x6⟩,rfl,p1,p2,by unfold reachBytes at l3; simp; omega,l5,l6⟩
theorem g1r {n:Nat} {ts:List T} (h:L1 Tryz.prog (n+6) 225 ts):∃ p:List Step,ts=pT 111 267 p∧FitP p:=by
 unfold L1 at h
 rw [Tryz.underlying225] at h
 obtain ⟨c1,r1,rfl,h1,rfl⟩:=h
 obtain ⟨l,rfl,hl,hf⟩:=b1j (f:=sT 267) (p:=FitS) Tryz.underlying22 h1 fun c hc=>g1q hc
 exact ⟨l,rfl,hl,hf⟩
theorem c1k {n:Nat} {ts:List T} (h:L1 Tryz.prog (n+2) 23 ts):∃ l:List Int,ts=[iS l]∧l.length < 2 ^ 62:=by
 obtain ⟨l,rfl,hl,_⟩:=b1j (f:=fun n=>[vI n]) (p:=fun _=>True) Tryz.underlying23 h fun c hc=>by
  obtain ⟨x,rfl,_⟩:=a3l hc
  exact ⟨x,rfl,trivial⟩
 exact ⟨l,rfl,hl⟩
theorem f9m {n:Nat} {ts:List T} (h:L1 Tryz.prog (n+3) 227 ts):∃ c:Chart,ts=cT c∧FitC c:=by
 unfold L1 at h
 rw [Tryz.underlying227] at h
 obtain ⟨c1,r1,rfl,h1,c2,r2,rfl,h2,c3,r3,rfl,h3,c4,r4,rfl,h4,c5,r5,rfl,h5,rfl⟩:=h
 obtain ⟨x1,rfl,_⟩:=a3l h1
 obtain ⟨x2,rfl,_⟩:=a3l h2
 obtain ⟨x3,rfl,l3⟩:=c1k h3
 obtain ⟨x4,rfl,l4⟩:=c1k h4
 obtain ⟨x5,rfl,l5⟩:=c1k h5
 exact ⟨⟨x1,x2,x3,x4,x5⟩,rfl,l3,l4,l5⟩
theorem g1s {n:Nat} {ts:List T} (h:L1 Tryz.prog (n+4) 229 ts):∃ x:Inst,ts=xT x∧FitC x.chart:=by
 unfold L1 at h
 rw [Tryz.underlying229] at h
 obtain ⟨c1,r1,rfl,h1,c2,r2,rfl,h2,rfl⟩:=h
 obtain ⟨x1,rfl,_⟩:=a3l h1
 obtain ⟨x2,rfl,f2⟩:=f9m h2
 exact ⟨⟨x1,x2⟩,rfl,f2⟩
theorem f8i {n:Nat} {ts:List T} (h:L1 Tryz.prog (n+8) 51 ts):∃ e:Engine,ts=eTl e∧FitE e:=by
 unfold L1 at h
 rw [Tryz.underlying51] at h
 obtain ⟨c1,r1,rfl,h1,c2,r2,rfl,h2,c3,r3,rfl,h3,rfl⟩:=h
 obtain ⟨x1,rfl,l1,f1⟩:=b1j (f:=pT 111 267) (p:=FitP) Tryz.underlying48 h1 fun c hc=>g1r hc
 obtain ⟨x2,rfl,l2,f2⟩:=b1j (f:=xT) (p:=fun x=>FitC x.chart) Tryz.underlying49 h2 fun c hc=>g1s hc
 obtain ⟨x3,rfl,_⟩:=a3l h3
 exact ⟨⟨x1,x2,x3⟩,rfl,l1,l2,f1,f2⟩
attribute [local simp] a1r a6b a9z
end Go.TM.Ft
namespace Go.TM.Ft
open Go Go.TM Go.Proofs
theorem b7i {α:Type} (w:α→Nat) (s:List α→Nat) (h0:∀ x r,s (x::r)=w x+s r):∀ {l:List α} {x:α},x∈l→w x≤s l
 | [],x,h=>by simp at h
 | y::l,x,h=>by
  rw [h0]
  rcases List.mem_cons.1 h with rfl | h
  ·omega
  ·have:=b7i w s h0 h; omega
theorem f3s {e:Engine} (h:G7 e≤1048576):SmE e:=by
 have h1:P8 e.procs≤1048576:=by simp only [G7] at h; omega
 have h2:Q9 e.insts≤1048576:=by simp only [G7] at h; omega
 refine ⟨by simp only [P8] at h1; omega,by simp only [Q9] at h2; omega,fun p hp=>?_,fun x hx=>?_⟩
 ·have hw:J4 p≤1048576:=by
   have:=b7i J4 N0 (fun _ _=>rfl) hp
   simp only [P8] at h1; omega
  simp only [J4,a1u] at hw
  refine ⟨by omega,fun s hs=>?_⟩
  have:=b7i G8 N3 (fun _ _=>rfl) hs
  simp only [G8] at this
  exact ⟨by omega,by omega⟩
 ·have hw:H9 x≤1048576:=by
   have:=b7i H9 L3 (fun _ _=>rfl) hx
   simp only [Q9] at h2; omega
  simp only [H9,K2] at hw
  exact ⟨by omega,by omega,by omega⟩
theorem h5k {l:List Step} {c:Chart} (h:Inv l c) (w:Wf l):K2 c≤100:=by
 have:=w.ok.le
 have:=h.vars
 have:=h.acts
 have:=h.dues
 simp only [K2]; omega
theorem h3x (k:Int):a3k (b2x k)≤100:=by simp [a3k,b2x,noE,G7,P8,Q9,N0,L3]
theorem f6j (x:EngR):a2q x≤4*a3k x:=by
 have:=d3f x.eng
 simp only [a2q,a3k]; omega
theorem f3t {e:Engine} {n:Int} (h:a0p e n=0):∀ (l:List Inst),(∀ x,x∈l→x∈e.insts)→L3 (l.map (tkX e n))≤100*l.length
 | [],_=>Nat.le_refl _
 | x::l,hl=>by
  have ih:=f3t h l fun y hy=>hl y (by simp [hy])
  obtain ⟨a,ha,hp,e2,i1,w,du,hno,_⟩:=c1j h (hl x (by simp))
  obtain ⟨_,_,_,_,h5,_⟩:=a8h h
  have h0:=(a8h h).2.1
  obtain ⟨i2,d2⟩:=c3c i1 du (now:=e.now+n) (by omega) h5
  have i3:=d2x w 30 _ i2 d2
  have hw:K2 (tkX e n x).chart≤100:=by
   unfold tkX; simp only; rw [e2]; exact h5k i3 w
  have:H9 (tkX e n x)≤100:=by simpa only [H9] using hw
  simp only [List.map_cons,L3,List.length_cons]
  omega
theorem g5b (e:Engine) (n:Int):a3k (a8x e n)≤G7 e+1000:=by
 unfold a8x
 split
 ·have:=h3x (a0p e n); omega
 ·rename_i h
  have hz:a0p e n=0:=by simpa [A0,eqI] using h
  have h1:=f3t hz e.insts fun x hx=>hx
  have h2:=(b6k (a8h hz).1).2.1
  simp only [a3k,G7,Q9,List.length_map] at *
  omega
set_option maxRecDepth 20000
attribute [local congr] K9
attribute [local simp] J8 K0 J0 J9 H3 J6 H4 G4 H5 G1 a1r a6b a9z
theorem g1t (e:Engine) (h_e:FitE e) (n:Int):
  fo 8 [A (.agg (eTl e)),A (vI n)]=some (R (vB true)):=by
 have s0:=f9j e (1048576) (by omega) (by omega) (g1p h_e)
 cases c0:ltI (B8 (1048576) (G7 e)) 0
 rotate_left
 ·refine f4r 1 ?_
  simp (maxSteps:=1000000) +contextual -dsimp [Tryz.f8,s0,c0,List.set]
 obtain ⟨p0,e0⟩:=a1y c0
 rw [e0] at s0 c0
 have v0:G7 e≤1048576:=by omega
 have o0:=f9l e v0
 have q0:=d0w e (by omega)
 have b0:=d3f e
 have r1:=f6r e h_e (f3s v0) n
 have r2:=f7h e h_e (f3s v0) n
 have hw:a3k (a8x e n)≤2097152:=(by have:=g5b e n; omega)
 generalize a8x e n=x at *
 have bx:=f6j x
 have qx:=f6f x hw
 obtain ⟨d0,m0⟩:=c8n e (1) (by omega) (by omega) (by omega)
 obtain ⟨dx,mx⟩:=f6c x 1 (by omega) (by omega) hw
 have hx:=f6d x 1 (by omega) (by omega) hw
 rw [show (T.agg (erT (a8e 1 x)):T)=.agg [vI x.code,vI x.value,.sl 160 ((a8e 1 x).eng.procs.map (pT 124 219)),.sl 163 ((a8e 1 x).eng.insts.map xT),vI x.eng.now] from rfl] at hx
 have n1:ltI (1+(a0z e:Nat)) 0=false:=B7 (by omega)
 have n2:ltI (1+(a2q x:Nat)) 0=false:=B7 (by omega)
 generalize 1+(a0z e:Int)=a0 at *
 generalize a8m 1 e=y0 at *
 generalize 1+(a2q x:Int)=ax at *
 generalize a8e 1 x=y at *
 have t0:=b9f e.procs
 have t1:=b9g e.insts
 have t2:=b9f x.eng.procs
 have t3:=b9g x.eng.insts
 have t4:=b9f y.eng.procs
 have t5:=b9g y.eng.insts
 refine f4r 1 ?_
 simp (maxSteps:=4000000) +contextual -dsimp [Tryz.f8,s0,c0,o0,q0,m0,r1,r2,qx,mx,hx,n1,n2,t0,t1,t2,t3,t4,t5,C1,a1e,a3o,a3m,a5a,O1,a2r,a3a,a5d,valArg,List.set]
end Go.TM.Ft
namespace Go.TM.Ft
open Go Go.TM Go.Proofs Go.RowKit Go.ChangeShapes Go.WideShapes
set_option maxRecDepth 20000
def c6r (sz:TypeId→Nat) (h:Array Obj) (I:Nat→Prop):List T→List Value→Prop
 | [],us=>us=[]
 | t::ts,us=>∃ u us',us=u::us'∧okV sz h I t u []∧c6r sz h I ts us'
theorem d1b {sz h I}:∀ {ar:List T} {us:List Value} (i:Nat),c6r sz h I ar us→okArgs sz h I i (ar.map A) us []
 | [],us,i,h=>⟨h,rfl⟩
 | t::ts,us,i,h=>by
  obtain ⟨u,us',rfl,h1,h2⟩:=h
  exact ⟨u,us',[],[],rfl,rfl,⟨h1,rfl⟩,d1b (i+1) h2⟩
theorem g1u {f:Nat} {ar:List T} {us:List Value} {W:Go.World} (hl:lends (E.mode f)=false) (h:fo f (ar.map A)=some (R (vB true))) (hok:c6r (szOf E) W.heap (fun b=>b < W.heap.size) ar us):
  Calls Tryz.prog f us.toArray W fun e W'=>e=.returned (.bool true)∧Below W.heap.size W W':=by
 have hs:=(b6t h5y h).1.old hl ⟨W,[],fun b=>b < W.heap.size,fun b hb=>⟨hb,by simp⟩⟩ us (by simp [Uniq]) (by simp) (d1b 0 hok)
 refine Calls.mono hs fun e W' h=>?_
 match e,h with
 | .returned u,h=>
  obtain ⟨f,fo,hu,_⟩:=h.ok
  simp only [okV] at hu
  obtain ⟨rfl,_⟩:=hu
  exact ⟨rfl,⟨h.fr.os,h.fr.tape,h.fr.output,h.fr.size,fun k hk=>h.fr.block k hk (by simp)⟩⟩
section
variable {H:Type} {enc:TypeId × Value→H} {W:Go.World} {base:Nat} {n:Nat} {t:TypeId} {v:Value} {d:DataW H} {p:List MemPlace}
theorem g1v (hp:a5o (szOf E) Tryz.prog n t=true) (h:DataW.Trod enc Tryz.prog W 0 (fun _=>true) true t v d p) (hv:v.cells=#[v]) (hwt:∀ k,k∈d.weights Tryz.prog t→k≤reachBytes):
  ∃ a,L1 Tryz.prog n t [a]∧okV (szOf E) W.heap (fun b=>b < W.heap.size) a v []:=by
 obtain ⟨ts,ht,hok⟩:=g6p (sz:=szOf E) (I:=fun b=>b < W.heap.size) (fun b hb=>hb) hp h hv hwt
 match ts,hok with
 | [],hok=>simp [okL] at hok
 | a::ts,hok=>
  simp only [okL] at hok
  obtain ⟨u,us',f1,f2,e1,e2,h1,h2⟩:=hok
  obtain ⟨rfl,rfl⟩:=List.cons.inj e1
  obtain ⟨rfl,rfl⟩:=List.append_eq_nil_iff.1 e2.symm
  cases ts with
  | nil=>exact ⟨a,ht,h1⟩
  | cons b ts=>simp [okL] at h2
theorem g5c {k:IntKind} (hu:Tryz.prog.underlying t=some (.int k)) (hp:a5o (szOf E) Tryz.prog n t=true) (h:DataW.Trod enc Tryz.prog W 0 (fun _=>true) true t v d p) (hv:Value.okWide Tryz.prog W .any base t v)
  (hwt:∀ k,k∈d.weights Tryz.prog t→k≤reachBytes):∃ a,L1 Tryz.prog n t [a]∧okV (szOf E) W.heap (fun b=>b < W.heap.size) a v []:=by
 obtain ⟨m,rfl⟩:=okWide_int hu hv
 exact g1v hp h rfl hwt
theorem f8j {fs:Array Field} (hu:Tryz.prog.underlying t=some (.struct fs)) (hp:a5o (szOf E) Tryz.prog n t=true) (h:DataW.Trod enc Tryz.prog W 0 (fun _=>true) true t v d p) (hv:Value.okWide Tryz.prog W .any base t v)
  (hwt:∀ k,k∈d.weights Tryz.prog t→k≤reachBytes):∃ cs,L1 Tryz.prog n t cs∧okV (szOf E) W.heap (fun b=>b < W.heap.size) (.agg cs) v []:=by
 simp only [Value.okWide,hu] at hv
 obtain ⟨cs,rfl,_⟩:=hv
 obtain ⟨fuel,hf0⟩:=h
 obtain ⟨ts,ht,hok⟩:=b8a (sz:=szOf E) (I:=fun b=>b < W.heap.size) (fun b hb=>hb) n fuel t _ _ hp hf0 hwt
 exact ⟨ts,ht,by simp only [okV]; exact ⟨cs.toList,by simp,hok⟩⟩
end
end Go.TM.Ft
