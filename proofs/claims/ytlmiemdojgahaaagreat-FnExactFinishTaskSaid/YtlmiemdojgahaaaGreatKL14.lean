/- What functions of the program come to, by the machine. -/
import Derived.Test.YtlmiemdojgahaaaGreatKL12
import Derived.Test.YtlmiemdojgahaaaGreatKL13
import Derived.Test.YtlmiemdojgahaaaGreatKL5
import Derived.Test.YtlmiemdojgahaaaGreatKL8
set_option linter.unusedSimpArgs false
set_option linter.unusedVariables false
set_option maxHeartbeats 4000000
namespace Go.TM.Ft
open Go Go.TM Go.Proofs Go.Proofs.Tryz
set_option maxRecDepth 20000
attribute [local congr] M0
attribute [local simp] K2 K6 J4 K3 H7 J9 H8 G9 J1 G3 a2h a5d a7p b6u a7j
theorem c8b (l:List Node):((l.map nT).all fun c=>c.all W7)=true:=by
 rw [List.all_eq_true]; intro c hc; obtain ⟨x,_,rfl⟩:=List.mem_map.1 hc; rfl
theorem e1b (l:List Node) (hl:l.length≤1048576):fo 285 [A (nS 219 l)]=some ⟨.own 219 (l.map nT),[],true⟩:=by
 refine b9n (g:=a5p 219) rfl ?_
 have h1:=c8b l
 have h2:=b2h hl
 simp only [a5p]
 rw [if_pos ⟨trivial,h1,by simpa using h2⟩,a7j]
theorem b0d {α:Type}:∀ (r:List α) (i:Nat) (acc:List α),M9 (fun _ acc x=>acc++[x]) i acc r=acc++r
 | [],_,acc=>by simp [M9]
 | x::r,i,acc=>by simp only [M9]; rw [b0d r]; simp
def SmS (s:Step):Prop:=s.cond.length≤1048576∧s.expr.length≤1048576
theorem i6f (l:List Step) (hl:l.length≤1048576) (hf:∀ s,s∈l→SmS s):
  A6 E (orc E) (246:Nat) (l.length+1) (A8 f246 0) ⟨27,[(3,.ref 3 1 [] 0 0),(7,.sl 124 (l.map (sT 219))),(8,vI l.length),(9,vI (0:Nat))],[(3,⟨1,1,false,[.own 124 []]⟩)],2⟩=
  some (.exit 0,⟨27,[(3,.ref 3 1 [] 0 l.length),(7,.sl 124 (l.map (sT 219))),(8,vI l.length),(9,vI l.length),(10,vB false)],[(3,⟨1,1,false,[.own 124 (l.map N6)]⟩)],2⟩):=by
 have h:=a4h (σ:=List Step) (f:=246) (id:=0) (code:=A8 f246 0) l (fun i acc=>acc.length=i)
  (fun i acc=>⟨27,[(3,.ref 3 1 [] 0 acc.length),(7,.sl 124 (l.map (sT 219))),(8,vI l.length),(9,vI i)],[(3,⟨1,1,false,[.own 124 (acc.map N6)]⟩)],2⟩) (fun _ acc x=>acc++[x])
  (fun acc=>⟨27,[(3,.ref 3 1 [] 0 acc.length),(7,.sl 124 (l.map (sT 219))),(8,vI l.length),(9,vI l.length),(10,vB false)],[(3,⟨1,1,false,[.own 124 (acc.map N6)]⟩)],2⟩)
 have h2:=h ?_ ?_ [] rfl
 ·rw [b0d] at h2; simpa using h2
 ·intro k acc _
  have hlt:=a2m l.length
  simp +contextual -dsimp [f246,hlt]
 ·intro k i acc hi hI
  have hlt:=P7 hi
  have hw:=P1 hi (by omega)
  have hcap:acc.length+1≤C2:=by unfold C2; omega
  have hs:=hf l[i] (List.getElem_mem hi)
  have g1:=e1b l[i].cond hs.1
  have g2:=e1b l[i].expr hs.2
  refine ⟨?_,by simp [hI]⟩
  simp (maxSteps:=1000000) +contextual -dsimp [f246,hlt,hi,hw,g1,g2,hcap,List.set]
theorem g4t (l:List Step) (hl:l.length≤1048576) (hf:∀ s,s∈l→SmS s):fo 246 [A (.sl 124 (l.map (sT 219)))]=some ⟨.own 124 (l.map N6),[],true⟩:=by
 have hlp:=i6f l hl hf
 have hcl:=b1s l
 refine h9g (l.length+1) ?_
 simp -dsimp [f246] at hlp
 simp (maxSteps:=1000000) +contextual -dsimp [f246,hlp,hcl,List.set]
theorem i6g (l:List Step) (hl:l.length≤1048576) (hf:∀ s,s∈l→SmS s):
  A6 E (orc E) (242:Nat) (l.length+1) (A8 f242 0) ⟨32,[(0,.sl 124 (l.map (sT 219))),(3,.ref 3 1 [] 0 0),(4,vI (0:Nat))],[(3,⟨1,1,false,[.own 124 []]⟩)],2⟩=
  some (.exit 0,⟨32,[(0,.sl 124 (l.map (sT 219))),(3,.ref 3 1 [] 0 l.length),(4,vI l.length),(10,vB false)],[(3,⟨1,1,false,[.own 124 (l.map N6)]⟩)],2⟩):=by
 have h:=a4h (σ:=List Step) (f:=242) (id:=0) (code:=A8 f242 0) l (fun i acc=>acc.length=i)
  (fun i acc=>⟨32,[(0,.sl 124 (l.map (sT 219))),(3,.ref 3 1 [] 0 acc.length),(4,vI i)],[(3,⟨1,1,false,[.own 124 (acc.map N6)]⟩)],2⟩) (fun _ acc x=>acc++[x])
  (fun acc=>⟨32,[(0,.sl 124 (l.map (sT 219))),(3,.ref 3 1 [] 0 acc.length),(4,vI l.length),(10,vB false)],[(3,⟨1,1,false,[.own 124 (acc.map N6)]⟩)],2⟩)
 have h2:=h ?_ ?_ [] rfl
 ·rw [b0d] at h2; simpa using h2
 ·intro k acc _
  have hlt:=a2m l.length
  simp +contextual -dsimp [f242,hlt]
 ·intro k i acc hi hI
  have hlt:=P7 hi
  have hw:=P1 hi (by omega)
  have hcap:acc.length+1≤C2:=by unfold C2; omega
  have hs:=hf l[i] (List.getElem_mem hi)
  have h1:=c8b l[i].cond
  have h2:=c8b l[i].expr
  have h3:l[i].cond.length≤C2:=b2h hs.1
  have h4:l[i].expr.length≤C2:=b2h hs.2
  refine ⟨?_,by simp [hI]⟩
  simp (maxSteps:=1000000) +contextual -dsimp [f242,hlt,hi,hw,h1,h2,h3,h4,hcap,List.set]
theorem h3h (l:List Step) (hl:l.length≤1048576) (hf:∀ s,s∈l→SmS s):fo 242 [A (.sl 124 (l.map (sT 219)))]=some ⟨.own 124 (l.map N6),[],true⟩:=by
 have hlp:=i6g l hl hf
 have hcl:=b1s l
 refine h9c (l.length+1) ?_
 simp -dsimp [f242] at hlp
 simp (maxSteps:=1000000) +contextual -dsimp [f242,hlp,hcl,List.set]
abbrev SmP (p:List Step):Prop:=p.length≤1048576∧∀ s,s∈p→SmS s
theorem i6h (l:List (List Step)) (hl:l.length≤1048576) (hf:∀ s,s∈l→SmP s):
  A6 E (orc E) (187:Nat) (l.length+1) (A8 f187 0) ⟨22,[(3,.ref 3 1 [] 0 0),(7,.sl 160 (l.map (pT 124 219))),(8,vI l.length),(9,vI (0:Nat))],[(3,⟨1,1,false,[.own 160 []]⟩)],2⟩=
  some (.exit 0,⟨22,[(3,.ref 3 1 [] 0 l.length),(7,.sl 160 (l.map (pT 124 219))),(8,vI l.length),(9,vI l.length),(10,vB false)],[(3,⟨1,1,false,[.own 160 (l.map H5)]⟩)],2⟩):=by
 have h:=a4h (σ:=List (List Step)) (f:=187) (id:=0) (code:=A8 f187 0) l (fun i acc=>acc.length=i)
  (fun i acc=>⟨22,[(3,.ref 3 1 [] 0 acc.length),(7,.sl 160 (l.map (pT 124 219))),(8,vI l.length),(9,vI i)],[(3,⟨1,1,false,[.own 160 (acc.map H5)]⟩)],2⟩) (fun _ acc x=>acc++[x])
  (fun acc=>⟨22,[(3,.ref 3 1 [] 0 acc.length),(7,.sl 160 (l.map (pT 124 219))),(8,vI l.length),(9,vI l.length),(10,vB false)],[(3,⟨1,1,false,[.own 160 (acc.map H5)]⟩)],2⟩)
 have h2:=h ?_ ?_ [] rfl
 ·rw [b0d] at h2; simpa using h2
 ·intro k acc _
  have hlt:=a2m l.length
  simp +contextual -dsimp [f187,hlt]
 ·intro k i acc hi hI
  have hlt:=P7 hi
  have hw:=P1 hi (by omega)
  have hcap:acc.length+1≤C2:=by unfold C2; omega
  have hs:=hf l[i] (List.getElem_mem hi)
  have g1:=g4t l[i] hs.1 hs.2
  refine ⟨?_,by simp [hI]⟩
  simp (maxSteps:=1000000) +contextual -dsimp [f187,hlt,hi,hw,g1,hcap,List.set]
theorem g4u (l:List (List Step)) (hl:l.length≤1048576) (hf:∀ s,s∈l→SmP s):fo 187 [A (.sl 160 (l.map (pT 124 219)))]=some ⟨.own 160 (l.map H5),[],true⟩:=by
 have hlp:=i6h l hl hf
 have hcl:=a1q l
 refine h7t (l.length+1) ?_
 simp -dsimp [f187] at hlp
 simp (maxSteps:=1000000) +contextual -dsimp [f187,hlp,hcl,List.set]
theorem i6i (l:List (List Step)) (hl:l.length≤1048576) (hf:∀ s,s∈l→SmP s):
  A6 E (orc E) (182:Nat) (l.length+1) (A8 f182 0) ⟨23,[(0,.sl 160 (l.map (pT 124 219))),(3,.ref 3 1 [] 0 0),(4,vI (0:Nat))],[(3,⟨1,1,false,[.own 160 []]⟩)],2⟩=
  some (.exit 0,⟨23,[(0,.sl 160 (l.map (pT 124 219))),(3,.ref 3 1 [] 0 l.length),(4,vI l.length),(9,vB false)],[(3,⟨1,1,false,[.own 160 (l.map H5)]⟩)],2⟩):=by
 have h:=a4h (σ:=List (List Step)) (f:=182) (id:=0) (code:=A8 f182 0) l (fun i acc=>acc.length=i)
  (fun i acc=>⟨23,[(0,.sl 160 (l.map (pT 124 219))),(3,.ref 3 1 [] 0 acc.length),(4,vI i)],[(3,⟨1,1,false,[.own 160 (acc.map H5)]⟩)],2⟩) (fun _ acc x=>acc++[x])
  (fun acc=>⟨23,[(0,.sl 160 (l.map (pT 124 219))),(3,.ref 3 1 [] 0 acc.length),(4,vI l.length),(9,vB false)],[(3,⟨1,1,false,[.own 160 (acc.map H5)]⟩)],2⟩)
 have h2:=h ?_ ?_ [] rfl
 ·rw [b0d] at h2; simpa using h2
 ·intro k acc _
  have hlt:=a2m l.length
  simp +contextual -dsimp [f182,hlt]
 ·intro k i acc hi hI
  have hlt:=P7 hi
  have hw:=P1 hi (by omega)
  have hcap:acc.length+1≤C2:=by unfold C2; omega
  have hs:=hf l[i] (List.getElem_mem hi)
  have g1:=h3h l[i] hs.1 hs.2
  refine ⟨?_,by simp [hI]⟩
  simp (maxSteps:=1000000) +contextual -dsimp [f182,hlt,hi,hw,g1,hcap,List.set]
theorem g5s (l:List (List Step)) (hl:l.length≤1048576) (hf:∀ s,s∈l→SmP s):fo 182 [A (.sl 160 (l.map (pT 124 219)))]=some ⟨.own 160 (l.map H5),[],true⟩:=by
 have hlp:=i6i l hl hf
 have hcl:=a1q l
 refine h7p (l.length+1) ?_
 simp -dsimp [f182] at hlp
 simp (maxSteps:=1000000) +contextual -dsimp [f182,hlp,hcl,List.set]
structure SmE (e:Engine):Prop where
 np:e.procs.length≤1048576
 ni:e.insts.length≤1048576
 procs:∀ p,p∈e.procs→SmP p
 insts:∀ x,x∈e.insts→Few x.chart
abbrev z59:List T:=[.own 160 [],.own 163 [],vI 0]
theorem i6j (e:Engine) (h:SmE e):
  A6 E (orc E) (116:Nat) (e.insts.length+1) (A8 f116 0) ⟨32,[(2,.ptr 2 1 [] 0),(3,.ptr 3 1 [] 0),(13,.sl 163 (e.insts.map xT)),(14,vI e.insts.length),(15,vI (0:Nat))],[(1,⟨1,1,true,eT e⟩),(2,⟨1,1,true,z59⟩),(3,⟨1,1,true,[.own 160 (e.procs.map H5),.own 163 [],vI e.now]⟩)],2⟩=
  some (.exit 0,⟨32,[(2,.ptr 2 1 [] 0),(3,.ptr 3 1 [] 0),(13,.sl 163 (e.insts.map xT)),(14,vI e.insts.length),(15,vI e.insts.length),(16,vB false)],[(1,⟨1,1,true,eT e⟩),(2,⟨1,1,true,z59⟩),(3,⟨1,1,true,b2p e⟩)],2⟩):=by
 have hl:=h.ni
 have hh:=a4h (σ:=List Inst) (f:=116) (id:=0) (code:=A8 f116 0) e.insts (fun i acc=>acc.length=i)
  (fun i acc=>⟨32,[(2,.ptr 2 1 [] 0),(3,.ptr 3 1 [] 0),(13,.sl 163 (e.insts.map xT)),(14,vI e.insts.length),(15,vI i)],[(1,⟨1,1,true,eT e⟩),(2,⟨1,1,true,z59⟩),(3,⟨1,1,true,[.own 160 (e.procs.map H5),.own 163 (acc.map L7),vI e.now]⟩)],2⟩) (fun _ acc x=>acc++[x])
  (fun acc=>⟨32,[(2,.ptr 2 1 [] 0),(3,.ptr 3 1 [] 0),(13,.sl 163 (e.insts.map xT)),(14,vI e.insts.length),(15,vI e.insts.length),(16,vB false)],[(1,⟨1,1,true,eT e⟩),(2,⟨1,1,true,z59⟩),(3,⟨1,1,true,[.own 160 (e.procs.map H5),.own 163 (acc.map L7),vI e.now]⟩)],2⟩)
 have h2:=hh ?_ ?_ [] rfl
 ·rw [b0d] at h2; simpa using h2
 ·intro k acc _
  have hlt:=a2m e.insts.length
  simp +contextual -dsimp [f116,hlt]
 ·intro k i acc hi hI
  have hlt:=P7 hi
  have hw:=P1 hi (by omega)
  have hcap:acc.length+1≤C2:=by unfold C2; omega
  have g1:=e0p e.insts[i].chart (h.insts _ (List.getElem_mem hi))
  refine ⟨?_,by simp [hI]⟩
  simp (maxSteps:=1000000) +contextual -dsimp [f116,hlt,hi,hw,g1,hcap,List.set]
theorem h3i (e:Engine) (h:SmE e):fo 116 [A (.agg (eT e))]=some ⟨.agg (b2p e),[],true⟩:=by
 have hlp:=i6j e h
 have hcl:=a1q e.procs
 have hcl2:=a2t e.insts
 have g1:=g4u e.procs h.np h.procs
 refine h6j (e.insts.length+1) ?_
 simp -dsimp [f116] at hlp
 simp (maxSteps:=1000000) +contextual -dsimp [f116,hlp,hcl,hcl2,g1,List.set]
theorem i6k (e:Engine) (h:SmE e):
  A6 E (orc E) (110:Nat) (e.insts.length+1) (A8 f110 0) ⟨38,[(1,.ptr 1 1 [] 0),(2,.ptr 2 1 [] 0),(3,.ptr 3 1 [] 0),(4,vI (0:Nat))],[(1,⟨1,1,true,eT e⟩),(2,⟨1,1,true,z59⟩),(3,⟨1,1,true,[.own 160 (e.procs.map H5),.own 163 [],vI e.now]⟩)],2⟩=
  some (.exit 0,⟨38,[(1,.ptr 1 1 [] 0),(2,.ptr 2 1 [] 0),(3,.ptr 3 1 [] 0),(4,vI e.insts.length),(15,vB false)],[(1,⟨1,1,true,eT e⟩),(2,⟨1,1,true,z59⟩),(3,⟨1,1,true,b2p e⟩)],2⟩):=by
 have hl:=h.ni
 have hh:=a4h (σ:=List Inst) (f:=110) (id:=0) (code:=A8 f110 0) e.insts (fun i acc=>acc.length=i)
  (fun i acc=>⟨38,[(1,.ptr 1 1 [] 0),(2,.ptr 2 1 [] 0),(3,.ptr 3 1 [] 0),(4,vI i)],[(1,⟨1,1,true,eT e⟩),(2,⟨1,1,true,z59⟩),(3,⟨1,1,true,[.own 160 (e.procs.map H5),.own 163 (acc.map L7),vI e.now]⟩)],2⟩) (fun _ acc x=>acc++[x])
  (fun acc=>⟨38,[(1,.ptr 1 1 [] 0),(2,.ptr 2 1 [] 0),(3,.ptr 3 1 [] 0),(4,vI e.insts.length),(15,vB false)],[(1,⟨1,1,true,eT e⟩),(2,⟨1,1,true,z59⟩),(3,⟨1,1,true,[.own 160 (e.procs.map H5),.own 163 (acc.map L7),vI e.now]⟩)],2⟩)
 have h2:=hh ?_ ?_ [] rfl
 ·rw [b0d] at h2; simpa using h2
 ·intro k acc _
  have hlt:=a2m e.insts.length
  simp +contextual -dsimp [f110,hlt]
 ·intro k i acc hi hI
  have hlt:=P7 hi
  have hw:=P1 hi (by omega)
  have hcap:acc.length+1≤C2:=by unfold C2; omega
  have g1:=e0q e.insts[i].chart (h.insts _ (List.getElem_mem hi))
  refine ⟨?_,by simp [hI]⟩
  simp (maxSteps:=1000000) +contextual -dsimp [f110,hlt,hi,hw,g1,hcap,List.set]
theorem g9u (e:Engine) (h:SmE e):fo 110 [A (.agg (eT e))]=some ⟨.agg (b2p e),[],true⟩:=by
 have hlp:=i6k e h
 have hcl:=a1q e.procs
 have hcl2:=a2t e.insts
 have g1:=g5s e.procs h.np h.procs
 refine h6d (e.insts.length+1) ?_
 simp -dsimp [f110] at hlp
 simp (maxSteps:=1000000) +contextual -dsimp [f110,hlp,hcl,hcl2,g1,List.set]
attribute [local simp] a1q a2t a4g a2r
theorem i4n (l:List Claim):((l.map kT).all fun c=>c.all W7)=true:=by
 rw [List.all_eq_true]; intro c hc; obtain ⟨x,_,rfl⟩:=List.mem_map.1 hc; rfl
theorem e1c (l:List Claim) (hl:l.length≤1048576):fo 149 [A (.sl 150 (l.map kT))]=some ⟨.own 150 (l.map kT),[],true⟩:=by
 refine b9n (g:=a5p 150) rfl ?_
 have h1:=i4n l
 have h2:=b2h hl
 simp only [a5p]
 rw [if_pos ⟨trivial,h1,by simpa using h2⟩,a2r]
structure SmD (d:Desk):Prop where
 eng:SmE d.eng
 claims:d.claims.length≤1048576
def noD:Desk:=⟨⟨[],[],0⟩,[]⟩
def a1n (k:Int):DeskR:=⟨k,0,noD⟩
abbrev RDk (r:DeskR):Res:=⟨.agg (d3b r),[],true⟩
theorem c5d (k:Int):fo 94 [A (vI k)]=some (RDk (a1n k)):=by
 refine i3r 1 ?_
 simp (maxSteps:=1000000) +contextual -dsimp [f94,a1n,noD,List.set]
def O3 (c:Claim) (i s:Int):Bool:=A1 (eqI c.inst i) (eqI c.step s)
def U1:List Claim→Int→Int→Int
 | [],_,_=>0
 | c::r,i,s=>if O3 c i s=true then c.user else U1 r i s
theorem g3f (d:Desk) (hl:d.claims.length≤1048576) (i s:Int):∀ (rest:List Claim) (k:Nat),d.claims.drop k=rest→(∀ c,c∈rest→O3 c i s=false)→
  A6 E (orc E) (95:Nat) (rest.length+1) (A8 f95 0) ⟨47,[(0,.ipt (dT d)),(1,vI i),(2,vI s),(7,vI k)],[],2⟩=
  some (.exit 0,⟨47,[(0,.ipt (dT d)),(1,vI i),(2,vI s),(7,vI (k+rest.length:Nat)),(14,vB false)],[],2⟩)
 | [],k,h,_=>by
  have hge:d.claims.length≤k:=by simpa using h
  have hlt:ltI (k:Int) (d.claims.length:Int)=false:=B6 (by omega)
  rw [C3]
  simp +contextual -dsimp [f95,hlt]
 | c::rest,k,h,hn=>by
  obtain ⟨hi,hc,hr⟩:=C6 h
  have hlt:ltI (k:Int) (d.claims.length:Int)=true:=C4 (by omega)
  have hw:IntKind.i64.wrap ((k:Int)+1)=((k+1:Nat):Int):=by rw [A5] <;> omega
  have he:k+1+rest.length=k+(rest.length+1):=by omega
  have ih:=g3f d hl i s rest (k+1) hr fun c hc=>hn c (by simp [hc])
  rw [he] at ih
  have q:=hn c (by simp)
  unfold O3 at q
  refine C1 ?_ (by simpa only [List.length_cons] using ih)
  simp (maxSteps:=1000000) +contextual -dsimp [f95,hlt,hi,hc,hw,q,List.set]
theorem g2m (d:Desk) (hl:d.claims.length≤1048576) (i s:Int):∀ (rest:List Claim) (k:Nat),d.claims.drop k=rest→(∃ c,c∈rest∧O3 c i s=true)→
  A6 E (orc E) (95:Nat) (rest.length+1) (A8 f95 0) ⟨47,[(0,.ipt (dT d)),(1,vI i),(2,vI s),(7,vI k)],[],2⟩=
  some (.ret,⟨47,[(6,vI (U1 rest i s))],[],2⟩)
 | [],k,h,hx=>by obtain ⟨c,hc,_⟩:=hx; simp at hc
 | c::rest,k,h,hx=>by
  obtain ⟨hi,hc,hr⟩:=C6 h
  have hlt:ltI (k:Int) (d.claims.length:Int)=true:=C4 (by omega)
  have hw:IntKind.i64.wrap ((k:Int)+1)=((k+1:Nat):Int):=by rw [A5] <;> omega
  cases q:O3 c i s
  ·have ih:=g2m d hl i s rest (k+1) hr (by
    obtain ⟨c',hc',q'⟩:=hx
    rcases List.mem_cons.1 hc' with rfl | hc'
    ·rw [q] at q'; cases q'
    ·exact ⟨c',hc',q'⟩)
   have hm:U1 (c::rest) i s=U1 rest i s:=by simp [U1,q]
   rw [hm]
   unfold O3 at q
   refine C1 ?_ (by simpa only [List.length_cons] using ih)
   simp (maxSteps:=1000000) +contextual -dsimp [f95,hlt,hi,hc,hw,q,List.set]
  ·have hm:U1 (c::rest) i s=c.user:=by simp [U1,q]
   rw [hm]
   unfold O3 at q
   refine D3 ?_ (by simp)
   simp (maxSteps:=1000000) +contextual -dsimp [f95,hlt,hi,hc,q,List.set]
theorem c3b {i s:Int}:∀ {l:List Claim},(∀ c,c∈l→O3 c i s=false)→U1 l i s=0
 | [],_=>rfl
 | c::l,h=>by
  simp only [U1,h c (by simp)]
  exact c3b fun c hc=>h c (by simp [hc])
theorem h3j (d:Desk) (hl:d.claims.length≤1048576) (i s:Int):fo 95 [A (.ipt (dT d)),A (vI i),A (vI s)]=some (R (vI (U1 d.claims i s))):=by
 refine i3s (d.claims.length+1) ?_
 by_cases h:∃ c,c∈d.claims∧O3 c i s=true
 ·have hlp:=g2m d hl i s d.claims 0 rfl h
  simp -dsimp [f95] at hlp
  simp (maxSteps:=1000000) +contextual -dsimp [f95,hlp,List.set]
 ·have hn:∀ c,c∈d.claims→O3 c i s=false:=fun c hc=>by
   cases q:O3 c i s
   ·rfl
   ·exact absurd ⟨c,hc,q⟩ h
  have hlp:=g3f d hl i s d.claims 0 rfl hn
  simp -dsimp [f95] at hlp
  rw [c3b hn]
  simp (maxSteps:=1000000) +contextual -dsimp [f95,hlp,List.set]
def a9t (i s:Int) (c:Claim):Bool:=orB (A0 (eqI c.inst i)) (A0 (eqI c.step s))
def U6 (l:List Claim) (i s:Int):List Claim:=l.filter (a9t i s)
theorem c0z {α:Type} (p:α→Bool):∀ (r:List α) (i:Nat) (acc:List α),M9 (fun _ acc x=>if p x=true then acc++[x] else acc) i acc r=acc++r.filter p
 | [],_,acc=>by simp [M9]
 | x::r,i,acc=>by
  simp only [M9]; rw [c0z p r]
  cases q:p x <;> simp [q]
theorem i7a (l:List Claim) (hl:l.length≤1048576) (i s:Int):
  A6 E (orc E) (97:Nat) (l.length+1) (A8 f97 0) ⟨40,[(0,.sl 150 (l.map kT)),(1,vI i),(2,vI s),(7,.ref 7 1 [] 0 0),(8,vI (0:Nat))],[(7,⟨1,1,false,[.own 150 []]⟩)],2⟩=
  some (.exit 0,⟨40,[(0,.sl 150 (l.map kT)),(1,vI i),(2,vI s),(7,.ref 7 1 [] 0 (U6 l i s).length),(8,vI l.length),(13,vB false)],[(7,⟨1,1,false,[.own 150 ((U6 l i s).map kT)]⟩)],2⟩):=by
 have h:=a4h (σ:=List Claim) (f:=97) (id:=0) (code:=A8 f97 0) l (fun k acc=>acc.length≤k)
  (fun k acc=>⟨40,[(0,.sl 150 (l.map kT)),(1,vI i),(2,vI s),(7,.ref 7 1 [] 0 acc.length),(8,vI k)],[(7,⟨1,1,false,[.own 150 (acc.map kT)]⟩)],2⟩) (fun _ acc x=>if a9t i s x=true then acc++[x] else acc)
  (fun acc=>⟨40,[(0,.sl 150 (l.map kT)),(1,vI i),(2,vI s),(7,.ref 7 1 [] 0 acc.length),(8,vI l.length),(13,vB false)],[(7,⟨1,1,false,[.own 150 (acc.map kT)]⟩)],2⟩)
 have h2:=h ?_ ?_ [] (Nat.le_refl _)
 ·rw [c0z] at h2; simpa [U6] using h2
 ·intro k acc _
  have hlt:=a2m l.length
  simp +contextual -dsimp [f97,hlt]
 ·intro k j acc hi hI
  have hlt:=P7 hi
  have hw:=P1 hi (by omega)
  have hcap:acc.length+1≤C2:=by unfold C2; omega
  cases q:a9t i s l[j]
  ·refine ⟨?_,by simp; omega⟩
   unfold a9t at q
   simp (maxSteps:=1000000) +contextual -dsimp [f97,hlt,hi,hw,hcap,q,List.set]
  ·refine ⟨?_,by simp; omega⟩
   unfold a9t at q
   simp (maxSteps:=1000000) +contextual -dsimp [f97,hlt,hi,hw,hcap,q,List.set]
theorem g4v (l:List Claim) (hl:l.length≤1048576) (i s:Int):fo 97 [A (.sl 150 (l.map kT)),A (vI i),A (vI s)]=some ⟨.own 150 ((U6 l i s).map kT),[],true⟩:=by
 have hlp:=i7a l hl i s
 have hcl:=a2r (U6 l i s)
 refine i3t (l.length+1) ?_
 simp -dsimp [f97] at hlp
 simp (maxSteps:=1000000) +contextual -dsimp [f97,hlp,hcl,List.set]
theorem g7m (d:Desk) (hf:FitE d.eng) (hc:d.claims.length < 2 ^ 62) (user inst step:Int):
  fo 93 [A (.ipt (dT d)),A (vI user),A (vI inst),A (vI step)]=some (R (vI (L8 d user inst step))):=by
 have g1:=g8g d hf hc
 have hni:=hf.ni
 have hw:IntKind.i64.wrap ((d.eng.insts.length:Int) - 1)=(d.eng.insts.length:Int) - 1:=by rw [A5] <;> omega
 cases q:eqI (a2l d) 0
 ·have e:L8 d user inst step=a2l d:=by simp [L8,a8m,B5,q,A0]
  rw [e]
  refine b5t 1 ?_
  simp (maxSteps:=1000000) +contextual -dsimp [f93,g1,q,List.set]
 ·have e0:a2l d=0:=by simpa [eqI] using q
  have h00:eqI 0 0=true:=rfl
  have h30:eqI 3 0=false:=rfl
  rw [e0] at g1
  cases u:inR user 1 9
  ·have e:L8 d user inst step=3:=by simp [L8,a8m,B5,e0,h00,h30,u,A0,orB,ci]
   rw [e]
   refine b5t 1 ?_
   simp (maxSteps:=1000000) +contextual -dsimp [f93,g1,h00,a7k,u,List.set]
  ·cases v:inR inst 0 ((d.eng.insts.length:Int) - 1)
   ·have e:L8 d user inst step=3:=by simp [L8,a8m,B5,e0,h00,h30,u,v,A0,orB,ci]
    rw [e]
    refine b5t 1 ?_
    simp (maxSteps:=1000000) +contextual -dsimp [f93,g1,h00,a7k,C8,hw,u,v,List.set]
   ·obtain ⟨b,hb,hbl⟩:=c5j v
    obtain ⟨n1,n2,n3⟩:=b2d (b2e e0).1
    obtain ⟨a,ha,hx,e2,ok,hlen⟩:=(n3 (d.eng.insts[b]) (List.getElem_mem _)).at_
    have g3:=c3q d.eng [.sl 150 (d.claims.map kT)] b hbl a hx ha (by have:=ok.le; omega) hlen step
    rw [← hb] at g3
    have e:L8 d user inst step=ci (A0 (V7 d.eng inst step)) 4:=by simp [L8,a8m,B5,e0,h00,u,v,A0,orB,ci]
    rw [e]
    cases o:V7 d.eng inst step
    ·refine b5t 1 ?_
     simp (maxSteps:=1000000) +contextual -dsimp [f93,g1,h00,a7k,C8,hw,u,v,g3,o,ci,List.set]
    ·refine b5t 1 ?_
     simp (maxSteps:=1000000) +contextual -dsimp [f93,g1,h00,a7k,C8,hw,u,v,g3,o,ci,List.set]
end Go.TM.Ft
namespace Go.TM.Ft
open Go Go.TM Go.Proofs Go.Proofs.Tryz
def Ah (a b:Claim):Prop:=a.inst < b.inst∨(a.inst=b.inst∧a.step < b.step)
theorem c3c (a b:Claim):a5t a b=true ↔ Ah a b:=by
 simp [a5t,Ah,orB,A1,ltI,eqI]
theorem i4o (a b:Claim):ltI (a4z a b) 0=a5t a b:=by
 have h:=b7u a b
 cases q:a5t a b
 ·rw [q] at h; simp only [A0,Bool.not_false,leI,decide_eq_true_eq] at h
  exact B6 (by omega)
 ·rw [q] at h; simp only [A0,Bool.not_true,leI,decide_eq_false_iff_not] at h
  exact C4 (by omega)
theorem e1d (a b:Claim):eqI (a4z a b) 0=true ↔ a.inst=b.inst∧a.step=b.step:=by
 unfold a4z B5 a9y
 by_cases h1:a.inst < b.inst
 ·simp [ltI,eqI,h1]; omega
 ·by_cases h2:b.inst < a.inst
  ·simp [ltI,eqI,h1,h2]; omega
  ·have h3:a.inst=b.inst:=by omega
   by_cases h4:a.step < b.step
   ·simp [ltI,eqI,h3,h4]; omega
   ·by_cases h5:b.step < a.step
    ·simp [ltI,eqI,h3,h4,h5]; omega
    ·simp [ltI,eqI,h3,h4,h5]; omega
theorem Ah.trans {a b c:Claim} (h1:Ah a b) (h2:Ah b c):Ah a c:=by unfold Ah at *; omega
def b9u (l:List Claim):Prop:=∀ i j (hj:j < l.length) (h:i < j),Ah (l[i]'(by omega)) l[j]
theorem d1y {d:Desk}:∀ {rest:List Claim} {i:Nat},d.claims.drop i=rest→J8 d i rest=0→∀ k,i≤k→k < d.claims.length→0 < k→Ah (L0 d.claims (k - 1)) (L0 d.claims k)
 | [],i,h,_,k,h1,h2,_=>by
  have:d.claims.length≤i:=by simpa using h
  omega
 | c::rest,i,h,hz,k,h1,h2,h3=>by
  obtain ⟨hi,hc,hr⟩:=C6 h
  simp only [J8] at hz
  cases q:eqI (K1 d i c) 0
  ·rw [q] at hz; simp only [Bool.false_eq_true,if_false] at hz
   rw [hz] at q; simp [eqI] at q
  ·rw [q] at hz; simp only [if_true] at hz
   rcases Nat.lt_or_ge i k with hk | hk
   ·exact d1y hr hz k hk h2 h3
   ·obtain rfl:k=i:=by omega
    have e0:K1 d k c=0:=by simpa [eqI] using q
    have e1:L0 d.claims k=c:=by simp [L0,hi,hc]
    rw [e1,← c3c]
    have h0:ltI 0 (k:Int)=true:=C4 (by omega)
    unfold K1 at e0
    split at e0
    ·omega
    ·split at e0
     ·omega
     ·split at e0
      ·omega
      ·rename_i hh
       rw [h0,b7u] at hh
       cases q5:a5t (L0 d.claims (k - 1)) c
       ·rw [q5] at hh; simp [A1,A0] at hh
       ·rfl
theorem g9v {d:Desk} (h:J8 d 0 d.claims=0):b9u d.claims:=by
 have hs:=d1y (d:=d) (i:=0) rfl h
 have:∀ n i j (hj:j < d.claims.length) (h:i < j),j - i≤n+1→Ah (d.claims[i]'(by omega)) d.claims[j]:=by
  intro n
  induction n with
  | zero=>
   intro i j hj hij hn
   obtain rfl:j=i+1:=by omega
   have:=hs (i+1) (by omega) hj (by omega)
   have hi:i < d.claims.length:=by omega
   simpa [L0,hj,hi] using this
  | succ n ih=>
   intro i j hj hij hn
   rcases Nat.lt_or_ge (i+1) j with h1 | h1
   ·have a:=ih i (j - 1) (by omega) (by omega) (by omega)
    have b:=ih (j - 1) j hj (by omega) (by omega)
    exact a.trans b
   ·exact ih i j hj hij (by omega)
 exact fun i j hj hij=>this (j - i) i j hj hij (by omega)
theorem c8c {l:List Claim} {x:Claim} (hs:b9u l):∀ (n lo hi:Nat),hi - lo≤n→lo≤hi→hi≤l.length→
  (∀ k (h:k < l.length),k < lo→Ah l[k] x)→(∀ k (h:k < l.length),hi≤k→¬ Ah l[k] x)→
  (∀ k (h:k < l.length),k < bsM l x n lo hi→Ah l[k] x)∧(∀ k (h:k < l.length),bsM l x n lo hi≤k→¬ Ah l[k] x)
 | 0,lo,hi,h1,h2,h3,ha,hb=>by
  obtain rfl:lo=hi:=by omega
  exact ⟨ha,hb⟩
 | n+1,lo,hi,h1,h2,h3,ha,hb=>by
  unfold bsM
  by_cases hlh:lo < hi
  ·rw [if_pos hlh]
   obtain ⟨m,hm⟩:∃ m,m=(lo+hi) / 2:=⟨_,rfl⟩
   rw [← hm]
   have hml:m < l.length:=by omega
   have hc:L0 l m=l[m]:=by simp [L0,hml]
   rw [hc,i4o]
   cases q:a5t l[m] x
   ·have q':¬ Ah l[m] x:=fun h=>by rw [← c3c,q] at h; cases h
    refine c8c hs n lo m (by omega) (by omega) (by omega) ha fun k h hk=>?_
    rcases Nat.lt_or_ge m k with hk2 | hk2
    ·exact fun h9=>q' ((hs m k h hk2).trans h9)
    ·obtain rfl:k=m:=by omega
     exact q'
   ·have q':=(c3c _ _).1 q
    refine c8c hs n (m+1) hi (by omega) (by omega) (by omega) (fun k h hk=>?_) hb
    rcases Nat.lt_or_ge k m with hk2 | hk2
    ·exact (hs k m hml hk2).trans q'
    ·obtain rfl:k=m:=by omega
     exact q'
  ·rw [if_neg hlh]
   obtain rfl:lo=hi:=by omega
   exact ⟨ha,hb⟩
theorem b8j (c:Claim) (i s:Int):O3 c i s=true ↔ c.inst=i∧c.step=s:=by simp [O3,A1,eqI]
theorem c3d (c:Claim) (i s:Int):a9t i s c=A0 (O3 c i s):=by
 unfold a9t O3; cases eqI c.inst i <;> cases eqI c.step s <;> rfl
theorem i4p {l:List Claim} (hs:b9u l) (i s:Int):
  (a4b l ⟨i,s,0⟩=true→∃ h:M5 l ⟨i,s,0⟩ < l.length,O3 (l[M5 l ⟨i,s,0⟩]) i s=true∧∀ k (h:k < l.length),k≠M5 l ⟨i,s,0⟩→O3 l[k] i s=false)∧
  (a4b l ⟨i,s,0⟩=false→∀ c,c∈l→O3 c i s=false):=by
 obtain ⟨h1,h2⟩:=c8c (x:=⟨i,s,0⟩) hs l.length 0 l.length (by omega) (by omega) (by omega) (fun k _ h=>by omega) (fun k h h9=>by omega)
 have e:M5 l ⟨i,s,0⟩=bsM l ⟨i,s,0⟩ l.length 0 l.length:=rfl
 rw [← e] at h1 h2
 unfold a4b
 generalize M5 l ⟨i,s,0⟩=p at *
 have ns:∀ c:Claim,Ah c ⟨i,s,0⟩→O3 c i s=false:=fun c h=>by
  cases q:O3 c i s
  ·rfl
  ·rw [b8j] at q; unfold Ah at h; simp only at h; omega
 constructor
 ·intro h
  have hp:p < l.length:=by simp [A1,ltI] at h; omega
  have hc:L0 l p=l[p]:=by simp [L0,hp]
  have hz:eqI (a4z l[p] ⟨i,s,0⟩) 0=true:=by rw [hc] at h; simp only [A1,Bool.and_eq_true] at h; exact h.2
  rw [e1d] at hz
  refine ⟨hp,(b8j _ _ _).2 hz,fun k hk hkp=>?_⟩
  rcases Nat.lt_or_ge k p with h3 | h3
  ·exact ns _ (h1 k hk h3)
  ·have h4:=hs p k hk (by omega)
   cases q:O3 l[k] i s
   ·rfl
   ·rw [b8j] at q; unfold Ah at h4; simp only at hz; omega
 ·intro h c hc
  obtain ⟨k,hk,rfl⟩:=List.mem_iff_getElem.1 hc
  rcases Nat.lt_or_ge k p with h3 | h3
  ·exact ns _ (h1 k hk h3)
  ·have hp:p < l.length:=by omega
   have hcl:L0 l p=l[p]:=by simp [L0,hp]
   have hlt:ltI (p:Int) (l.length:Int)=true:=C4 (by omega)
   rw [hcl,hlt] at h
   have hz:¬ (l[p].inst=i∧l[p].step=s):=fun hh=>by
    have:=(e1d l[p] ⟨i,s,0⟩).2 hh
    rw [this] at h; simp [A1] at h
   cases q:O3 l[k] i s
   ·rfl
   ·rw [b8j] at q
    have h5:=h2 p hp (Nat.le_refl _)
    rcases Nat.lt_or_ge p k with h6 | h6
    ·have h7:=hs p k hk h6
     unfold Ah at h5 h7; simp only at h5; omega
    ·obtain rfl:k=p:=by omega
     exact absurd q hz
theorem e1e {i s:Int}:∀ {a b:List Claim},(∀ c,c∈a→O3 c i s=false)→U1 (a++b) i s=U1 b i s
 | [],_,_=>rfl
 | c::a,b,h=>by
  simp only [List.cons_append,U1,h c (by simp)]
  exact e1e fun c hc=>h c (by simp [hc])
theorem i1g {l:List Claim} (hs:b9u l) (i s:Int):
  (a4b l ⟨i,s,0⟩=true→M5 l ⟨i,s,0⟩ < l.length∧U1 l i s=(L0 l (M5 l ⟨i,s,0⟩)).user∧U6 l i s=l.take (M5 l ⟨i,s,0⟩)++l.drop (M5 l ⟨i,s,0⟩+1))∧
  (a4b l ⟨i,s,0⟩=false→U1 l i s=0):=by
 obtain ⟨h1,h2⟩:=i4p hs i s
 refine ⟨fun h=>?_,fun h=>c3b (h2 h)⟩
 obtain ⟨hp,hsame,hoth⟩:=h1 h
 generalize M5 l ⟨i,s,0⟩=p at *
 have hcl:L0 l p=l[p]:=by simp [L0,hp]
 have e:l=l.take p++l[p]::l.drop (p+1):=by rw [← List.drop_eq_getElem_cons hp,List.take_append_drop]
 have ha:∀ c,c∈l.take p→O3 c i s=false:=fun c hc=>by
  obtain ⟨k,hk,rfl⟩:=List.mem_iff_getElem.1 hc
  rw [List.length_take] at hk
  rw [List.getElem_take]
  exact hoth k (by omega) (by omega)
 have hb:∀ c,c∈l.drop (p+1)→O3 c i s=false:=fun c hc=>by
  obtain ⟨k,hk,rfl⟩:=List.mem_iff_getElem.1 hc
  rw [List.length_drop] at hk
  rw [List.getElem_drop]
  exact hoth (p+1+k) (by omega) (by omega)
 refine ⟨hp,?_,?_⟩
 ·rw [hcl]
  conv=>lhs; rw [e]
  rw [e1e ha]
  simp [U1,hsame]
 ·unfold U6
  conv=>lhs; rw [e]
  rw [List.filter_append,List.filter_cons]
  have k0:a9t i s l[p]=false:=by rw [c3d,hsame]; rfl
  rw [k0,if_neg (by simp)]
  congr 1
  ·exact List.filter_eq_self.2 fun c hc=>by rw [c3d,ha c hc]; rfl
  ·exact List.filter_eq_self.2 fun c hc=>by rw [c3d,hb c hc]; rfl
set_option maxRecDepth 20000
attribute [local congr] M0
attribute [local simp] K2 K6 J4 K3 H7 J9 H8 G9 J1 G3 a2h a5d a7p b6u a7j a1q a2t a4g a2r
theorem i4q (l:List Claim):(l.map kT).all (·.all isV)=true:=by
 rw [List.all_eq_true]; intro c hc; obtain ⟨x,_,rfl⟩:=List.mem_map.1 hc; rfl
theorem g9w (l:List Claim) (p:Nat) (hp:p < l.length):
  fo 101 [⟨.ref 0 0 [] 0 l.length,some ⟨0,0,false,[.own 150 (l.map kT)]⟩⟩,A (vI (p:Nat)),A (vI ((p:Int)+1))]=some ⟨.own 150 ((l.take p++l.drop (p+1)).map kT),[],true⟩:=by
 rw [show ((p:Int)+1)=((p+1:Nat):Int) from rfl]
 refine b9n (g:=b6j 150) rfl ?_
 have h1:=i4q l
 simp only [b6j]
 rw [if_pos ⟨trivial,by simp,by omega,by omega,by omega,h1⟩]
 simp only [Int.toNat_natCast,List.map_append,List.map_take,List.map_drop]
theorem i1h {d:Desk} {u i s:Int} (h:L8 d u i s=0):
  (eqI (U1 d.claims i s) u=true→a7a d u i s=(((M5 d.claims ⟨i,s,0⟩:Nat):Int),(0:Int))∧M5 d.claims ⟨i,s,0⟩ < d.claims.length∧U6 d.claims i s=d.claims.take (M5 d.claims ⟨i,s,0⟩)++d.claims.drop (M5 d.claims ⟨i,s,0⟩+1))∧
  (eqI (U1 d.claims i s) u=false→(a7a d u i s).2=10):=by
 obtain ⟨z1,z2,_,_⟩:=b4q h
 obtain ⟨p1,p2⟩:=i1g (g9v (b2e z1).2.2) i s
 have e:a7a d u i s=(((M5 d.claims ⟨i,s,0⟩:Nat):Int),ci (orB (A0 (a4b d.claims ⟨i,s,0⟩)) (A0 (eqI (L0 d.claims (M5 d.claims ⟨i,s,0⟩)).user u))) 10):=by
  unfold a7a; rw [h]; simp [A0,eqI]
 rw [e]
 cases q:a4b d.claims ⟨i,s,0⟩
 ·have w:=p2 q
  rw [w]
  refine ⟨fun h9=>?_,fun _=>by simp [orB,A0,ci]⟩
  have:u=0:=by simp [eqI] at h9; omega
  rw [this] at z2; simp [inR,A1,leI] at z2
 ·obtain ⟨w1,w2,w3⟩:=p1 q
  rw [w2]
  refine ⟨fun h9=>⟨?_,w1,w3⟩,fun h9=>by simp [orB,A0,ci,h9]⟩
  simp [orB,A0,ci,h9]
end Go.TM.Ft
