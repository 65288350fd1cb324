/- What functions of the program come to, by the machine. -/
import Derived.Test.YtlmiemdojgahaaaGreatJL11
import Derived.Test.YtlmiemdojgahaaaGreatJL12
import Derived.Test.YtlmiemdojgahaaaGreatJL1
set_option linter.unusedSimpArgs false
set_option linter.unusedVariables false
set_option maxHeartbeats 4000000
namespace Go.TM.Ft
open Go Go.TM Go.Proofs Go.Proofs.Tryz
set_option maxRecDepth 20000
attribute [local congr] K9
attribute [local simp] J8 K0 J0 J9 H3 J6 H4 G4 H5 G1 a1r a6b a9z c8m a9s
theorem c5h (l:List Node):((l.map nT).all fun c=>c.all a2a)=true:=by
 rw [List.all_eq_true]; intro c hc; obtain ⟨x,_,rfl⟩:=List.mem_map.1 hc; rfl
theorem d6u (l:List Node) (hl:l.length≤1048576):fo 285 [A (nS 219 l)]=some ⟨.own 219 (l.map nT),[],true⟩:=by
 refine f0y (g:=a7m 219) rfl ?_
 have h1:=c5h l
 have h2:=b3v hl
 simp only [a7m]
 rw [if_pos ⟨trivial,h1,by simpa using h2⟩,a9s]
theorem a9t {α:Type}:∀ (r:List α) (i:Nat) (acc:List α),N5 (fun _ acc x=>acc++[x]) i acc r=acc++r
 | [],_,acc=>by simp [N5]
 | x::r,i,acc=>by simp only [N5]; rw [a9t r]; simp
def SmS (s:Step):Prop:=s.cond.length≤1048576∧s.expr.length≤1048576
theorem h5d (l:List Step) (hl:l.length≤1048576) (hf:∀ s,s∈l→SmS s):
  A5 E (orc E) (246:Nat) (l.length+1) (B3 f246 0) ⟨27,[(3,.ref 3 1 [] 0 0),(7,.sl 124 (l.map (sT 219))),(8,vI l.length),(9,vI (0:Nat))],[(3,⟨1,1,false,[.own 124 []]⟩)],2⟩=
  some (.exit 0,⟨27,[(3,.ref 3 1 [] 0 l.length),(7,.sl 124 (l.map (sT 219))),(8,vI l.length),(9,vI l.length),(10,vB false)],[(3,⟨1,1,false,[.own 124 (l.map M5)]⟩)],2⟩):=by
 have h:=a4e (σ:=List Step) (f:=246) (id:=0) (code:=B3 f246 0) l (fun i acc=>acc.length=i)
  (fun i acc=>⟨27,[(3,.ref 3 1 [] 0 acc.length),(7,.sl 124 (l.map (sT 219))),(8,vI l.length),(9,vI i)],[(3,⟨1,1,false,[.own 124 (acc.map M5)]⟩)],2⟩) (fun _ acc x=>acc++[x])
  (fun acc=>⟨27,[(3,.ref 3 1 [] 0 acc.length),(7,.sl 124 (l.map (sT 219))),(8,vI l.length),(9,vI l.length),(10,vB false)],[(3,⟨1,1,false,[.own 124 (acc.map M5)]⟩)],2⟩)
 have h2:=h ?_ ?_ [] rfl
 ·rw [a9t] at h2; simpa using h2
 ·intro k acc _
  have hlt:=a2m l.length
  simp +contextual -dsimp [f246,hlt]
 ·intro k i acc hi hI
  have hlt:=O4 hi
  have hw:=N6 hi (by omega)
  have hcap:acc.length+1≤B9:=by unfold B9; omega
  have hs:=hf l[i] (List.getElem_mem hi)
  have g1:=d6u l[i].cond hs.1
  have g2:=d6u l[i].expr hs.2
  refine ⟨?_,by simp [hI]⟩
  simp (maxSteps:=1000000) +contextual -dsimp [f246,hlt,hi,hw,g1,g2,hcap,List.set]
theorem f7f (l:List Step) (hl:l.length≤1048576) (hf:∀ s,s∈l→SmS s):fo 246 [A (.sl 124 (l.map (sT 219)))]=some ⟨.own 124 (l.map M5),[],true⟩:=by
 have hlp:=h5d l hl hf
 have hcl:=b1e l
 refine g9q (l.length+1) ?_
 simp -dsimp [f246] at hlp
 simp (maxSteps:=1000000) +contextual -dsimp [f246,hlp,hcl,List.set]
theorem h5e (l:List Step) (hl:l.length≤1048576) (hf:∀ s,s∈l→SmS s):
  A5 E (orc E) (242:Nat) (l.length+1) (B3 f242 0) ⟨32,[(0,.sl 124 (l.map (sT 219))),(3,.ref 3 1 [] 0 0),(4,vI (0:Nat))],[(3,⟨1,1,false,[.own 124 []]⟩)],2⟩=
  some (.exit 0,⟨32,[(0,.sl 124 (l.map (sT 219))),(3,.ref 3 1 [] 0 l.length),(4,vI l.length),(10,vB false)],[(3,⟨1,1,false,[.own 124 (l.map M5)]⟩)],2⟩):=by
 have h:=a4e (σ:=List Step) (f:=242) (id:=0) (code:=B3 f242 0) l (fun i acc=>acc.length=i)
  (fun i acc=>⟨32,[(0,.sl 124 (l.map (sT 219))),(3,.ref 3 1 [] 0 acc.length),(4,vI i)],[(3,⟨1,1,false,[.own 124 (acc.map M5)]⟩)],2⟩) (fun _ acc x=>acc++[x])
  (fun acc=>⟨32,[(0,.sl 124 (l.map (sT 219))),(3,.ref 3 1 [] 0 acc.length),(4,vI l.length),(10,vB false)],[(3,⟨1,1,false,[.own 124 (acc.map M5)]⟩)],2⟩)
 have h2:=h ?_ ?_ [] rfl
 ·rw [a9t] at h2; simpa using h2
 ·intro k acc _
  have hlt:=a2m l.length
  simp +contextual -dsimp [f242,hlt]
 ·intro k i acc hi hI
  have hlt:=O4 hi
  have hw:=N6 hi (by omega)
  have hcap:acc.length+1≤B9:=by unfold B9; omega
  have hs:=hf l[i] (List.getElem_mem hi)
  have h1:=c5h l[i].cond
  have h2:=c5h l[i].expr
  have h3:l[i].cond.length≤B9:=b3v hs.1
  have h4:l[i].expr.length≤B9:=b3v hs.2
  refine ⟨?_,by simp [hI]⟩
  simp (maxSteps:=1000000) +contextual -dsimp [f242,hlt,hi,hw,h1,h2,h3,h4,hcap,List.set]
theorem g4n (l:List Step) (hl:l.length≤1048576) (hf:∀ s,s∈l→SmS s):fo 242 [A (.sl 124 (l.map (sT 219)))]=some ⟨.own 124 (l.map M5),[],true⟩:=by
 have hlp:=h5e l hl hf
 have hcl:=b1e l
 refine g9m (l.length+1) ?_
 simp -dsimp [f242] at hlp
 simp (maxSteps:=1000000) +contextual -dsimp [f242,hlp,hcl,List.set]
abbrev SmP (p:List Step):Prop:=p.length≤1048576∧∀ s,s∈p→SmS s
theorem h5f (l:List (List Step)) (hl:l.length≤1048576) (hf:∀ s,s∈l→SmP s):
  A5 E (orc E) (187:Nat) (l.length+1) (B3 f187 0) ⟨22,[(3,.ref 3 1 [] 0 0),(7,.sl 160 (l.map (pT 124 219))),(8,vI l.length),(9,vI (0:Nat))],[(3,⟨1,1,false,[.own 160 []]⟩)],2⟩=
  some (.exit 0,⟨22,[(3,.ref 3 1 [] 0 l.length),(7,.sl 160 (l.map (pT 124 219))),(8,vI l.length),(9,vI l.length),(10,vB false)],[(3,⟨1,1,false,[.own 160 (l.map J2)]⟩)],2⟩):=by
 have h:=a4e (σ:=List (List Step)) (f:=187) (id:=0) (code:=B3 f187 0) l (fun i acc=>acc.length=i)
  (fun i acc=>⟨22,[(3,.ref 3 1 [] 0 acc.length),(7,.sl 160 (l.map (pT 124 219))),(8,vI l.length),(9,vI i)],[(3,⟨1,1,false,[.own 160 (acc.map J2)]⟩)],2⟩) (fun _ acc x=>acc++[x])
  (fun acc=>⟨22,[(3,.ref 3 1 [] 0 acc.length),(7,.sl 160 (l.map (pT 124 219))),(8,vI l.length),(9,vI l.length),(10,vB false)],[(3,⟨1,1,false,[.own 160 (acc.map J2)]⟩)],2⟩)
 have h2:=h ?_ ?_ [] rfl
 ·rw [a9t] at h2; simpa using h2
 ·intro k acc _
  have hlt:=a2m l.length
  simp +contextual -dsimp [f187,hlt]
 ·intro k i acc hi hI
  have hlt:=O4 hi
  have hw:=N6 hi (by omega)
  have hcap:acc.length+1≤B9:=by unfold B9; omega
  have hs:=hf l[i] (List.getElem_mem hi)
  have g1:=f7f l[i] hs.1 hs.2
  refine ⟨?_,by simp [hI]⟩
  simp (maxSteps:=1000000) +contextual -dsimp [f187,hlt,hi,hw,g1,hcap,List.set]
theorem f7g (l:List (List Step)) (hl:l.length≤1048576) (hf:∀ s,s∈l→SmP s):fo 187 [A (.sl 160 (l.map (pT 124 219)))]=some ⟨.own 160 (l.map J2),[],true⟩:=by
 have hlp:=h5f l hl hf
 have hcl:=a4c l
 refine g8h (l.length+1) ?_
 simp -dsimp [f187] at hlp
 simp (maxSteps:=1000000) +contextual -dsimp [f187,hlp,hcl,List.set]
theorem h5g (l:List (List Step)) (hl:l.length≤1048576) (hf:∀ s,s∈l→SmP s):
  A5 E (orc E) (182:Nat) (l.length+1) (B3 f182 0) ⟨23,[(0,.sl 160 (l.map (pT 124 219))),(3,.ref 3 1 [] 0 0),(4,vI (0:Nat))],[(3,⟨1,1,false,[.own 160 []]⟩)],2⟩=
  some (.exit 0,⟨23,[(0,.sl 160 (l.map (pT 124 219))),(3,.ref 3 1 [] 0 l.length),(4,vI l.length),(9,vB false)],[(3,⟨1,1,false,[.own 160 (l.map J2)]⟩)],2⟩):=by
 have h:=a4e (σ:=List (List Step)) (f:=182) (id:=0) (code:=B3 f182 0) l (fun i acc=>acc.length=i)
  (fun i acc=>⟨23,[(0,.sl 160 (l.map (pT 124 219))),(3,.ref 3 1 [] 0 acc.length),(4,vI i)],[(3,⟨1,1,false,[.own 160 (acc.map J2)]⟩)],2⟩) (fun _ acc x=>acc++[x])
  (fun acc=>⟨23,[(0,.sl 160 (l.map (pT 124 219))),(3,.ref 3 1 [] 0 acc.length),(4,vI l.length),(9,vB false)],[(3,⟨1,1,false,[.own 160 (acc.map J2)]⟩)],2⟩)
 have h2:=h ?_ ?_ [] rfl
 ·rw [a9t] at h2; simpa using h2
 ·intro k acc _
  have hlt:=a2m l.length
  simp +contextual -dsimp [f182,hlt]
 ·intro k i acc hi hI
  have hlt:=O4 hi
  have hw:=N6 hi (by omega)
  have hcap:acc.length+1≤B9:=by unfold B9; omega
  have hs:=hf l[i] (List.getElem_mem hi)
  have g1:=g4n l[i] hs.1 hs.2
  refine ⟨?_,by simp [hI]⟩
  simp (maxSteps:=1000000) +contextual -dsimp [f182,hlt,hi,hw,g1,hcap,List.set]
theorem f8a (l:List (List Step)) (hl:l.length≤1048576) (hf:∀ s,s∈l→SmP s):fo 182 [A (.sl 160 (l.map (pT 124 219)))]=some ⟨.own 160 (l.map J2),[],true⟩:=by
 have hlp:=h5g l hl hf
 have hcl:=a4c l
 refine g8d (l.length+1) ?_
 simp -dsimp [f182] at hlp
 simp (maxSteps:=1000000) +contextual -dsimp [f182,hlp,hcl,List.set]
structure SmE (e:Engine):Prop where
 np:e.procs.length≤1048576
 ni:e.insts.length≤1048576
 procs:∀ p,p∈e.procs→SmP p
 insts:∀ x,x∈e.insts→Few x.chart
abbrev z59:List T:=[.own 160 [],.own 163 [],vI 0]
theorem h5h (e:Engine) (h:SmE e):
  A5 E (orc E) (116:Nat) (e.insts.length+1) (B3 f116 0) ⟨32,[(2,.ptr 2 1 [] 0),(3,.ptr 3 1 [] 0),(13,.sl 163 (e.insts.map xT)),(14,vI e.insts.length),(15,vI (0:Nat))],[(1,⟨1,1,true,eT e⟩),(2,⟨1,1,true,z59⟩),(3,⟨1,1,true,[.own 160 (e.procs.map J2),.own 163 [],vI e.now]⟩)],2⟩=
  some (.exit 0,⟨32,[(2,.ptr 2 1 [] 0),(3,.ptr 3 1 [] 0),(13,.sl 163 (e.insts.map xT)),(14,vI e.insts.length),(15,vI e.insts.length),(16,vB false)],[(1,⟨1,1,true,eT e⟩),(2,⟨1,1,true,z59⟩),(3,⟨1,1,true,b1w e⟩)],2⟩):=by
 have hl:=h.ni
 have hh:=a4e (σ:=List Inst) (f:=116) (id:=0) (code:=B3 f116 0) e.insts (fun i acc=>acc.length=i)
  (fun i acc=>⟨32,[(2,.ptr 2 1 [] 0),(3,.ptr 3 1 [] 0),(13,.sl 163 (e.insts.map xT)),(14,vI e.insts.length),(15,vI i)],[(1,⟨1,1,true,eT e⟩),(2,⟨1,1,true,z59⟩),(3,⟨1,1,true,[.own 160 (e.procs.map J2),.own 163 (acc.map L8),vI e.now]⟩)],2⟩) (fun _ acc x=>acc++[x])
  (fun acc=>⟨32,[(2,.ptr 2 1 [] 0),(3,.ptr 3 1 [] 0),(13,.sl 163 (e.insts.map xT)),(14,vI e.insts.length),(15,vI e.insts.length),(16,vB false)],[(1,⟨1,1,true,eT e⟩),(2,⟨1,1,true,z59⟩),(3,⟨1,1,true,[.own 160 (e.procs.map J2),.own 163 (acc.map L8),vI e.now]⟩)],2⟩)
 have h2:=hh ?_ ?_ [] rfl
 ·rw [a9t] at h2; simpa using h2
 ·intro k acc _
  have hlt:=a2m e.insts.length
  simp +contextual -dsimp [f116,hlt]
 ·intro k i acc hi hI
  have hlt:=O4 hi
  have hw:=N6 hi (by omega)
  have hcap:acc.length+1≤B9:=by unfold B9; omega
  have g1:=d6k e.insts[i].chart (h.insts _ (List.getElem_mem hi))
  refine ⟨?_,by simp [hI]⟩
  simp (maxSteps:=1000000) +contextual -dsimp [f116,hlt,hi,hw,g1,hcap,List.set]
theorem g4o (e:Engine) (h:SmE e):fo 116 [A (.agg (eT e))]=some ⟨.agg (b1w e),[],true⟩:=by
 have hlp:=h5h e h
 have hcl:=a4c e.procs
 have hcl2:=a5y e.insts
 have g1:=f7g e.procs h.np h.procs
 refine g7i (e.insts.length+1) ?_
 simp -dsimp [f116] at hlp
 simp (maxSteps:=1000000) +contextual -dsimp [f116,hlp,hcl,hcl2,g1,List.set]
theorem h5i (e:Engine) (h:SmE e):
  A5 E (orc E) (110:Nat) (e.insts.length+1) (B3 f110 0) ⟨38,[(1,.ptr 1 1 [] 0),(2,.ptr 2 1 [] 0),(3,.ptr 3 1 [] 0),(4,vI (0:Nat))],[(1,⟨1,1,true,eT e⟩),(2,⟨1,1,true,z59⟩),(3,⟨1,1,true,[.own 160 (e.procs.map J2),.own 163 [],vI e.now]⟩)],2⟩=
  some (.exit 0,⟨38,[(1,.ptr 1 1 [] 0),(2,.ptr 2 1 [] 0),(3,.ptr 3 1 [] 0),(4,vI e.insts.length),(15,vB false)],[(1,⟨1,1,true,eT e⟩),(2,⟨1,1,true,z59⟩),(3,⟨1,1,true,b1w e⟩)],2⟩):=by
 have hl:=h.ni
 have hh:=a4e (σ:=List Inst) (f:=110) (id:=0) (code:=B3 f110 0) e.insts (fun i acc=>acc.length=i)
  (fun i acc=>⟨38,[(1,.ptr 1 1 [] 0),(2,.ptr 2 1 [] 0),(3,.ptr 3 1 [] 0),(4,vI i)],[(1,⟨1,1,true,eT e⟩),(2,⟨1,1,true,z59⟩),(3,⟨1,1,true,[.own 160 (e.procs.map J2),.own 163 (acc.map L8),vI e.now]⟩)],2⟩) (fun _ acc x=>acc++[x])
  (fun acc=>⟨38,[(1,.ptr 1 1 [] 0),(2,.ptr 2 1 [] 0),(3,.ptr 3 1 [] 0),(4,vI e.insts.length),(15,vB false)],[(1,⟨1,1,true,eT e⟩),(2,⟨1,1,true,z59⟩),(3,⟨1,1,true,[.own 160 (e.procs.map J2),.own 163 (acc.map L8),vI e.now]⟩)],2⟩)
 have h2:=hh ?_ ?_ [] rfl
 ·rw [a9t] at h2; simpa using h2
 ·intro k acc _
  have hlt:=a2m e.insts.length
  simp +contextual -dsimp [f110,hlt]
 ·intro k i acc hi hI
  have hlt:=O4 hi
  have hw:=N6 hi (by omega)
  have hcap:acc.length+1≤B9:=by unfold B9; omega
  have g1:=g4b e.insts[i].chart (h.insts _ (List.getElem_mem hi))
  refine ⟨?_,by simp [hI]⟩
  simp (maxSteps:=1000000) +contextual -dsimp [f110,hlt,hi,hw,g1,hcap,List.set]
theorem g1k (e:Engine) (h:SmE e):fo 110 [A (.agg (eT e))]=some ⟨.agg (b1w e),[],true⟩:=by
 have hlp:=h5i e h
 have hcl:=a4c e.procs
 have hcl2:=a5y e.insts
 have g1:=f8a e.procs h.np h.procs
 refine g7c (e.insts.length+1) ?_
 simp -dsimp [f110] at hlp
 simp (maxSteps:=1000000) +contextual -dsimp [f110,hlp,hcl,hcl2,g1,List.set]
attribute [local simp] a4c a5y a6a
def noE:Engine:=⟨[],[],0⟩
def b2x (k:Int):EngR:=⟨k,0,noE⟩
abbrev REn (r:EngR):Res:=⟨.agg (c8d r),[],true⟩
theorem d6v (k:Int):fo 108 [A (vI k)]=some (REn (b2x k)):=by
 refine g7a 1 ?_
 simp (maxSteps:=1000000) +contextual -dsimp [f108,b2x,noE,List.set]
def tkX (e:Engine) (n:Int) (x:Inst):Inst:=⟨x.proc,a3c (stepsOf e x) 30 { x.chart with now:=e.now+n }⟩
def lvX (x:Inst):Nat:=if eqI x.chart.status 1=true then 1 else 0
def U3:List Inst→Nat
 | []=>0
 | x::r=>lvX x+U3 r
def a8w (e:Engine) (n:Int):Int:=ci (orB (A0 (inR n 0 1000)) (ltI 1000000 (IntKind.i64.wrap (e.now+n)))) 3
def a0p (e:Engine) (n:Int):Int:=C4 (a1o e) (a8w e n)
def a8x (e:Engine) (n:Int):EngR:=if A0 (eqI (a0p e n) 0)=true then b2x (a0p e n) else ⟨0,(U3 (e.insts.map (tkX e n)):Nat),⟨e.procs,e.insts.map (tkX e n),e.now+n⟩⟩
theorem d0x {e:Engine}:∀ {l:List Inst},U0 e l=0→∀ x,x∈l→x.chart.now=e.now
 | [],_,x,hx=>by simp at hx
 | y::l,h,x,hx=>by
  unfold U0 at h
  split at h
  ·rename_i c
   rcases List.mem_cons.1 hx with rfl | hx
   ·have c:a4q e x=0:=by simpa [eqI] using c
    unfold a4q at c
    split at c
    ·simp at c
    ·have:=(a0a c).2
     cases q:eqI x.chart.now e.now
     ·rw [q] at this; simp [ci,A0] at this
     ·simpa [eqI] using q
   ·exact d0x h x hx
  ·rename_i c; rw [h] at c; exact absurd rfl c
theorem c4s {e:Engine} (h:a1o e=0):(∀ x,x∈e.insts→x.chart.now=e.now)∧0≤e.now∧e.now≤1000000:=by
 unfold a1o at h
 split at h
 ·simp at h
 ·split at h
  ·rename_i c; rw [h] at c; simp [A0,eqI] at c
  ·rename_i c
   refine ⟨d0x h,?_⟩
   have c:a9n e=0:=by simpa [A0,eqI] using c
   unfold a9n at c
   have c:=(a0a c).2
   cases q:inR e.now 0 1000000
   ·rw [q] at c; simp [ci,A0] at c
   ·simpa [inR,A2,leI] using q
theorem a8h {e:Engine} {n:Int} (h:a0p e n=0):a1o e=0∧0≤n∧n≤1000∧0≤e.now∧e.now+n≤1000000∧IntKind.i64.wrap (e.now+n)=e.now+n:=by
 obtain ⟨h1,h2⟩:=a0a h
 obtain ⟨_,n0,n1⟩:=c4s h1
 unfold a8w at h2
 cases q:inR n 0 1000
 ·rw [q] at h2; simp [ci,A0,orB] at h2
 ·have q:0≤n∧n≤1000:=by simpa [inR,A2,leI] using q
  have hw:IntKind.i64.wrap (e.now+n)=e.now+n:=by rw [A6] <;> omega
  rw [hw] at h2
  cases q3:ltI 1000000 (e.now+n)
  ·have:¬ 1000000 < e.now+n:=by simpa [ltI] using q3
   exact ⟨h1,q.1,q.2,n0,by omega,hw⟩
  ·rw [q3] at h2; simp [ci,orB] at h2
theorem c1j {e:Engine} {n:Int} (h:a0p e n=0) {x:Inst} (hx:x∈e.insts):
  ∃ (a:Nat) (ha:a < e.procs.length),x.proc=a∧stepsOf e x=e.procs[a]∧Inv (e.procs[a]) x.chart∧Wf (e.procs[a])∧DueOk (e.procs[a]) x.chart∧x.chart.now=e.now∧b8m (e.procs[a]) x.chart (e.now+n)=(0,(tkX e n x).chart):=by
 obtain ⟨h1,h2,h3,h4,h5,h6⟩:=a8h h
 obtain ⟨_,_,hi⟩:=b6k h1
 obtain ⟨hn,_,_⟩:=c4s h1
 obtain ⟨⟨a,ha,hp⟩,hc⟩:=hi x hx
 have e2:stepsOf e x=e.procs[a]:=by simp [stepsOf,hp,ha]
 rw [e2] at hc
 obtain ⟨i1,w,_,_⟩:=f3n hc
 have hno:=hn x hx
 refine ⟨a,ha,hp,e2,i1,w,f3p hc,hno,?_⟩
 have:inR (e.now+n) e.now 1000000=true:=by simp [inR,A2,leI]; omega
 unfold b8m b2p tkX
 rw [hc,hno,this,e2]
 rfl
abbrev z74:List T:=[vI 0,vI 0,.own 160 [],.own 163 [],vI 0]
abbrev c7o (k:Nat) (ps:List (List Step)) (xs:List Inst) (now:Int):List T:=[vI 0,vI k,.own 160 (ps.map J2),.own 163 (xs.map L8),vI now]
theorem c7p (e:Engine) (n:Int) (hz:a0p e n=0):∀ (rest:List Inst) (i k:Nat) (es:List Inst),e.insts.drop i=rest→es.length=e.insts.length→es.drop i=rest→k≤i→
  A5 E (orc E) (51:Nat) (rest.length+1) (B3 f51 0) ⟨75,[(1,vI n),(2,.ptr 2 1 [] 0),(4,.ptr 4 1 [] 0),(6,.ptr 6 1 [] 0),(7,vI i)],[(2,⟨1,1,true,eT e⟩),(4,⟨1,1,true,z74⟩),(6,⟨1,1,true,c7o k e.procs es (e.now+n)⟩)],2⟩=
  some (.exit 0,⟨75,[(1,vI n),(2,.ptr 2 1 [] 0),(4,.ptr 4 1 [] 0),(6,.ptr 6 1 [] 0),(7,vI (i+rest.length:Nat)),(39,vB false)],[(2,⟨1,1,true,eT e⟩),(4,⟨1,1,true,z74⟩),(6,⟨1,1,true,c7o (k+U3 (rest.map (tkX e n))) e.procs (es.take i++rest.map (tkX e n)) (e.now+n)⟩)],2⟩)
 | [],i,k,es,h,hl,hd,hk=>by
  have hge:e.insts.length≤i:=by simpa using h
  have hlt:ltI (i:Int) (e.insts.length:Int)=false:=B7 (by omega)
  have ht:es.take i=es:=List.take_of_length_le (by omega)
  rw [C2]
  simp +contextual -dsimp [f51,hlt,ht,U3]
 | x::rest,i,k,es,h,hl,hd,hk=>by
  obtain ⟨hi,hc,hr⟩:=C8 h
  obtain ⟨hi2,hc2,hr2⟩:=C8 hd
  obtain ⟨h1,h2,h3,h4,h5,h6⟩:=a8h hz
  have hn6:=(b6k h1).2.1
  obtain ⟨a,ha,hp,e2,i1,w,du,hno,_⟩:=c1j hz (x:=x) (by rw [← hc]; exact List.getElem_mem _)
  have g:=g4e w x.chart i1 du (e.now+n) (by omega) h5
  have hlt:ltI (i:Int) (e.insts.length:Int)=true:=C5 (by omega)
  have hw:IntKind.i64.wrap ((i:Int)+1)=((i+1:Nat):Int):=by rw [A6] <;> omega
  have hw2:IntKind.i64.wrap ((k:Int)+1)=((k+1:Nat):Int):=by rw [A6] <;> omega
  have he:i+1+rest.length=i+(rest.length+1):=by omega
  have hset:es.set i (tkX e n x)=es.set i ⟨x.proc,(tkX e n x).chart⟩:=rfl
  have hes:(es.set i (tkX e n x)).take (i+1)=es.take i++[tkX e n x]:=by
   rw [List.take_add_one,List.take_set_of_le (Nat.le_refl _)]
   simp [hi2]
  have hcl:(tkX e n x).chart=a3c (e.procs[a]) 30 { x.chart with now:=e.now+n }:=by simp only [tkX,e2]
  rw [← hcl] at g
  have hpr:(tkX e n x).proc=x.proc:=rfl
  cases q:eqI (tkX e n x).chart.status 1
  ·have ih:=c7p e n hz rest (i+1) k (es.set i (tkX e n x)) hr (by simpa using hl) (by rw [List.drop_set_of_lt (by omega)]; exact hr2) (by omega)
   have hlv:k+U3 (rest.map (tkX e n))=k+U3 ((x::rest).map (tkX e n)):=by simp only [List.map_cons,U3,lvX,q]; simp
   rw [he,hes,List.append_assoc,hlv] at ih
   refine C0 ?_ (by simpa only [List.length_cons,List.map_cons,List.singleton_append] using ih)
   generalize tkX e n x=x' at *
   obtain ⟨p',c'⟩:=x'
   simp only at *
   subst hpr
   simp (maxSteps:=1000000) +contextual -dsimp [f51,hlt,hi,hi2,hc,hc2,hl,hp,ha,hw,h6,g,q,List.map_set,List.set]
  ·have ih:=c7p e n hz rest (i+1) (k+1) (es.set i (tkX e n x)) hr (by simpa using hl) (by rw [List.drop_set_of_lt (by omega)]; exact hr2) (by omega)
   have hlv:k+1+U3 (rest.map (tkX e n))=k+U3 ((x::rest).map (tkX e n)):=by simp only [List.map_cons,U3,lvX,q]; simp; omega
   rw [he,hes,List.append_assoc,hlv] at ih
   refine C0 ?_ (by simpa only [List.length_cons,List.map_cons,List.singleton_append] using ih)
   generalize tkX e n x=x' at *
   obtain ⟨p',c'⟩:=x'
   simp only at *
   subst hpr
   simp (maxSteps:=1000000) +contextual -dsimp [f51,hlt,hi,hi2,hc,hc2,hl,hp,ha,hw,hw2,h6,g,q,List.map_set,List.set]
theorem f9k {e:Engine} (h:a1o e=0) (n:Int):orB (A0 (inR n 0 1000)) (A0 (inR (IntKind.i64.wrap (e.now+n)) 0 1000000))=orB (A0 (inR n 0 1000)) (ltI 1000000 (IntKind.i64.wrap (e.now+n))):=by
 obtain ⟨_,n0,n1⟩:=c4s h
 cases q:inR n 0 1000
 ·rfl
 ·have q:0≤n∧n≤1000:=by simpa [inR,A2,leI] using q
  have hw:IntKind.i64.wrap (e.now+n)=e.now+n:=by rw [A6] <;> omega
  rw [hw]
  congr 1
  rw [Bool.eq_iff_iff]
  simp [A0,inR,A2,leI,ltI]
  omega
theorem f6r (e:Engine) (hf:FitE e) (hs:SmE e) (n:Int):fo 51 [A (.agg (eT e)),A (vI n)]=some (REn (a8x e n)):=by
 have g1:=f9v e [] hf
 rw [g4f] at g1
 unfold a8x
 cases q:eqI (a1o e) 0
 ·have e1:a0p e n=a1o e:=by simp [a0p,C4,q]
  have gb:=d6v (a1o e)
  rw [e1,q]
  refine c5e 1 ?_
  simp (maxSteps:=1000000) +contextual -dsimp [f51,g1,gb,q,List.set]
 ·have q0:a1o e=0:=by simpa [eqI] using q
  have e1:a0p e n=a8w e n:=by simp [a0p,C4,q]
  have hg:=f9k q0 n
  rw [q0] at g1
  have q1:eqI 0 0=true:=rfl
  cases q2:orB (A0 (inR n 0 1000)) (ltI 1000000 (IntKind.i64.wrap (e.now+n)))
  ·have hz:a0p e n=0:=by rw [e1]; simp [a8w,q2,ci]
   rw [q2] at hg
   obtain ⟨h1,h2,h3,h4,h5,h6⟩:=a8h hz
   rw [h6] at hg
   have gc:=g1k e hs
   have hlp:=c7p e n hz e.insts 0 0 e.insts rfl rfl rfl (Nat.le_refl _)
   rw [hz,q1]
   have n0:A0 true=false:=rfl
   rw [n0,if_neg (by simp)]
   have hcl:=a4c e.procs
   have hcl2:=a5y (e.insts.map (tkX e n))
   rw [List.take_zero,List.nil_append,Nat.zero_add,Nat.zero_add] at hlp
   generalize U3 (e.insts.map (tkX e n))=lv at *
   generalize e.insts.map (tkX e n)=xs' at *
   simp only [c7o] at hlp
   simp -dsimp [f51] at hlp
   refine c5e (e.insts.length+1) ?_
   simp (maxSteps:=1000000) +contextual -dsimp [f51,g1,q1,G0,a2f,hg,gc,h6,hlp,hcl,hcl2,List.set]
  ·have hz:a0p e n=3:=by rw [e1]; simp [a8w,q2,ci]
   rw [q2] at hg
   have gb:=d6v 3
   rw [hz]
   have n3:A0 (eqI 3 0)=true:=rfl
   rw [n3,if_pos rfl]
   refine c5e 1 ?_
   simp (maxSteps:=1000000) +contextual -dsimp [f51,g1,q1,G0,a2f,hg,gb,List.set]
attribute [local simp] b9e
attribute [local simp] a9l b4t b7o
theorem g4p:fo 127 [A (.agg [.sl 160 [[.sl 124 []]],.sl 163 [],vI 0]),A (.agg [vI 0,vI 0,vI 0,.sl 2 [],.sl 2 [],.sl 2 []])]=some ⟨.sl 124 [],[],false⟩:=f0k ⟨[[]],[],0⟩ ⟨0,⟨0,0,[],[],[]⟩⟩ 0 rfl (by simp)
abbrev c7q (ps:List (List Step)) (xs:List Inst) (now:Int):List T:=[.own 160 (ps.map J2),.own 163 (xs.map L8),vI now]
theorem c7r (e:Engine) (hf:FitE e) (n:Int) (hz:a0p e n=0):∀ (rest:List Inst) (i k:Nat) (es:List Inst),e.insts.drop i=rest→es.length=e.insts.length→es.drop i=rest→k≤i→
  A5 E (orc E) (52:Nat) (rest.length+1) (B3 f52 0) ⟨71,[(4,.ptr 4 1 [] 0),(6,.ptr 6 1 [] 0),(7,vI k),(38,.ref 6 1 [] 1 e.insts.length),(39,vI e.insts.length),(40,vI i)],[(4,⟨1,1,true,z74⟩),(6,⟨1,1,true,c7q e.procs es (e.now+n)⟩)],2⟩=
  some (.exit 0,⟨71,[(4,.ptr 4 1 [] 0),(6,.ptr 6 1 [] 0),(7,vI (k+U3 (rest.map (tkX e n)):Nat)),(38,.ref 6 1 [] 1 e.insts.length),(39,vI e.insts.length),(40,vI (i+rest.length:Nat)),(41,vB false)],[(4,⟨1,1,true,z74⟩),(6,⟨1,1,true,c7q e.procs (es.take i++rest.map (tkX e n)) (e.now+n)⟩)],2⟩)
 | [],i,k,es,h,hl,hd,hk=>by
  have hge:e.insts.length≤i:=by simpa using h
  have hlt:ltI (i:Int) (e.insts.length:Int)=false:=B7 (by omega)
  have ht:es.take i=es:=List.take_of_length_le (by omega)
  rw [C2]
  simp +contextual -dsimp [f52,hlt,ht,U3]
 | x::rest,i,k,es,h,hl,hd,hk=>by
  obtain ⟨hi,hc,hr⟩:=C8 h
  obtain ⟨hi2,hc2,hr2⟩:=C8 hd
  obtain ⟨h1,h2,h3,h4,h5,h6⟩:=a8h hz
  have hn6:=(b6k h1).2.1
  obtain ⟨a,ha,hp,e2,i1,w,du,hno,ht⟩:=c1j hz (x:=x) (by rw [← hc]; exact List.getElem_mem _)
  have hfp:=hf.procs _ (List.getElem_mem ha)
  have g:=f7x (e.procs[a]) hfp.len hfp.steps x.chart (hf.insts x (by rw [← hc]; exact List.getElem_mem _)) (e.now+n)
  rw [ht] at g
  have gD:=g4p
  have hlt:ltI (i:Int) (e.insts.length:Int)=true:=C5 (by omega)
  have hw:IntKind.i64.wrap ((i:Int)+1)=((i+1:Nat):Int):=by rw [A6] <;> omega
  have he:i+1+rest.length=i+(rest.length+1):=by omega
  have hes:(es.set i (tkX e n x)).take (i+1)=es.take i++[tkX e n x]:=by
   rw [List.take_add_one,List.take_set_of_le (Nat.le_refl _)]
   simp [hi2]
  have hpr:(tkX e n x).proc=x.proc:=rfl
  have hs1:=b9e (e.procs[a])
  cases q:eqI (tkX e n x).chart.status 1
  ·have ih:=c7r e hf n hz rest (i+1) k (es.set i (tkX e n x)) hr (by simpa using hl) (by rw [List.drop_set_of_lt (by omega)]; exact hr2) (by omega)
   have hlv:k+U3 (rest.map (tkX e n))=k+U3 ((x::rest).map (tkX e n)):=by simp only [List.map_cons,U3,lvX,q]; simp
   have hw2:IntKind.i64.wrap ((k:Int))=(k:Int):=by rw [A6] <;> omega
   rw [he,hes,List.append_assoc,hlv] at ih
   refine C0 ?_ (by simpa only [List.length_cons,List.map_cons,List.singleton_append] using ih)
   generalize tkX e n x=x' at *
   obtain ⟨p',c'⟩:=x'
   simp only at *
   subst hpr
   simp (maxSteps:=1000000) +contextual -dsimp [f52,hlt,hi,hi2,hc,hc2,hl,hp,ha,hw,hw2,h6,g,gD,hs1,P5,ci,q,List.map_set,List.set]
  ·have ih:=c7r e hf n hz rest (i+1) (k+1) (es.set i (tkX e n x)) hr (by simpa using hl) (by rw [List.drop_set_of_lt (by omega)]; exact hr2) (by omega)
   have hlv:k+1+U3 (rest.map (tkX e n))=k+U3 ((x::rest).map (tkX e n)):=by simp only [List.map_cons,U3,lvX,q]; simp; omega
   have hw2:IntKind.i64.wrap ((k:Int)+1)=((k+1:Nat):Int):=by rw [A6] <;> omega
   rw [he,hes,List.append_assoc,hlv] at ih
   refine C0 ?_ (by simpa only [List.length_cons,List.map_cons,List.singleton_append] using ih)
   generalize tkX e n x=x' at *
   obtain ⟨p',c'⟩:=x'
   simp only at *
   subst hpr
   simp (maxSteps:=1000000) +contextual -dsimp [f52,hlt,hi,hi2,hc,hc2,hl,hp,ha,hw,hw2,h6,g,gD,hs1,P5,ci,q,List.map_set,List.set]
theorem f7h (e:Engine) (hf:FitE e) (hs:SmE e) (n:Int):fo 52 [A (.agg (eT e)),A (vI n)]=some (REn (a8x e n)):=by
 have g1:=f6s e hf
 have g2:=a0b (a1o e) (a8w e n)
 rw [show C4 (a1o e) (a8w e n)=a0p e n from rfl] at g2
 have g3:=P5 (orB (A0 (inR n 0 1000)) (ltI 1000000 (IntKind.i64.wrap (e.now+n)))) 3
 rw [show ci (orB (A0 (inR n 0 1000)) (ltI 1000000 (IntKind.i64.wrap (e.now+n)))) 3=a8w e n from rfl] at g3
 have g4:=D7 n 0 1000
 unfold a8x
 cases q:eqI (a0p e n) 0
 ·refine f1i 1 ?_
  simp (maxSteps:=1000000) +contextual -dsimp [f52,g1,g2,g3,g4,q,b2x,noE,List.set]
 ·have hz:a0p e n=0:=by simpa [eqI] using q
  obtain ⟨h1,h2,h3,h4,h5,h6⟩:=a8h hz
  rw [h6] at g3
  have gc:=g4o e hs
  have hlp:=c7r e hf n hz e.insts 0 0 e.insts rfl rfl rfl (Nat.le_refl _)
  have hcl:=a4c e.procs
  have hcl2:=a5y (e.insts.map (tkX e n))
  rw [List.take_zero,List.nil_append,Nat.zero_add,Nat.zero_add] at hlp
  generalize U3 (e.insts.map (tkX e n))=lv at *
  generalize e.insts.map (tkX e n)=xs' at *
  simp only [c7q] at hlp
  simp -dsimp [f52] at hlp
  refine f1i (e.insts.length+1) ?_
  simp (maxSteps:=1000000) +contextual -dsimp [f52,g1,g2,g3,g4,q,gc,h6,hlp,hcl,hcl2,List.set]
end Go.TM.Ft
namespace Go.TM.Ft
open Go Go.TM Go.Proofs Go.Proofs.Tryz
section
variable (P:Program) (t:TypeId) (x y:Operand)
theorem h3w (a:Int):D5 Tryz.prog (convert 3 5 (.int .i64 a))=some (.int .u8 (IntKind.u8.wrap a)):=by kernel_rfl
theorem h5j:D5 Tryz.prog (a9x 88 9)=some true:=by kernel_rfl
end
set_option maxRecDepth 20000
attribute [local congr] K9
attribute [local simp] J8 K0 J0 J9 H3 J6 H4 G4 H5 G1
section
variable (P:Program) (t:TypeId) (x y:Operand)
theorem g4q (a:Int):D5 P (do eqGuard .rem t x y (.int .i64 a) (.int .i64 10); binOp .rem t (.int .i64 a) (.int .i64 10))=some (.int .i64 (Int.tmod a 10)):=rfl
theorem g4r (a:Int):D5 P (do eqGuard .quo t x y (.int .i64 a) (.int .i64 10); binOp .quo t (.int .i64 a) (.int .i64 10))=some (.int .i64 (IntKind.i64.wrap (Int.tdiv a 10))):=c4w P t x y a 10 (by omega)
theorem e9s (a b:ByteArray) (h:a.size+b.size < 2 ^ 62):D5 P (do eqGuard .add t x y (.string a) (.string b); binOp .add t (.string a) (.string b))=some (.string (a++b)):=by
 have e:¬ (((a.size+b.size:Nat):Int) > IntKind.i64.max):=by
  have:IntKind.i64.max=9223372036854775807:=rfl
  rw [this]; omega
 unfold binOp
 simp only [eqGuard,Op.stringOp,if_neg e]
 rfl
end
theorem f5w:∀ (f:Nat) (k:Int) (out:ByteArray),0≤k→k < 10 ^ f→k < 2 ^ 61→out.size+f≤100→
  ∃ s:ByteArray,s.size≤100∧A5 E (orc E) (85:Nat) (f+1) (B3 f85 0) ⟨20,[(0,vI k),(3,vS out)],[],2⟩=some (.exit 0,⟨20,[(0,vI 0),(3,vS s),(7,vB false)],[],2⟩)
 | f,k,out,h0,h1,h2,h3=>by
  rcases Int.lt_or_eq_of_le h0 with hk | hk
  ·match f with
   | 0=>simp at h1; omega
   | f+1=>
    have hlt:ltI 0 k=true:=C5 hk
    have hm0:0≤k.tmod 10:=Int.tmod_nonneg _ h0
    have hm1:k.tmod 10 < 10:=Int.tmod_lt_of_pos _ (by omega)
    have w:IntKind.i64.wrap (48+k.tmod 10)=48+k.tmod 10:=by rw [A6] <;> omega
    have ed:k.tdiv 10=k / 10:=Int.tdiv_eq_ediv_of_nonneg h0
    have hd0:0≤k.tdiv 10:=by rw [ed]; omega
    have hd1:k.tdiv 10 < 10 ^ f:=by rw [ed]; rw [Int.pow_succ] at h1; omega
    have hd2:k.tdiv 10 < 2 ^ 61:=by rw [ed]; omega
    have w2:IntKind.i64.wrap (k.tdiv 10)=k.tdiv 10:=by rw [A6] <;> omega
    obtain ⟨b,w3⟩:∃ b,IntKind.u8.wrap (48+k.tmod 10)=b:=⟨_,rfl⟩
    have hs:(⟨#[UInt8.ofNat b.toNat]⟩:ByteArray).size=1:=rfl
    have hsz:((⟨#[UInt8.ofNat b.toNat]⟩:ByteArray)++out).size=1+out.size:=by rw [ByteArray.size_append,hs]
    obtain ⟨s,g1,g2⟩:=f5w f (k.tdiv 10) (⟨#[UInt8.ofNat b.toNat]⟩++out) hd0 hd1 hd2 (by rw [hsz]; omega)
    have p1:=g4q Tryz.prog 3 (.tmp 8) (.const (.int .i64 10)) k
    have p2:=g4r Tryz.prog 3 (.tmp 16) (.const (.int .i64 10)) k
    have p3:=e9s Tryz.prog 9 (.tmp 13) (.tmp 14) ⟨#[UInt8.ofNat b.toNat]⟩ out (by rw [hs]; omega)
    refine ⟨s,g1,C0 ?_ g2⟩
    generalize (⟨#[UInt8.ofNat b.toNat]⟩:ByteArray)++out=out' at *
    generalize k.tdiv 10=d at *
    simp (maxSteps:=1000000) +contextual -dsimp [f85,hlt,p1,p2,p3,h3w,h5j,w,w2,w3,a7e,List.set]
  ·subst hk
   have hlt:ltI 0 0=false:=rfl
   refine ⟨out,by omega,D6 ?_ (by simp)⟩
   simp (maxSteps:=1000000) +contextual -dsimp [f85,hlt,List.set]
theorem f8b (k:Int) (h0:0≤k) (h1:k < 2 ^ 61):∃ s:ByteArray,fo 85 [A (vI k)]=some (R (vS s)):=by
 cases q:leI k 0
 ·obtain ⟨s,h2,h3⟩:=f5w 20 k ⟨#[]⟩ h0 (by omega) h1 (by show 0+20≤100; omega)
  have hs:(⟨#[109]⟩:ByteArray).size=1:=rfl
  have p3:=e9s Tryz.prog 9 (.const (.string ⟨#[109]⟩)) (.tmp 18) ⟨#[109]⟩ s (by rw [hs]; omega)
  refine ⟨⟨#[109]⟩++s,f1k 21 ?_⟩
  simp -dsimp [f85] at h3
  simp (maxSteps:=1000000) +contextual -dsimp [f85,q,h3,p3,List.set]
 ·refine ⟨⟨#[109,48]⟩,f1k 1 ?_⟩
  simp (maxSteps:=1000000) +contextual -dsimp [f85,q,List.set]
open Classical in
noncomputable def a6v (k:Int):ByteArray:=if h:∃ s:ByteArray,fo 85 [A (vI k)]=some (R (vS s)) then Classical.choose h else ⟨#[]⟩
theorem d0y (k:Int) (h0:0≤k) (h1:k < 2 ^ 61):fo 85 [A (vI k)]=some (R (vS (a6v k))):=by
 have h:=f8b k h0 h1
 unfold a6v
 rw [dif_pos h]
 exact Classical.choose_spec h
def a3k (x:EngR):Nat:=G7 x.eng
end Go.TM.Ft
