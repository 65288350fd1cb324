/- What functions of the program come to, by the machine. -/
import Derived.Test.YtlmiemdojgahaaaGreatML12
import Derived.Test.YtlmiemdojgahaaaGreatML13
import Derived.Test.YtlmiemdojgahaaaGreatML11
set_option linter.unusedSimpArgs false
set_option linter.unusedVariables false
set_option maxHeartbeats 4000000
namespace Go.TM.Ft
open Go Go.TM Go.Proofs Go.Proofs.Tryz
set_option maxRecDepth 20000
attribute [local congr] O3
attribute [local simp] L9 M4 K0 L6 J6 L4 J8 J1 K5 I6 Y3 cQ gE pM gX
theorem Sg (l:List Node):((l.map nT).all fun c=>c.all dJ)=true:=by
 rw[List.all_eq_true];intro c hc;obtain⟨x,_,rfl⟩:=List.mem_map.1 hc;rfl
theorem b8c (l:List Node) (hl:l.length≤1048576):fo 285 [A (nS 219 l)]=some ⟨.own 219 (l.map nT),[],true⟩:=by
 refine Ds (g:=kM 219) rfl ?_
 have h1:=Sg l
 have h2:=wO hl
 simp only[kM]
 rw[if_pos ⟨trivial,h1,by simpa using h2⟩,gX]
theorem sG {α:Type}:∀ (r:List α) (i:Nat) (acc:List α),S8 (fun _ acc x=>acc++[x]) i acc r=acc++r
 | [],_,acc=>by simp[S8]
 | x::r,i,acc=>by simp only[S8];rw[sG r];simp
def yN (s:Step):Prop:=s.cond.length≤1048576∧s.expr.length≤1048576
theorem e5e (l:List Step) (hl:l.length≤1048576) (hf:∀ s,s∈l→yN s):
  B7 E (orc E) (246:Nat) (l.length+1) (C1 f246 0) ⟨27,[(3,.ref 3 1 [] 0 0),(7,.sl 124 (l.map (sT 219))),(8,vI l.length),(9,vI (0:Nat))],[(3,⟨1,1,false,[.own 124 []]⟩)],2⟩=
  some (.exit 0,⟨27,[(3,.ref 3 1 [] 0 l.length),(7,.sl 124 (l.map (sT 219))),(8,vI l.length),(9,vI l.length),(10,vB false)],[(3,⟨1,1,false,[.own 124 (l.map T6)]⟩)],2⟩):=by
 have h:=iJ (σ:=List Step) (f:=246) (id:=0) (code:=C1 f246 0) l (fun i acc=>acc.length=i)
  (fun i acc=>⟨27,[(3,.ref 3 1 [] 0 acc.length),(7,.sl 124 (l.map (sT 219))),(8,vI l.length),(9,vI i)],[(3,⟨1,1,false,[.own 124 (acc.map T6)]⟩)],2⟩) (fun _ acc x=>acc++[x])
  (fun acc=>⟨27,[(3,.ref 3 1 [] 0 acc.length),(7,.sl 124 (l.map (sT 219))),(8,vI l.length),(9,vI l.length),(10,vB false)],[(3,⟨1,1,false,[.own 124 (acc.map T6)]⟩)],2⟩)
 have h2:=h ?_ ?_ [] rfl
 ·rw[sG] at h2;simpa using h2
 ·intro k acc _
  have A1:=cF l.length
  simp +contextual -dsimp [f246,A1]
 ·intro k i acc hi hI
  have A1:=U2 hi
  have hw:=S6 hi (by omega)
  have J7:acc.length+1≤D0:=by unfold D0;omega
  have hs:=hf l[i] (List.getElem_mem hi)
  have g1:=b8c l[i].cond hs.1
  have g2:=b8c l[i].expr hs.2
  refine⟨?_,by simp[hI]⟩
  simp (maxSteps:=1000000) +contextual -dsimp [f246,A1,hi,hw,g1,g2,J7,List.set]
theorem d5g (l:List Step) (hl:l.length≤1048576) (hf:∀ s,s∈l→yN s):fo 246 [A (.sl 124 (l.map (sT 219)))]=some ⟨.own 124 (l.map T6),[],true⟩:=by
 have A4:=e5e l hl hf
 have F4:=uX l
 refine e3y (l.length+1) ?_
 simp -dsimp [f246] at A4
 simp (maxSteps:=1000000) +contextual -dsimp [f246,A4,F4,List.set]
theorem e2p (l:List Step) (hl:l.length≤1048576) (hf:∀ s,s∈l→yN s):
  B7 E (orc E) (242:Nat) (l.length+1) (C1 f242 0) ⟨32,[(0,.sl 124 (l.map (sT 219))),(3,.ref 3 1 [] 0 0),(4,vI (0:Nat))],[(3,⟨1,1,false,[.own 124 []]⟩)],2⟩=
  some (.exit 0,⟨32,[(0,.sl 124 (l.map (sT 219))),(3,.ref 3 1 [] 0 l.length),(4,vI l.length),(10,vB false)],[(3,⟨1,1,false,[.own 124 (l.map T6)]⟩)],2⟩):=by
 have h:=iJ (σ:=List Step) (f:=242) (id:=0) (code:=C1 f242 0) l (fun i acc=>acc.length=i)
  (fun i acc=>⟨32,[(0,.sl 124 (l.map (sT 219))),(3,.ref 3 1 [] 0 acc.length),(4,vI i)],[(3,⟨1,1,false,[.own 124 (acc.map T6)]⟩)],2⟩) (fun _ acc x=>acc++[x])
  (fun acc=>⟨32,[(0,.sl 124 (l.map (sT 219))),(3,.ref 3 1 [] 0 acc.length),(4,vI l.length),(10,vB false)],[(3,⟨1,1,false,[.own 124 (acc.map T6)]⟩)],2⟩)
 have h2:=h ?_ ?_ [] rfl
 ·rw[sG] at h2;simpa using h2
 ·intro k acc _
  have A1:=cF l.length
  simp +contextual -dsimp [f242,A1]
 ·intro k i acc hi hI
  have A1:=U2 hi
  have hw:=S6 hi (by omega)
  have J7:acc.length+1≤D0:=by unfold D0;omega
  have hs:=hf l[i] (List.getElem_mem hi)
  have h1:=Sg l[i].cond
  have h2:=Sg l[i].expr
  have h3:l[i].cond.length≤D0:=wO hs.1
  have h4:l[i].expr.length≤D0:=wO hs.2
  refine⟨?_,by simp[hI]⟩
  simp (maxSteps:=1000000) +contextual -dsimp [f242,A1,hi,hw,h1,h2,h3,h4,J7,List.set]
theorem f2r (l:List Step) (hl:l.length≤1048576) (hf:∀ s,s∈l→yN s):fo 242 [A (.sl 124 (l.map (sT 219)))]=some ⟨.own 124 (l.map T6),[],true⟩:=by
 have A4:=e2p l hl hf
 have F4:=uX l
 refine e2r (l.length+1) ?_
 simp -dsimp [f242] at A4
 simp (maxSteps:=1000000) +contextual -dsimp [f242,A4,F4,List.set]
abbrev SmP (p:List Step):Prop:=p.length≤1048576∧∀ s,s∈p→yN s
theorem e8b (l:List (List Step)) (hl:l.length≤1048576) (hf:∀ s,s∈l→SmP s):
  B7 E (orc E) (187:Nat) (l.length+1) (C1 f187 0) ⟨22,[(3,.ref 3 1 [] 0 0),(7,.sl 160 (l.map (pT 124 219))),(8,vI l.length),(9,vI (0:Nat))],[(3,⟨1,1,false,[.own 160 []]⟩)],2⟩=
  some (.exit 0,⟨22,[(3,.ref 3 1 [] 0 l.length),(7,.sl 160 (l.map (pT 124 219))),(8,vI l.length),(9,vI l.length),(10,vB false)],[(3,⟨1,1,false,[.own 160 (l.map L1)]⟩)],2⟩):=by
 have h:=iJ (σ:=List (List Step)) (f:=187) (id:=0) (code:=C1 f187 0) l (fun i acc=>acc.length=i)
  (fun i acc=>⟨22,[(3,.ref 3 1 [] 0 acc.length),(7,.sl 160 (l.map (pT 124 219))),(8,vI l.length),(9,vI i)],[(3,⟨1,1,false,[.own 160 (acc.map L1)]⟩)],2⟩) (fun _ acc x=>acc++[x])
  (fun acc=>⟨22,[(3,.ref 3 1 [] 0 acc.length),(7,.sl 160 (l.map (pT 124 219))),(8,vI l.length),(9,vI l.length),(10,vB false)],[(3,⟨1,1,false,[.own 160 (acc.map L1)]⟩)],2⟩)
 have h2:=h ?_ ?_ [] rfl
 ·rw[sG] at h2;simpa using h2
 ·intro k acc _
  have A1:=cF l.length
  simp +contextual -dsimp [f187,A1]
 ·intro k i acc hi hI
  have A1:=U2 hi
  have hw:=S6 hi (by omega)
  have J7:acc.length+1≤D0:=by unfold D0;omega
  have hs:=hf l[i] (List.getElem_mem hi)
  have g1:=d5g l[i] hs.1 hs.2
  refine⟨?_,by simp[hI]⟩
  simp (maxSteps:=1000000) +contextual -dsimp [f187,A1,hi,hw,g1,J7,List.set]
theorem e9l (l:List (List Step)) (hl:l.length≤1048576) (hf:∀ s,s∈l→SmP s):fo 187 [A (.sl 160 (l.map (pT 124 219)))]=some ⟨.own 160 (l.map L1),[],true⟩:=by
 have A4:=e8b l hl hf
 have F4:=W5 l
 refine e6d (l.length+1) ?_
 simp -dsimp [f187] at A4
 simp (maxSteps:=1000000) +contextual -dsimp [f187,A4,F4,List.set]
theorem f2j (l:List (List Step)) (hl:l.length≤1048576) (hf:∀ s,s∈l→SmP s):
  B7 E (orc E) (182:Nat) (l.length+1) (C1 f182 0) ⟨23,[(0,.sl 160 (l.map (pT 124 219))),(3,.ref 3 1 [] 0 0),(4,vI (0:Nat))],[(3,⟨1,1,false,[.own 160 []]⟩)],2⟩=
  some (.exit 0,⟨23,[(0,.sl 160 (l.map (pT 124 219))),(3,.ref 3 1 [] 0 l.length),(4,vI l.length),(9,vB false)],[(3,⟨1,1,false,[.own 160 (l.map L1)]⟩)],2⟩):=by
 have h:=iJ (σ:=List (List Step)) (f:=182) (id:=0) (code:=C1 f182 0) l (fun i acc=>acc.length=i)
  (fun i acc=>⟨23,[(0,.sl 160 (l.map (pT 124 219))),(3,.ref 3 1 [] 0 acc.length),(4,vI i)],[(3,⟨1,1,false,[.own 160 (acc.map L1)]⟩)],2⟩) (fun _ acc x=>acc++[x])
  (fun acc=>⟨23,[(0,.sl 160 (l.map (pT 124 219))),(3,.ref 3 1 [] 0 acc.length),(4,vI l.length),(9,vB false)],[(3,⟨1,1,false,[.own 160 (acc.map L1)]⟩)],2⟩)
 have h2:=h ?_ ?_ [] rfl
 ·rw[sG] at h2;simpa using h2
 ·intro k acc _
  have A1:=cF l.length
  simp +contextual -dsimp [f182,A1]
 ·intro k i acc hi hI
  have A1:=U2 hi
  have hw:=S6 hi (by omega)
  have J7:acc.length+1≤D0:=by unfold D0;omega
  have hs:=hf l[i] (List.getElem_mem hi)
  have g1:=f2r l[i] hs.1 hs.2
  refine⟨?_,by simp[hI]⟩
  simp (maxSteps:=1000000) +contextual -dsimp [f182,A1,hi,hw,g1,J7,List.set]
theorem e2i (l:List (List Step)) (hl:l.length≤1048576) (hf:∀ s,s∈l→SmP s):fo 182 [A (.sl 160 (l.map (pT 124 219)))]=some ⟨.own 160 (l.map L1),[],true⟩:=by
 have A4:=f2j l hl hf
 have F4:=W5 l
 refine e9c (l.length+1) ?_
 simp -dsimp [f182] at A4
 simp (maxSteps:=1000000) +contextual -dsimp [f182,A4,F4,List.set]
structure SmE (e:Engine):Prop where
 np:e.procs.length≤1048576
 ni:e.insts.length≤1048576
 procs:∀ p,p∈e.procs→SmP p
 insts:∀ x,x∈e.insts→Few x.chart
abbrev pN:List T:=[.own 160 [],.own 163 [],vI 0]
theorem d3r (e:Engine) (h:SmE e):
  B7 E (orc E) (116:Nat) (e.insts.length+1) (C1 f116 0) ⟨32,[(2,.ptr 2 1 [] 0),(3,.ptr 3 1 [] 0),(13,.sl 163 (e.insts.map xT)),(14,vI e.insts.length),(15,vI (0:Nat))],[(1,⟨1,1,true,eT e⟩),(2,⟨1,1,true,pN⟩),(3,⟨1,1,true,[.own 160 (e.procs.map L1),.own 163 [],vI e.now]⟩)],2⟩=
  some (.exit 0,⟨32,[(2,.ptr 2 1 [] 0),(3,.ptr 3 1 [] 0),(13,.sl 163 (e.insts.map xT)),(14,vI e.insts.length),(15,vI e.insts.length),(16,vB false)],[(1,⟨1,1,true,eT e⟩),(2,⟨1,1,true,pN⟩),(3,⟨1,1,true,uY e⟩)],2⟩):=by
 have hl:=h.ni
 have hh:=iJ (σ:=List Inst) (f:=116) (id:=0) (code:=C1 f116 0) e.insts (fun i acc=>acc.length=i)
  (fun i acc=>⟨32,[(2,.ptr 2 1 [] 0),(3,.ptr 3 1 [] 0),(13,.sl 163 (e.insts.map xT)),(14,vI e.insts.length),(15,vI i)],[(1,⟨1,1,true,eT e⟩),(2,⟨1,1,true,pN⟩),(3,⟨1,1,true,[.own 160 (e.procs.map L1),.own 163 (acc.map P8),vI e.now]⟩)],2⟩) (fun _ acc x=>acc++[x])
  (fun acc=>⟨32,[(2,.ptr 2 1 [] 0),(3,.ptr 3 1 [] 0),(13,.sl 163 (e.insts.map xT)),(14,vI e.insts.length),(15,vI e.insts.length),(16,vB false)],[(1,⟨1,1,true,eT e⟩),(2,⟨1,1,true,pN⟩),(3,⟨1,1,true,[.own 160 (e.procs.map L1),.own 163 (acc.map P8),vI e.now]⟩)],2⟩)
 have h2:=hh ?_ ?_ [] rfl
 ·rw[sG] at h2;simpa using h2
 ·intro k acc _
  have A1:=cF e.insts.length
  simp +contextual -dsimp [f116,A1]
 ·intro k i acc hi hI
  have A1:=U2 hi
  have hw:=S6 hi (by omega)
  have J7:acc.length+1≤D0:=by unfold D0;omega
  have g1:=Ll e.insts[i].chart (h.insts _ (List.getElem_mem hi))
  refine⟨?_,by simp[hI]⟩
  simp (maxSteps:=1000000) +contextual -dsimp [f116,A1,hi,hw,g1,J7,List.set]
theorem Ia (e:Engine) (h:SmE e):fo 116 [A (.agg (eT e))]=some ⟨.agg (uY e),[],true⟩:=by
 have A4:=d3r e h
 have F4:=W5 e.procs
 have Q8:=V6 e.insts
 have g1:=e9l e.procs h.np h.procs
 refine e1e (e.insts.length+1) ?_
 simp -dsimp [f116] at A4
 simp (maxSteps:=1000000) +contextual -dsimp [f116,A4,F4,Q8,g1,List.set]
theorem d6q (e:Engine) (h:SmE e):
  B7 E (orc E) (110:Nat) (e.insts.length+1) (C1 f110 0) ⟨38,[(1,.ptr 1 1 [] 0),(2,.ptr 2 1 [] 0),(3,.ptr 3 1 [] 0),(4,vI (0:Nat))],[(1,⟨1,1,true,eT e⟩),(2,⟨1,1,true,pN⟩),(3,⟨1,1,true,[.own 160 (e.procs.map L1),.own 163 [],vI e.now]⟩)],2⟩=
  some (.exit 0,⟨38,[(1,.ptr 1 1 [] 0),(2,.ptr 2 1 [] 0),(3,.ptr 3 1 [] 0),(4,vI e.insts.length),(15,vB false)],[(1,⟨1,1,true,eT e⟩),(2,⟨1,1,true,pN⟩),(3,⟨1,1,true,uY e⟩)],2⟩):=by
 have hl:=h.ni
 have hh:=iJ (σ:=List Inst) (f:=110) (id:=0) (code:=C1 f110 0) e.insts (fun i acc=>acc.length=i)
  (fun i acc=>⟨38,[(1,.ptr 1 1 [] 0),(2,.ptr 2 1 [] 0),(3,.ptr 3 1 [] 0),(4,vI i)],[(1,⟨1,1,true,eT e⟩),(2,⟨1,1,true,pN⟩),(3,⟨1,1,true,[.own 160 (e.procs.map L1),.own 163 (acc.map P8),vI e.now]⟩)],2⟩) (fun _ acc x=>acc++[x])
  (fun acc=>⟨38,[(1,.ptr 1 1 [] 0),(2,.ptr 2 1 [] 0),(3,.ptr 3 1 [] 0),(4,vI e.insts.length),(15,vB false)],[(1,⟨1,1,true,eT e⟩),(2,⟨1,1,true,pN⟩),(3,⟨1,1,true,[.own 160 (e.procs.map L1),.own 163 (acc.map P8),vI e.now]⟩)],2⟩)
 have h2:=hh ?_ ?_ [] rfl
 ·rw[sG] at h2;simpa using h2
 ·intro k acc _
  have A1:=cF e.insts.length
  simp +contextual -dsimp [f110,A1]
 ·intro k i acc hi hI
  have A1:=U2 hi
  have hw:=S6 hi (by omega)
  have J7:acc.length+1≤D0:=by unfold D0;omega
  have g1:=c1x e.insts[i].chart (h.insts _ (List.getElem_mem hi))
  refine⟨?_,by simp[hI]⟩
  simp (maxSteps:=1000000) +contextual -dsimp [f110,A1,hi,hw,g1,J7,List.set]
theorem Ce (e:Engine) (h:SmE e):fo 110 [A (.agg (eT e))]=some ⟨.agg (uY e),[],true⟩:=by
 have A4:=d6q e h
 have F4:=W5 e.procs
 have Q8:=V6 e.insts
 have g1:=e2i e.procs h.np h.procs
 refine e9b (e.insts.length+1) ?_
 simp -dsimp [f110] at A4
 simp (maxSteps:=1000000) +contextual -dsimp [f110,A4,F4,Q8,g1,List.set]
attribute [local simp] W5 V6 dR
theorem b6q {l:List Step} (h:∀ s,s∈l→FitS s):qZ l:=fun s hs=>⟨(h s hs).name,(h s hs).cond,(h s hs).expr⟩
def bZ:Engine:=⟨[],[],0⟩
def N8 (k:Int):EngR:=⟨k,0,bZ⟩
def tO (e:Engine) (n:Nat) (c:Chart):Engine:=match e.insts[n]? with | some x=>{ e with insts:=e.insts.set n ⟨x.proc,c⟩ } | none=>e
theorem Ax {e:Engine} {n:Nat} {c:Chart} (hn:n<e.insts.length):tO e n c={ e with insts:=e.insts.set n ⟨(e.insts[n]).proc,c⟩ }:=by simp[tO,hn]
def mL (e:Engine) (n:Nat) (r:Int×Chart):EngR:=if A2 (A0 r.1 0)=true then N8 r.1 else ⟨0,r.2.status,tO e n r.2⟩
abbrev iT (r:EngR):Res:=⟨.agg (e8p r),[],true⟩
abbrev aR (i:Nat) (r:Int×Chart):Arg:=⟨.agg [vI r.1,vI r.2.status,vI r.2.now,.ref i 0 [] 3 r.2.vars.length,.ref i 0 [] 4 r.2.acts.length,.ref i 0 [] 5 r.2.dues.length],some ⟨0,0,false,[.dead,.dead,.dead,.own 2 (iE r.2.vars),.own 2 (iE r.2.acts),.own 2 (iE r.2.dues)]⟩⟩
theorem lL (k:Int):fo 108 [A (vI k)]=some (iT (N8 k)):=by
 refine d1t 1 ?_
 simp (maxSteps:=1000000) +contextual -dsimp [f108,N8,bZ,List.set]
theorem e7i (e:Engine) (h:SmE e) (n:Nat) (hn:n<e.insts.length) (r:Int×Chart):fo 125 [A (.agg (eT e)),A (vI (n:Nat)),aR 2 r]=some (iT (mL e n r)):=by
 have g1:=Ia e h
 have F4:=W5 e.procs
 obtain⟨code,c⟩:=r
 unfold mL
 simp only[Ax hn]
 have Q8:=V6 (e.insts.set n ⟨(e.insts[n]).proc,c⟩)
 rw[List.map_set] at Q8
 cases q:A0 code 0
 ·refine c0z 1 ?_
  simp (maxSteps:=1000000) +contextual -dsimp [f125,q,N8,bZ,List.set]
 ·refine c0z 1 ?_
  simp (maxSteps:=1000000) +contextual -dsimp [f125,q,g1,hn,F4,Q8,List.map_set,List.set]
theorem f2f (e:Engine) (h:SmE e) (n:Nat) (hn:n<e.insts.length) (r:Int×Chart):fo 123 [A (.ipt (eT e)),A (vI (n:Nat)),aR 2 r]=some (iT (mL e n r)):=by
 have g1:=Ce e h
 have F4:=W5 e.procs
 obtain⟨code,c⟩:=r
 have g2:=lL code
 unfold mL
 simp only[Ax hn]
 have Q8:=V6 (e.insts.set n ⟨(e.insts[n]).proc,c⟩)
 rw[List.map_set] at Q8
 cases q:A0 code 0
 ·refine c5s 1 ?_
  simp (maxSteps:=1000000) +contextual -dsimp [f123,q,g2,N8,bZ,List.set]
 ·refine c5s 1 ?_
  simp (maxSteps:=1000000) +contextual -dsimp [f123,q,g1,hn,F4,Q8,List.map_set,List.set]
def U6 (e:Engine) (inst:Int):Int:=C5 (K2 e) (ci (A2 (A5 inst 0 ((e.insts.length:Int) - 1))) 3)
theorem Rl {k:Int} {n:Nat} (h:A5 k 0 ((n:Int) - 1)=true):∃ a:Nat,k=a∧a<n:=by
 simp[A5,A6,B5] at h
 obtain⟨a,ha⟩:=Int.eq_ofNat_of_zero_le h.1
 exact⟨a,ha,by omega⟩
theorem a9x {b:Bool} {k:Int} (hk:k≠0) (h:ci (A2 b) k=0):b=true:=by
 have:=jT hk h
 cases b<;>simp[A2] at this ⊢
theorem tV {e:Engine} {inst:Int} (h:U6 e inst=0):K2 e=0∧∃ n:Nat,inst=n∧n<e.insts.length:=by
 obtain⟨h1,h2⟩:=P9 h
 exact⟨h1,Rl (a9x (by omega) h2)⟩
theorem a1c (e:Engine) (hf:FitE e) (inst:Int):fo 124 [A (.agg (eT e)),A (vI inst)]=some (R (vI (U6 e inst))):=by
 have g1:=Fo e hf
 have g2:=Bi inst e.insts.length hf.ni
 have g3:=Y8 (K2 e) (ci (A2 (A5 inst 0 ((e.insts.length:Int) - 1))) 3)
 unfold U6
 refine d0c 1 ?_
 simp (maxSteps:=1000000) +contextual -dsimp [f124,g1,g2,g3,O4,List.set]
theorem a9t (e:Engine) (hf:FitE e) (inst:Int):fo 122 [A (.ipt (eT e)),A (vI inst)]=some (R (vI (U6 e inst))):=by
 have g1:=Gk e [] hf
 rw[Cj] at g1
 have Pr:=hf.ni
 have hw:IntKind.i64.wrap ((e.insts.length:Int) - 1)=(e.insts.length:Int) - 1:=by rw[B6]<;>omega
 unfold U6
 cases q:A0 (K2 e) 0
 ·have e1:C5 (K2 e) (ci (A2 (A5 inst 0 ((e.insts.length:Int) - 1))) 3)=K2 e:=by simp[C5,q]
  rw[e1]
  refine Tp 1 ?_
  simp (maxSteps:=1000000) +contextual -dsimp [f122,g1,q,List.set]
 ·have q0:K2 e=0:=by simpa[A0] using q
  rw[q0]
  rw[q0] at g1
  have q1:A0 0 0=true:=rfl
  have e1:C5 0 (ci (A2 (A5 inst 0 ((e.insts.length:Int) - 1))) 3)=ci (A2 (A5 inst 0 ((e.insts.length:Int) - 1))) 3:=by simp[C5,q1]
  rw[e1]
  cases q2:A5 inst 0 ((e.insts.length:Int) - 1)
  ·refine Tp 1 ?_
   simp (maxSteps:=1000000) +contextual -dsimp [f122,g1,q1,q2,hw,G0,ci,List.set]
  ·refine Tp 1 ?_
   simp (maxSteps:=1000000) +contextual -dsimp [f122,g1,q1,q2,hw,G0,ci,List.set]
def nI (e:Engine) (inst msg:Int):EngR:=
 if A2 (A0 (U6 e inst) 0)=true then N8 (U6 e inst) else mL e inst.toNat (cX (stepsOf e (X4 e inst)) (X4 e inst).chart msg)
theorem tY {e:Engine} (h:K2 e=0) {n:Nat} (hn:n<e.insts.length):
  ∃ (a:Nat) (ha:a<e.procs.length),(e.insts[n]).proc=a∧stepsOf e (X4 e n)=e.procs[a]∧X4 e n=e.insts[n]:=by
 obtain⟨_,_,h3⟩:=iD h
 obtain⟨a,ha,hx,e2,_⟩:=(h3 _ (List.getElem_mem hn)).at_
 have e1:X4 e n=e.insts[n]:=by simp[X4,hn]
 exact⟨a,ha,hx,by rw[e1];exact e2,e1⟩
theorem e5n (e:Engine) (hf:FitE e) (hs:SmE e) (inst msg:Int):fo 48 [A (.agg (eT e)),A (vI inst),A (vI msg)]=some (iT (nI e inst msg)):=by
 have g1:=a1c e hf inst
 unfold nI
 cases q:A0 (U6 e inst) 0
 ·refine Xu 1 ?_
  simp (maxSteps:=1000000) +contextual -dsimp [f48,g1,q,N8,bZ,List.set]
 ·have q0:U6 e inst=0:=by simpa[A0] using q
  obtain⟨h0,n,rfl,hn⟩:=tV q0
  obtain⟨a,ha,hx,e2,e1⟩:=tY h0 hn
  have hp:=hf.procs _ (List.getElem_mem ha)
  have g2:=Gv e (e.insts[n]) a hx ha
  have g3:=e1g (e.procs[a]) hp.len hp.steps (e.insts[n]).chart (hf.insts _ (List.getElem_mem hn)) msg
  rw[q0] at g1
  have n0:A2 true=false:=rfl
  have q1:A0 0 0=true:=rfl
  rw[n0,if_neg (by simp),e2,e1]
  generalize cX (e.procs[a]) (e.insts[n]).chart msg=r at *
  have g4:=e7i e hs n hn r
  have e3:((n:Nat):Int).toNat=n:=by omega
  rw[e3]
  obtain⟨code,c⟩:=r
  generalize mL e n (code,c)=o at *
  refine Xu 1 ?_
  simp (maxSteps:=1000000) +contextual -dsimp [f48,g1,g2,g3,g4,q1,hn,List.set]
theorem d3o (e:Engine) (hf:FitE e) (hs:SmE e) (inst msg:Int):fo 47 [A (.agg (eT e)),A (vI inst),A (vI msg)]=some (iT (nI e inst msg)):=by
 have g1:=a9t e hf inst
 have gb:=lL (U6 e inst)
 unfold nI
 cases q:A0 (U6 e inst) 0
 ·refine a3w 1 ?_
  simp (maxSteps:=1000000) +contextual -dsimp [f47,g1,gb,q,N8,bZ,List.set]
 ·have q0:U6 e inst=0:=by simpa[A0] using q
  obtain⟨h0,n,rfl,hn⟩:=tV q0
  obtain⟨a,ha,hx,e2,e1⟩:=tY h0 hn
  have hp:=hf.procs _ (List.getElem_mem ha)
  have g3:=e0e (e.procs[a]) hp.len (b6q hp.steps) (e.insts[n]).chart msg
  rw[q0] at g1
  have n0:A2 true=false:=rfl
  have q1:A0 0 0=true:=rfl
  rw[n0,if_neg (by simp),e2,e1]
  generalize cX (e.procs[a]) (e.insts[n]).chart msg=r at *
  have g4:=f2f e hs n hn r
  have e3:((n:Nat):Int).toNat=n:=by omega
  rw[e3]
  obtain⟨code,c⟩:=r
  generalize mL e n (code,c)=o at *
  refine a3w 1 ?_
  simp (maxSteps:=1000000) +contextual -dsimp [f47,g1,g3,g4,q1,hn,hx,ha,List.set]
def eR (e:Engine) (proc:Int):Int:=C5 (K2 e) (C5 (ci (A2 (A5 proc 0 ((e.procs.length:Int) - 1))) 3) (ci (A0 e.insts.length 6) 2))
def rH (e:Engine) (proc:Int):List Step:=e.procs.getD proc.toNat []
def zM (e:Engine) (proc:Int) (r:Int×Chart):EngR:=if A2 (A0 r.1 0)=true then N8 r.1 else ⟨0,e.insts.length,{ e with insts:=e.insts++[⟨proc,r.2⟩] }⟩
def mW (e:Engine) (proc:Int) (vars:List Int):EngR:=
 if A2 (A0 (eR e proc) 0)=true then N8 (eR e proc) else zM e proc (eW (rH e proc) vars e.now)
theorem f1t {e:Engine} {proc:Int} (h:eR e proc=0):K2 e=0∧(∃ n:Nat,proc=n∧n<e.procs.length)∧A0 e.insts.length 6=false:=by
 obtain⟨h1,h2⟩:=P9 h
 obtain⟨h2,h3⟩:=P9 h2
 have h3:=jT (by omega) h3
 exact⟨h1,Rl (a9x (by omega) h2),h3⟩
theorem d5n (e:Engine) (hf:FitE e) (hs:SmE e) (proc:Int) (vars:List Int) (hv:vars.length<2 ^ 62):fo 41 [A (.agg (eT e)),A (vI proc),A (iS vars)]=some (iT (mW e proc vars)):=by
 have g1:=Fo e hf
 have g2:=Bi proc e.procs.length hf.np
 have g3:=b1c (K2 e) (ci (A2 (A5 proc 0 ((e.procs.length:Int) - 1))) 3) (ci (A0 e.insts.length 6) 2)
 rw[show C5 (K2 e) (C5 (ci (A2 (A5 proc 0 ((e.procs.length:Int) - 1))) 3) (ci (A0 e.insts.length 6) 2))=eR e proc from rfl] at g3
 unfold mW
 cases q:A0 (eR e proc) 0
 ·refine Kn 1 ?_
  simp (maxSteps:=1000000) +contextual -dsimp [f41,g1,g2,g3,O4,q,N8,bZ,List.set]
 ·have q0:eR e proc=0:=by simpa[A0] using q
  obtain⟨h0,⟨n,rfl,hn⟩,h6⟩:=f1t q0
  have hp:=hf.procs _ (List.getElem_mem hn)
  have g4:=e4f (e.procs[n]) hp.len hp.steps vars hv e.now
  have g5:=Ia e hs
  have J7:e.insts.length+1≤D0:=by have:=hs.ni;unfold D0;omega
  have e3:rH e n=e.procs[n]:=by simp[rH,hn]
  rw[q0] at g3
  have n0:A2 true=false:=rfl
  have q1:A0 0 0=true:=rfl
  rw[n0,if_neg (by simp),e3]
  generalize eW (e.procs[n]) vars e.now=r at *
  obtain⟨code,c⟩:=r
  have Q8:=V6 (e.insts++[⟨(n:Nat),c⟩])
  rw[List.map_append] at Q8
  unfold zM
  cases q2:A0 code 0
  ·refine Kn 1 ?_
   simp (maxSteps:=1000000) +contextual -dsimp [f41,g1,g2,g3,g4,O4,q1,q2,hn,N8,bZ,List.set]
  ·simp only[List.map_cons,List.map_nil] at Q8
   refine Kn 1 ?_
   simp (maxSteps:=1000000) +contextual -dsimp [f41,g1,g2,g3,g4,g5,O4,q1,q2,hn,J7,Q8,List.set]
theorem d3w (e:Engine) (hf:FitE e) (hs:SmE e) (proc:Int) (vars:List Int):fo 39 [A (.agg (eT e)),A (vI proc),A (iS vars)]=some (iT (mW e proc vars)):=by
 have g1:=Gk e [] hf
 rw[Cj] at g1
 have hnp:=hf.np
 have hw:IntKind.i64.wrap ((e.procs.length:Int) - 1)=(e.procs.length:Int) - 1:=by rw[B6]<;>omega
 have q1:A0 0 0=true:=rfl
 unfold mW
 cases c1:A0 (K2 e) 0
 ·have e1:eR e proc=K2 e:=by simp[eR,C5,c1]
  have gb:=lL (K2 e)
  rw[e1,c1]
  refine zB 1 ?_
  simp (maxSteps:=1000000) +contextual -dsimp [f39,g1,gb,c1,N8,bZ,List.set]
 have z1:K2 e=0:=by simpa[A0] using c1
 rw[z1] at g1
 cases c2:A5 proc 0 ((e.procs.length:Int) - 1)
 ·have e1:eR e proc=3:=by simp only[eR,z1,c2];rfl
  have gb:=lL 3
  have q3:A0 3 0=false:=rfl
  rw[e1,q3]
  refine zB 1 ?_
  simp (maxSteps:=1000000) +contextual -dsimp [f39,g1,gb,q1,c2,hw,G0,N8,bZ,List.set]
 have Pr:=(iD z1).2.1
 cases c3:A0 e.insts.length 6
 ·have c4:B5 6 e.insts.length=false:=by simp[A0] at c3;exact e1u (by omega)
  have e1:eR e proc=0:=by simp[eR,C5,z1,q1,c2,c3,A2,ci]
  obtain⟨n,rfl,hn⟩:=Rl c2
  have hp:=hf.procs _ (List.getElem_mem hn)
  have g4:=e8t (e.procs[n]) hp.len (b6q hp.steps) vars e.now
  have g5:=Ce e hs
  have J7:e.insts.length+1≤D0:=by have:=hs.ni;unfold D0;omega
  have e3:rH e n=e.procs[n]:=by simp[rH,hn]
  have n0:A2 true=false:=rfl
  rw[e1,q1,n0,if_neg (by simp),e3]
  generalize eW (e.procs[n]) vars e.now=r at *
  obtain⟨code,c⟩:=r
  have gb:=lL code
  have Q8:=V6 (e.insts++[⟨(n:Nat),c⟩])
  rw[List.map_append] at Q8
  unfold zM
  cases q2:A0 code 0
  ·refine zB 1 ?_
   simp (maxSteps:=1000000) +contextual -dsimp [f39,g1,g4,gb,q1,q2,c2,c4,hw,G0,hn,N8,bZ,List.set]
  ·simp only[List.map_cons,List.map_nil] at Q8
   refine zB 1 ?_
   simp (maxSteps:=1000000) +contextual -dsimp [f39,g1,g4,g5,q1,q2,c2,c4,hw,G0,hn,J7,Q8,List.set]
 ·have c4:B5 6 e.insts.length=true:=by simp[A0] at c3;exact b7s (by omega)
  have e1:eR e proc=2:=by simp only[eR,z1,c2,c3];rfl
  have gb:=lL 2
  have q3:A0 2 0=false:=rfl
  rw[e1,q3]
  refine zB 1 ?_
  simp (maxSteps:=1000000) +contextual -dsimp [f39,g1,gb,q1,c2,c4,hw,G0,N8,bZ,List.set]
def I8 (e:Engine) (n:Int) (x:Inst):Inst:=⟨x.proc,fO (stepsOf e x) 30 { x.chart with now:=e.now+n }⟩
def Bd (x:Inst):Nat:=if A0 x.chart.status 1=true then 1 else 0
def bC:List Inst→Nat
 | []=>0
 | x::r=>Bd x+bC r
def qD (e:Engine) (n:Int):Int:=ci (A7 (A2 (A5 n 0 1000)) (A3 1000000 (IntKind.i64.wrap (e.now+n)))) 3
def bB (e:Engine) (n:Int):Int:=C5 (K2 e) (qD e n)
def mN (e:Engine) (n:Int):EngR:=if A2 (A0 (bB e n) 0)=true then N8 (bB e n) else ⟨0,(bC (e.insts.map (I8 e n)):Nat),⟨e.procs,e.insts.map (I8 e n),e.now+n⟩⟩
theorem a3u {e:Engine}:∀ {l:List Inst},aW e l=0→∀ x,x∈l→x.chart.now=e.now
 | [],_,x,hx=>by simp at hx
 | y::l,h,x,hx=>by
  unfold aW at h
  split at h
  ·rename_i c
   rcases List.mem_cons.1 hx with rfl | hx
   ·have c:jX e x=0:=by simpa[A0] using c
    unfold jX at c
    split at c
    ·simp at c
    ·have:=(P9 c).2
     cases q:A0 x.chart.now e.now
     ·rw[q] at this;simp[ci,A2] at this
     ·simpa[A0] using q
   ·exact a3u h x hx
  ·rename_i c;rw[h] at c;exact absurd rfl c
theorem Nf {e:Engine} (h:K2 e=0):(∀ x,x∈e.insts→x.chart.now=e.now)∧0≤e.now∧e.now≤1000000:=by
 unfold K2 at h
 split at h
 ·simp at h
 ·split at h
  ·rename_i c;rw[h] at c;simp[A2,A0] at c
  ·rename_i c
   refine⟨a3u h,?_⟩
   have c:pZ e=0:=by simpa[A2,A0] using c
   unfold pZ at c
   have c:=(P9 c).2
   cases q:A5 e.now 0 1000000
   ·rw[q] at c;simp[ci,A2] at c
   ·simpa[A5,A6,B5] using q
theorem nW {e:Engine} {n:Int} (h:bB e n=0):K2 e=0∧0≤n∧n≤1000∧0≤e.now∧e.now+n≤1000000∧IntKind.i64.wrap (e.now+n)=e.now+n:=by
 obtain⟨h1,h2⟩:=P9 h
 obtain⟨_,n0,n1⟩:=Nf h1
 unfold qD at h2
 cases q:A5 n 0 1000
 ·rw[q] at h2;simp[ci,A2,A7] at h2
 ·have q:0≤n∧n≤1000:=by simpa[A5,A6,B5] using q
  have hw:IntKind.i64.wrap (e.now+n)=e.now+n:=by rw[B6]<;>omega
  rw[hw] at h2
  cases q3:A3 1000000 (e.now+n)
  ·have:¬ 1000000<e.now+n:=by simpa[A3] using q3
   exact⟨h1,q.1,q.2,n0,by omega,hw⟩
  ·rw[q3] at h2;simp[ci,A7] at h2
theorem Fv {e:Engine} {n:Int} (h:bB e n=0) {x:Inst} (hx:x∈e.insts):
  ∃ (a:Nat) (ha:a<e.procs.length),x.proc=a∧stepsOf e x=e.procs[a]∧Inv (e.procs[a]) x.chart∧Wf (e.procs[a])∧DueOk (e.procs[a]) x.chart∧x.chart.now=e.now∧wA (e.procs[a]) x.chart (e.now+n)=(0,(I8 e n x).chart):=by
 obtain⟨h1,h2,h3,h4,h5,h6⟩:=nW h
 obtain⟨_,_,hi⟩:=iD h1
 obtain⟨hn,_,_⟩:=Nf h1
 obtain⟨⟨a,ha,hp⟩,hc⟩:=hi x hx
 have e2:stepsOf e x=e.procs[a]:=by simp[stepsOf,hp,ha]
 rw[e2] at hc
 obtain⟨i1,w,_,_⟩:=jU hc
 have dZ:=hn x hx
 refine⟨a,ha,hp,e2,i1,w,Vn hc,dZ,?_⟩
 have:A5 (e.now+n) e.now 1000000=true:=by simp[A5,A6,B5];omega
 unfold wA tF I8
 rw[hc,dZ,this,e2]
 rfl
abbrev Gy:List T:=[vI 0,vI 0,.own 160 [],.own 163 [],vI 0]
abbrev Tb (k:Nat) (ps:List (List Step)) (xs:List Inst) (now:Int):List T:=[vI 0,vI k,.own 160 (ps.map L1),.own 163 (xs.map P8),vI now]
theorem Rt (e:Engine) (n:Int) (hz:bB e n=0):∀ (rest:List Inst) (i k:Nat) (es:List Inst),e.insts.drop i=rest→es.length=e.insts.length→es.drop i=rest→k≤i→
  B7 E (orc E) (51:Nat) (rest.length+1) (C1 f51 0) ⟨75,[(1,vI n),(2,.ptr 2 1 [] 0),(4,.ptr 4 1 [] 0),(6,.ptr 6 1 [] 0),(7,vI i)],[(2,⟨1,1,true,eT e⟩),(4,⟨1,1,true,Gy⟩),(6,⟨1,1,true,Tb k e.procs es (e.now+n)⟩)],2⟩=
  some (.exit 0,⟨75,[(1,vI n),(2,.ptr 2 1 [] 0),(4,.ptr 4 1 [] 0),(6,.ptr 6 1 [] 0),(7,vI (i+rest.length:Nat)),(39,vB false)],[(2,⟨1,1,true,eT e⟩),(4,⟨1,1,true,Gy⟩),(6,⟨1,1,true,Tb (k+bC (rest.map (I8 e n))) e.procs (es.take i++rest.map (I8 e n)) (e.now+n)⟩)],2⟩)
 | [],i,k,es,h,hl,hd,hk=>by
  have G5:e.insts.length≤i:=by simpa using h
  have A1:A3 (i:Int) (e.insts.length:Int)=false:=C9 (by omega)
  have ht:es.take i=es:=List.take_of_length_le (by omega)
  rw[D5]
  simp +contextual -dsimp [f51,A1,ht,bC]
 | x::rest,i,k,es,h,hl,hd,hk=>by
  obtain⟨hi,hc,hr⟩:=F6 h
  obtain⟨F8,P5,S0⟩:=F6 hd
  obtain⟨h1,h2,h3,h4,h5,h6⟩:=nW hz
  have hn6:=(iD h1).2.1
  obtain⟨a,ha,hp,e2,i1,w,du,dZ,_⟩:=Fv hz (x:=x) (by rw[←hc];exact List.getElem_mem _)
  have g:=d7e w x.chart i1 du (e.now+n) (by omega) h5
  have A1:A3 (i:Int) (e.insts.length:Int)=true:=F5 (by omega)
  have hw:IntKind.i64.wrap ((i:Int)+1)=((i+1:Nat):Int):=by rw[B6]<;>omega
  have Q2:IntKind.i64.wrap ((k:Int)+1)=((k+1:Nat):Int):=by rw[B6]<;>omega
  have he:i+1+rest.length=i+(rest.length+1):=by omega
  have rC:es.set i (I8 e n x)=es.set i ⟨x.proc,(I8 e n x).chart⟩:=rfl
  have I4:(es.set i (I8 e n x)).take (i+1)=es.take i++[I8 e n x]:=by
   rw[List.take_add_one,List.take_set_of_le (Nat.le_refl _)]
   simp[F8]
  have F4:(I8 e n x).chart=fO (e.procs[a]) 30 { x.chart with now:=e.now+n }:=by simp only[I8,e2]
  rw[←F4] at g
  have lA:(I8 e n x).proc=x.proc:=rfl
  cases q:A0 (I8 e n x).chart.status 1
  ·have ih:=Rt e n hz rest (i+1) k (es.set i (I8 e n x)) hr (by simpa using hl) (by rw[List.drop_set_of_lt (by omega)];exact S0) (by omega)
   have sP:k+bC (rest.map (I8 e n))=k+bC ((x::rest).map (I8 e n)):=by simp only[List.map_cons,bC,Bd,q];simp
   rw[he,I4,List.append_assoc,sP] at ih
   refine D6 ?_ (by simpa only[List.length_cons,List.map_cons,List.singleton_append] using ih)
   generalize I8 e n x=x' at *
   obtain⟨p',c'⟩:=x'
   simp only at *
   subst lA
   simp (maxSteps:=1000000) +contextual -dsimp [f51,A1,hi,F8,hc,P5,hl,hp,ha,hw,h6,g,q,List.map_set,List.set]
  ·have ih:=Rt e n hz rest (i+1) (k+1) (es.set i (I8 e n x)) hr (by simpa using hl) (by rw[List.drop_set_of_lt (by omega)];exact S0) (by omega)
   have sP:k+1+bC (rest.map (I8 e n))=k+bC ((x::rest).map (I8 e n)):=by simp only[List.map_cons,bC,Bd,q];simp;omega
   rw[he,I4,List.append_assoc,sP] at ih
   refine D6 ?_ (by simpa only[List.length_cons,List.map_cons,List.singleton_append] using ih)
   generalize I8 e n x=x' at *
   obtain⟨p',c'⟩:=x'
   simp only at *
   subst lA
   simp (maxSteps:=1000000) +contextual -dsimp [f51,A1,hi,F8,hc,P5,hl,hp,ha,hw,Q2,h6,g,q,List.map_set,List.set]
theorem e9d {e:Engine} (h:K2 e=0) (n:Int):A7 (A2 (A5 n 0 1000)) (A2 (A5 (IntKind.i64.wrap (e.now+n)) 0 1000000))=A7 (A2 (A5 n 0 1000)) (A3 1000000 (IntKind.i64.wrap (e.now+n))):=by
 obtain⟨_,n0,n1⟩:=Nf h
 cases q:A5 n 0 1000
 ·rfl
 ·have q:0≤n∧n≤1000:=by simpa[A5,A6,B5] using q
  have hw:IntKind.i64.wrap (e.now+n)=e.now+n:=by rw[B6]<;>omega
  rw[hw]
  congr 1
  rw[Bool.eq_iff_iff]
  simp[A2,A5,A6,B5,A3]
  omega
theorem e7g (e:Engine) (hf:FitE e) (hs:SmE e) (n:Int):fo 51 [A (.agg (eT e)),A (vI n)]=some (iT (mN e n)):=by
 have g1:=Gk e [] hf
 rw[Cj] at g1
 unfold mN
 cases q:A0 (K2 e) 0
 ·have e1:bB e n=K2 e:=by simp[bB,C5,q]
  have gb:=lL (K2 e)
  rw[e1,q]
  refine Pc 1 ?_
  simp (maxSteps:=1000000) +contextual -dsimp [f51,g1,gb,q,List.set]
 ·have q0:K2 e=0:=by simpa[A0] using q
  have e1:bB e n=qD e n:=by simp[bB,C5,q]
  have hg:=e9d q0 n
  rw[q0] at g1
  have q1:A0 0 0=true:=rfl
  cases q2:A7 (A2 (A5 n 0 1000)) (A3 1000000 (IntKind.i64.wrap (e.now+n)))
  ·have hz:bB e n=0:=by rw[e1];simp[qD,q2,ci]
   rw[q2] at hg
   obtain⟨h1,h2,h3,h4,h5,h6⟩:=nW hz
   rw[h6] at hg
   have gc:=Ce e hs
   have A4:=Rt e n hz e.insts 0 0 e.insts rfl rfl rfl (Nat.le_refl _)
   rw[hz,q1]
   have n0:A2 true=false:=rfl
   rw[n0,if_neg (by simp)]
   have F4:=W5 e.procs
   have Q8:=V6 (e.insts.map (I8 e n))
   rw[List.take_zero,List.nil_append,Nat.zero_add,Nat.zero_add] at A4
   generalize bC (e.insts.map (I8 e n))=lv at *
   generalize e.insts.map (I8 e n)=xs' at *
   simp only[Tb] at A4
   simp -dsimp [f51] at A4
   refine Pc (e.insts.length+1) ?_
   simp (maxSteps:=1000000) +contextual -dsimp [f51,g1,q1,G0,dD,hg,gc,h6,A4,F4,Q8,List.set]
  ·have hz:bB e n=3:=by rw[e1];simp[qD,q2,ci]
   rw[q2] at hg
   have gb:=lL 3
   rw[hz]
   have n3:A2 (A0 3 0)=true:=rfl
   rw[n3,if_pos rfl]
   refine Pc 1 ?_
   simp (maxSteps:=1000000) +contextual -dsimp [f51,g1,q1,G0,dD,hg,gb,List.set]
attribute [local simp] Ip
attribute [local simp] pE uM An
theorem c3z:fo 127 [A (.agg [.sl 160 [[.sl 124 []]],.sl 163 [],vI 0]),A (.agg [vI 0,vI 0,vI 0,.sl 2 [],.sl 2 [],.sl 2 []])]=some ⟨.sl 124 [],[],false⟩:=Gv ⟨[[]],[],0⟩ ⟨0,⟨0,0,[],[],[]⟩⟩ 0 rfl (by simp)
abbrev Jr (ps:List (List Step)) (xs:List Inst) (now:Int):List T:=[.own 160 (ps.map L1),.own 163 (xs.map P8),vI now]
theorem Ui (e:Engine) (hf:FitE e) (n:Int) (hz:bB e n=0):∀ (rest:List Inst) (i k:Nat) (es:List Inst),e.insts.drop i=rest→es.length=e.insts.length→es.drop i=rest→k≤i→
  B7 E (orc E) (52:Nat) (rest.length+1) (C1 f52 0) ⟨71,[(4,.ptr 4 1 [] 0),(6,.ptr 6 1 [] 0),(7,vI k),(38,.ref 6 1 [] 1 e.insts.length),(39,vI e.insts.length),(40,vI i)],[(4,⟨1,1,true,Gy⟩),(6,⟨1,1,true,Jr e.procs es (e.now+n)⟩)],2⟩=
  some (.exit 0,⟨71,[(4,.ptr 4 1 [] 0),(6,.ptr 6 1 [] 0),(7,vI (k+bC (rest.map (I8 e n)):Nat)),(38,.ref 6 1 [] 1 e.insts.length),(39,vI e.insts.length),(40,vI (i+rest.length:Nat)),(41,vB false)],[(4,⟨1,1,true,Gy⟩),(6,⟨1,1,true,Jr e.procs (es.take i++rest.map (I8 e n)) (e.now+n)⟩)],2⟩)
 | [],i,k,es,h,hl,hd,hk=>by
  have G5:e.insts.length≤i:=by simpa using h
  have A1:A3 (i:Int) (e.insts.length:Int)=false:=C9 (by omega)
  have ht:es.take i=es:=List.take_of_length_le (by omega)
  rw[D5]
  simp +contextual -dsimp [f52,A1,ht,bC]
 | x::rest,i,k,es,h,hl,hd,hk=>by
  obtain⟨hi,hc,hr⟩:=F6 h
  obtain⟨F8,P5,S0⟩:=F6 hd
  obtain⟨h1,h2,h3,h4,h5,h6⟩:=nW hz
  have hn6:=(iD h1).2.1
  obtain⟨a,ha,hp,e2,i1,w,du,dZ,ht⟩:=Fv hz (x:=x) (by rw[←hc];exact List.getElem_mem _)
  have Fl:=hf.procs _ (List.getElem_mem ha)
  have g:=e0l (e.procs[a]) Fl.len Fl.steps x.chart (hf.insts x (by rw[←hc];exact List.getElem_mem _)) (e.now+n)
  rw[ht] at g
  have gD:=c3z
  have A1:A3 (i:Int) (e.insts.length:Int)=true:=F5 (by omega)
  have hw:IntKind.i64.wrap ((i:Int)+1)=((i+1:Nat):Int):=by rw[B6]<;>omega
  have he:i+1+rest.length=i+(rest.length+1):=by omega
  have I4:(es.set i (I8 e n x)).take (i+1)=es.take i++[I8 e n x]:=by
   rw[List.take_add_one,List.take_set_of_le (Nat.le_refl _)]
   simp[F8]
  have lA:(I8 e n x).proc=x.proc:=rfl
  have aA:=Ip (e.procs[a])
  cases q:A0 (I8 e n x).chart.status 1
  ·have ih:=Ui e hf n hz rest (i+1) k (es.set i (I8 e n x)) hr (by simpa using hl) (by rw[List.drop_set_of_lt (by omega)];exact S0) (by omega)
   have sP:k+bC (rest.map (I8 e n))=k+bC ((x::rest).map (I8 e n)):=by simp only[List.map_cons,bC,Bd,q];simp
   have Q2:IntKind.i64.wrap ((k:Int))=(k:Int):=by rw[B6]<;>omega
   rw[he,I4,List.append_assoc,sP] at ih
   refine D6 ?_ (by simpa only[List.length_cons,List.map_cons,List.singleton_append] using ih)
   generalize I8 e n x=x' at *
   obtain⟨p',c'⟩:=x'
   simp only at *
   subst lA
   simp (maxSteps:=1000000) +contextual -dsimp [f52,A1,hi,F8,hc,P5,hl,hp,ha,hw,Q2,h6,g,gD,aA,O4,ci,q,List.map_set,List.set]
  ·have ih:=Ui e hf n hz rest (i+1) (k+1) (es.set i (I8 e n x)) hr (by simpa using hl) (by rw[List.drop_set_of_lt (by omega)];exact S0) (by omega)
   have sP:k+1+bC (rest.map (I8 e n))=k+bC ((x::rest).map (I8 e n)):=by simp only[List.map_cons,bC,Bd,q];simp;omega
   have Q2:IntKind.i64.wrap ((k:Int)+1)=((k+1:Nat):Int):=by rw[B6]<;>omega
   rw[he,I4,List.append_assoc,sP] at ih
   refine D6 ?_ (by simpa only[List.length_cons,List.map_cons,List.singleton_append] using ih)
   generalize I8 e n x=x' at *
   obtain⟨p',c'⟩:=x'
   simp only at *
   subst lA
   simp (maxSteps:=1000000) +contextual -dsimp [f52,A1,hi,F8,hc,P5,hl,hp,ha,hw,Q2,h6,g,gD,aA,O4,ci,q,List.map_set,List.set]
theorem d3s (e:Engine) (hf:FitE e) (hs:SmE e) (n:Int):fo 52 [A (.agg (eT e)),A (vI n)]=some (iT (mN e n)):=by
 have g1:=Fo e hf
 have g2:=Y8 (K2 e) (qD e n)
 rw[show C5 (K2 e) (qD e n)=bB e n from rfl] at g2
 have g3:=O4 (A7 (A2 (A5 n 0 1000)) (A3 1000000 (IntKind.i64.wrap (e.now+n)))) 3
 rw[show ci (A7 (A2 (A5 n 0 1000)) (A3 1000000 (IntKind.i64.wrap (e.now+n)))) 3=qD e n from rfl] at g3
 have g4:=H5 n 0 1000
 unfold mN
 cases q:A0 (bB e n) 0
 ·refine c6d 1 ?_
  simp (maxSteps:=1000000) +contextual -dsimp [f52,g1,g2,g3,g4,q,N8,bZ,List.set]
 ·have hz:bB e n=0:=by simpa[A0] using q
  obtain⟨h1,h2,h3,h4,h5,h6⟩:=nW hz
  rw[h6] at g3
  have gc:=Ia e hs
  have A4:=Ui e hf n hz e.insts 0 0 e.insts rfl rfl rfl (Nat.le_refl _)
  have F4:=W5 e.procs
  have Q8:=V6 (e.insts.map (I8 e n))
  rw[List.take_zero,List.nil_append,Nat.zero_add,Nat.zero_add] at A4
  generalize bC (e.insts.map (I8 e n))=lv at *
  generalize e.insts.map (I8 e n)=xs' at *
  simp only[Jr] at A4
  simp -dsimp [f52] at A4
  refine c6d (e.insts.length+1) ?_
  simp (maxSteps:=1000000) +contextual -dsimp [f52,g1,g2,g3,g4,q,gc,h6,A4,F4,Q8,List.set]
end Go.TM.Ft
