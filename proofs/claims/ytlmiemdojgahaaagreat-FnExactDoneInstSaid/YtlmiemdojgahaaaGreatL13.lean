/- What functions of the program come to, by the machine. -/
import Derived.Test.YtlmiemdojgahaaaGreatL12
import Derived.Test.YtlmiemdojgahaaaGreatL11
import Derived.Test.YtlmiemdojgahaaaGreatL1
set_option linter.unusedSimpArgs false
set_option linter.unusedVariables false
namespace Go.TM.Ft
open Go Go.TM Go.Proofs
set_option maxRecDepth 20000
attribute [local congr] gif_cg
attribute [local simp] footOf noClash clash upsets setsHit setHits layHits layMeets setsMeet evFeet seal4_iE seal4_set clean_iE osealed_Node oclean_Node
theorem one_nT (l:List Node):((l.map nT).all fun c=>c.all one1)=true:=by
 rw [List.all_eq_true]; intro c hc; obtain ⟨x,_,rfl⟩:=List.mem_map.1 hc; rfl
theorem f_CloneN (l:List Node) (hl:l.length≤1048576):fo 285 [A (nS 219 l)]=some ⟨.own 219 (l.map nT),[],true⟩:=by
 refine orc_ext (g:=cloneT 219) rfl ?_
 have h1:=one_nT l
 have h2:=elems_le hl
 simp only [cloneT]
 rw [if_pos ⟨trivial,h1,by simpa using h2⟩,oclean_Node]
theorem foldI_snoc {α:Type}:∀ (r:List α) (i:Nat) (acc:List α),foldI (fun _ acc x=>acc++[x]) i acc r=acc++r
 | [],_,acc=>by simp [foldI]
 | x::r,i,acc=>by simp only [foldI]; rw [foldI_snoc r]; simp
def SmS (s:Step):Prop:=s.cond.length≤1048576∧s.expr.length≤1048576
set_option maxHeartbeats 4000000 in
theorem lp246 (l:List Step) (hl:l.length≤1048576) (hf:∀ s,s∈l→SmS s):
  evLoop E (orc E) (246:Nat) (l.length+1) (loopOf Tryz.f246 0) ⟨27,[(3,.ref 3 1 [] 0 0),(7,.sl 124 (l.map (sT 219))),(8,vI l.length),(9,vI (0:Nat))],[(3,⟨1,1,false,[.own 124 []]⟩)],2⟩=
  some (.exit 0,⟨27,[(3,.ref 3 1 [] 0 l.length),(7,.sl 124 (l.map (sT 219))),(8,vI l.length),(9,vI l.length),(10,vB false)],[(3,⟨1,1,false,[.own 124 (l.map StepO)]⟩)],2⟩):=by
 have h:=loop_all (σ:=List Step) (f:=246) (id:=0) (code:=loopOf Tryz.f246 0) l (fun i acc=>acc.length=i)
  (fun i acc=>⟨27,[(3,.ref 3 1 [] 0 acc.length),(7,.sl 124 (l.map (sT 219))),(8,vI l.length),(9,vI i)],[(3,⟨1,1,false,[.own 124 (acc.map StepO)]⟩)],2⟩) (fun _ acc x=>acc++[x])
  (fun acc=>⟨27,[(3,.ref 3 1 [] 0 acc.length),(7,.sl 124 (l.map (sT 219))),(8,vI l.length),(9,vI l.length),(10,vB false)],[(3,⟨1,1,false,[.own 124 (acc.map StepO)]⟩)],2⟩)
 have h2:=h ?_ ?_ [] rfl
 ·rw [foldI_snoc] at h2; simpa using h2
 ·intro k acc _
  have hlt:=ltN_f l.length
  simp +contextual -dsimp [Tryz.f246,hlt]
 ·intro k i acc hi hI
  have hlt:=ltN_t hi
  have hw:=wrap1 hi (by omega)
  have hcap:acc.length+1≤maxElems:=by unfold maxElems; omega
  have hs:=hf l[i] (List.getElem_mem hi)
  have g1:=f_CloneN l[i].cond hs.1
  have g2:=f_CloneN l[i].expr hs.2
  refine ⟨?_,by simp [hI]⟩
  simp (maxSteps:=1000000) +contextual -dsimp [Tryz.f246,hlt,hi,hw,g1,g2,hcap,List.set]
theorem f_cloneSteps (l:List Step) (hl:l.length≤1048576) (hf:∀ s,s∈l→SmS s):fo 246 [A (.sl 124 (l.map (sT 219)))]=some ⟨.own 124 (l.map StepO),[],true⟩:=by
 have hlp:=lp246 l hl hf
 have hcl:=oclean_Step l
 refine orc_246 (l.length+1) ?_
 simp -dsimp [Tryz.f246] at hlp
 simp (maxSteps:=1000000) +contextual -dsimp [Tryz.f246,hlp,hcl,List.set]
set_option maxHeartbeats 4000000 in
theorem lp242 (l:List Step) (hl:l.length≤1048576) (hf:∀ s,s∈l→SmS s):
  evLoop E (orc E) (242:Nat) (l.length+1) (loopOf Tryz.f242 0) ⟨32,[(0,.sl 124 (l.map (sT 219))),(3,.ref 3 1 [] 0 0),(4,vI (0:Nat))],[(3,⟨1,1,false,[.own 124 []]⟩)],2⟩=
  some (.exit 0,⟨32,[(0,.sl 124 (l.map (sT 219))),(3,.ref 3 1 [] 0 l.length),(4,vI l.length),(10,vB false)],[(3,⟨1,1,false,[.own 124 (l.map StepO)]⟩)],2⟩):=by
 have h:=loop_all (σ:=List Step) (f:=242) (id:=0) (code:=loopOf Tryz.f242 0) l (fun i acc=>acc.length=i)
  (fun i acc=>⟨32,[(0,.sl 124 (l.map (sT 219))),(3,.ref 3 1 [] 0 acc.length),(4,vI i)],[(3,⟨1,1,false,[.own 124 (acc.map StepO)]⟩)],2⟩) (fun _ acc x=>acc++[x])
  (fun acc=>⟨32,[(0,.sl 124 (l.map (sT 219))),(3,.ref 3 1 [] 0 acc.length),(4,vI l.length),(10,vB false)],[(3,⟨1,1,false,[.own 124 (acc.map StepO)]⟩)],2⟩)
 have h2:=h ?_ ?_ [] rfl
 ·rw [foldI_snoc] at h2; simpa using h2
 ·intro k acc _
  have hlt:=ltN_f l.length
  simp +contextual -dsimp [Tryz.f242,hlt]
 ·intro k i acc hi hI
  have hlt:=ltN_t hi
  have hw:=wrap1 hi (by omega)
  have hcap:acc.length+1≤maxElems:=by unfold maxElems; omega
  have hs:=hf l[i] (List.getElem_mem hi)
  have h1:=one_nT l[i].cond
  have h2:=one_nT l[i].expr
  have h3:l[i].cond.length≤maxElems:=elems_le hs.1
  have h4:l[i].expr.length≤maxElems:=elems_le hs.2
  refine ⟨?_,by simp [hI]⟩
  simp (maxSteps:=1000000) +contextual -dsimp [Tryz.f242,hlt,hi,hw,h1,h2,h3,h4,hcap,List.set]
theorem f_l4Copy (l:List Step) (hl:l.length≤1048576) (hf:∀ s,s∈l→SmS s):fo 242 [A (.sl 124 (l.map (sT 219)))]=some ⟨.own 124 (l.map StepO),[],true⟩:=by
 have hlp:=lp242 l hl hf
 have hcl:=oclean_Step l
 refine orc_242 (l.length+1) ?_
 simp -dsimp [Tryz.f242] at hlp
 simp (maxSteps:=1000000) +contextual -dsimp [Tryz.f242,hlp,hcl,List.set]
abbrev SmP (p:List Step):Prop:=p.length≤1048576∧∀ s,s∈p→SmS s
set_option maxHeartbeats 4000000 in
theorem lp187 (l:List (List Step)) (hl:l.length≤1048576) (hf:∀ s,s∈l→SmP s):
  evLoop E (orc E) (187:Nat) (l.length+1) (loopOf Tryz.f187 0) ⟨22,[(3,.ref 3 1 [] 0 0),(7,.sl 160 (l.map (pT 124 219))),(8,vI l.length),(9,vI (0:Nat))],[(3,⟨1,1,false,[.own 160 []]⟩)],2⟩=
  some (.exit 0,⟨22,[(3,.ref 3 1 [] 0 l.length),(7,.sl 160 (l.map (pT 124 219))),(8,vI l.length),(9,vI l.length),(10,vB false)],[(3,⟨1,1,false,[.own 160 (l.map ProcO)]⟩)],2⟩):=by
 have h:=loop_all (σ:=List (List Step)) (f:=187) (id:=0) (code:=loopOf Tryz.f187 0) l (fun i acc=>acc.length=i)
  (fun i acc=>⟨22,[(3,.ref 3 1 [] 0 acc.length),(7,.sl 160 (l.map (pT 124 219))),(8,vI l.length),(9,vI i)],[(3,⟨1,1,false,[.own 160 (acc.map ProcO)]⟩)],2⟩) (fun _ acc x=>acc++[x])
  (fun acc=>⟨22,[(3,.ref 3 1 [] 0 acc.length),(7,.sl 160 (l.map (pT 124 219))),(8,vI l.length),(9,vI l.length),(10,vB false)],[(3,⟨1,1,false,[.own 160 (acc.map ProcO)]⟩)],2⟩)
 have h2:=h ?_ ?_ [] rfl
 ·rw [foldI_snoc] at h2; simpa using h2
 ·intro k acc _
  have hlt:=ltN_f l.length
  simp +contextual -dsimp [Tryz.f187,hlt]
 ·intro k i acc hi hI
  have hlt:=ltN_t hi
  have hw:=wrap1 hi (by omega)
  have hcap:acc.length+1≤maxElems:=by unfold maxElems; omega
  have hs:=hf l[i] (List.getElem_mem hi)
  have g1:=f_cloneSteps l[i] hs.1 hs.2
  refine ⟨?_,by simp [hI]⟩
  simp (maxSteps:=1000000) +contextual -dsimp [Tryz.f187,hlt,hi,hw,g1,hcap,List.set]
theorem f_cloneProcs (l:List (List Step)) (hl:l.length≤1048576) (hf:∀ s,s∈l→SmP s):fo 187 [A (.sl 160 (l.map (pT 124 219)))]=some ⟨.own 160 (l.map ProcO),[],true⟩:=by
 have hlp:=lp187 l hl hf
 have hcl:=oclean_Proc l
 refine orc_187 (l.length+1) ?_
 simp -dsimp [Tryz.f187] at hlp
 simp (maxSteps:=1000000) +contextual -dsimp [Tryz.f187,hlp,hcl,List.set]
set_option maxHeartbeats 4000000 in
theorem lp182 (l:List (List Step)) (hl:l.length≤1048576) (hf:∀ s,s∈l→SmP s):
  evLoop E (orc E) (182:Nat) (l.length+1) (loopOf Tryz.f182 0) ⟨23,[(0,.sl 160 (l.map (pT 124 219))),(3,.ref 3 1 [] 0 0),(4,vI (0:Nat))],[(3,⟨1,1,false,[.own 160 []]⟩)],2⟩=
  some (.exit 0,⟨23,[(0,.sl 160 (l.map (pT 124 219))),(3,.ref 3 1 [] 0 l.length),(4,vI l.length),(9,vB false)],[(3,⟨1,1,false,[.own 160 (l.map ProcO)]⟩)],2⟩):=by
 have h:=loop_all (σ:=List (List Step)) (f:=182) (id:=0) (code:=loopOf Tryz.f182 0) l (fun i acc=>acc.length=i)
  (fun i acc=>⟨23,[(0,.sl 160 (l.map (pT 124 219))),(3,.ref 3 1 [] 0 acc.length),(4,vI i)],[(3,⟨1,1,false,[.own 160 (acc.map ProcO)]⟩)],2⟩) (fun _ acc x=>acc++[x])
  (fun acc=>⟨23,[(0,.sl 160 (l.map (pT 124 219))),(3,.ref 3 1 [] 0 acc.length),(4,vI l.length),(9,vB false)],[(3,⟨1,1,false,[.own 160 (acc.map ProcO)]⟩)],2⟩)
 have h2:=h ?_ ?_ [] rfl
 ·rw [foldI_snoc] at h2; simpa using h2
 ·intro k acc _
  have hlt:=ltN_f l.length
  simp +contextual -dsimp [Tryz.f182,hlt]
 ·intro k i acc hi hI
  have hlt:=ltN_t hi
  have hw:=wrap1 hi (by omega)
  have hcap:acc.length+1≤maxElems:=by unfold maxElems; omega
  have hs:=hf l[i] (List.getElem_mem hi)
  have g1:=f_l4Copy l[i] hs.1 hs.2
  refine ⟨?_,by simp [hI]⟩
  simp (maxSteps:=1000000) +contextual -dsimp [Tryz.f182,hlt,hi,hw,g1,hcap,List.set]
theorem f_l11Copies (l:List (List Step)) (hl:l.length≤1048576) (hf:∀ s,s∈l→SmP s):fo 182 [A (.sl 160 (l.map (pT 124 219)))]=some ⟨.own 160 (l.map ProcO),[],true⟩:=by
 have hlp:=lp182 l hl hf
 have hcl:=oclean_Proc l
 refine orc_182 (l.length+1) ?_
 simp -dsimp [Tryz.f182] at hlp
 simp (maxSteps:=1000000) +contextual -dsimp [Tryz.f182,hlp,hcl,List.set]
structure SmE (e:Engine):Prop where
 np:e.procs.length≤1048576
 ni:e.insts.length≤1048576
 procs:∀ p,p∈e.procs→SmP p
 insts:∀ x,x∈e.insts→Few x.chart
abbrev z59:List T:=[.own 160 [],.own 163 [],vI 0]
set_option maxHeartbeats 4000000 in
theorem lp116 (e:Engine) (h:SmE e):
  evLoop E (orc E) (116:Nat) (e.insts.length+1) (loopOf Tryz.f116 0) ⟨32,[(2,.ptr 2 1 [] 0),(3,.ptr 3 1 [] 0),(13,.sl 163 (e.insts.map xT)),(14,vI e.insts.length),(15,vI (0:Nat))],[(1,⟨1,1,true,eT e⟩),(2,⟨1,1,true,z59⟩),(3,⟨1,1,true,[.own 160 (e.procs.map ProcO),.own 163 [],vI e.now]⟩)],2⟩=
  some (.exit 0,⟨32,[(2,.ptr 2 1 [] 0),(3,.ptr 3 1 [] 0),(13,.sl 163 (e.insts.map xT)),(14,vI e.insts.length),(15,vI e.insts.length),(16,vB false)],[(1,⟨1,1,true,eT e⟩),(2,⟨1,1,true,z59⟩),(3,⟨1,1,true,EngineO e⟩)],2⟩):=by
 have hl:=h.ni
 have hh:=loop_all (σ:=List Inst) (f:=116) (id:=0) (code:=loopOf Tryz.f116 0) e.insts (fun i acc=>acc.length=i)
  (fun i acc=>⟨32,[(2,.ptr 2 1 [] 0),(3,.ptr 3 1 [] 0),(13,.sl 163 (e.insts.map xT)),(14,vI e.insts.length),(15,vI i)],[(1,⟨1,1,true,eT e⟩),(2,⟨1,1,true,z59⟩),(3,⟨1,1,true,[.own 160 (e.procs.map ProcO),.own 163 (acc.map InstO),vI e.now]⟩)],2⟩) (fun _ acc x=>acc++[x])
  (fun acc=>⟨32,[(2,.ptr 2 1 [] 0),(3,.ptr 3 1 [] 0),(13,.sl 163 (e.insts.map xT)),(14,vI e.insts.length),(15,vI e.insts.length),(16,vB false)],[(1,⟨1,1,true,eT e⟩),(2,⟨1,1,true,z59⟩),(3,⟨1,1,true,[.own 160 (e.procs.map ProcO),.own 163 (acc.map InstO),vI e.now]⟩)],2⟩)
 have h2:=hh ?_ ?_ [] rfl
 ·rw [foldI_snoc] at h2; simpa using h2
 ·intro k acc _
  have hlt:=ltN_f e.insts.length
  simp +contextual -dsimp [Tryz.f116,hlt]
 ·intro k i acc hi hI
  have hlt:=ltN_t hi
  have hw:=wrap1 hi (by omega)
  have hcap:acc.length+1≤maxElems:=by unfold maxElems; omega
  have g1:=f_cloneC e.insts[i].chart (h.insts _ (List.getElem_mem hi))
  refine ⟨?_,by simp [hI]⟩
  simp (maxSteps:=1000000) +contextual -dsimp [Tryz.f116,hlt,hi,hw,g1,hcap,List.set]
theorem f_cloneE (e:Engine) (h:SmE e):fo 116 [A (.agg (eT e))]=some ⟨.agg (EngineO e),[],true⟩:=by
 have hlp:=lp116 e h
 have hcl:=oclean_Proc e.procs
 have hcl2:=oclean_Inst e.insts
 have g1:=f_cloneProcs e.procs h.np h.procs
 refine orc_116 (e.insts.length+1) ?_
 simp -dsimp [Tryz.f116] at hlp
 simp (maxSteps:=1000000) +contextual -dsimp [Tryz.f116,hlp,hcl,hcl2,g1,List.set]
set_option maxHeartbeats 4000000 in
theorem lp110 (e:Engine) (h:SmE e):
  evLoop E (orc E) (110:Nat) (e.insts.length+1) (loopOf Tryz.f110 0) ⟨38,[(1,.ptr 1 1 [] 0),(2,.ptr 2 1 [] 0),(3,.ptr 3 1 [] 0),(4,vI (0:Nat))],[(1,⟨1,1,true,eT e⟩),(2,⟨1,1,true,z59⟩),(3,⟨1,1,true,[.own 160 (e.procs.map ProcO),.own 163 [],vI e.now]⟩)],2⟩=
  some (.exit 0,⟨38,[(1,.ptr 1 1 [] 0),(2,.ptr 2 1 [] 0),(3,.ptr 3 1 [] 0),(4,vI e.insts.length),(15,vB false)],[(1,⟨1,1,true,eT e⟩),(2,⟨1,1,true,z59⟩),(3,⟨1,1,true,EngineO e⟩)],2⟩):=by
 have hl:=h.ni
 have hh:=loop_all (σ:=List Inst) (f:=110) (id:=0) (code:=loopOf Tryz.f110 0) e.insts (fun i acc=>acc.length=i)
  (fun i acc=>⟨38,[(1,.ptr 1 1 [] 0),(2,.ptr 2 1 [] 0),(3,.ptr 3 1 [] 0),(4,vI i)],[(1,⟨1,1,true,eT e⟩),(2,⟨1,1,true,z59⟩),(3,⟨1,1,true,[.own 160 (e.procs.map ProcO),.own 163 (acc.map InstO),vI e.now]⟩)],2⟩) (fun _ acc x=>acc++[x])
  (fun acc=>⟨38,[(1,.ptr 1 1 [] 0),(2,.ptr 2 1 [] 0),(3,.ptr 3 1 [] 0),(4,vI e.insts.length),(15,vB false)],[(1,⟨1,1,true,eT e⟩),(2,⟨1,1,true,z59⟩),(3,⟨1,1,true,[.own 160 (e.procs.map ProcO),.own 163 (acc.map InstO),vI e.now]⟩)],2⟩)
 have h2:=hh ?_ ?_ [] rfl
 ·rw [foldI_snoc] at h2; simpa using h2
 ·intro k acc _
  have hlt:=ltN_f e.insts.length
  simp +contextual -dsimp [Tryz.f110,hlt]
 ·intro k i acc hi hI
  have hlt:=ltN_t hi
  have hw:=wrap1 hi (by omega)
  have hcap:acc.length+1≤maxElems:=by unfold maxElems; omega
  have g1:=f_l9Copy e.insts[i].chart (h.insts _ (List.getElem_mem hi))
  refine ⟨?_,by simp [hI]⟩
  simp (maxSteps:=1000000) +contextual -dsimp [Tryz.f110,hlt,hi,hw,g1,hcap,List.set]
theorem f_l11Copy (e:Engine) (h:SmE e):fo 110 [A (.agg (eT e))]=some ⟨.agg (EngineO e),[],true⟩:=by
 have hlp:=lp110 e h
 have hcl:=oclean_Proc e.procs
 have hcl2:=oclean_Inst e.insts
 have g1:=f_l11Copies e.procs h.np h.procs
 refine orc_110 (e.insts.length+1) ?_
 simp -dsimp [Tryz.f110] at hlp
 simp (maxSteps:=1000000) +contextual -dsimp [Tryz.f110,hlp,hcl,hcl2,g1,List.set]
end Go.TM.Ft
namespace Go.TM.Ft
open Go Go.TM Go.Proofs
set_option maxRecDepth 20000
attribute [local congr] gif_cg
attribute [local simp] footOf noClash clash upsets setsHit setHits layHits layMeets setsMeet evFeet seal4_iE seal4_set clean_iE osealed_Node oclean_Node oclean_Proc oclean_Inst oclean_int
theorem fitX_of {l:List Step} (h:∀ s,s∈l→FitS s):FitX l:=fun s hs=>⟨(h s hs).name,(h s hs).cond,(h s hs).expr⟩
def noE:Engine:=⟨[],[],0⟩
def badE (k:Int):EngR:=⟨k,0,noE⟩
def putC (e:Engine) (n:Nat) (c:Chart):Engine:=match e.insts[n]? with | some x=>{ e with insts:=e.insts.set n ⟨x.proc,c⟩ } | none=>e
theorem putC_at {e:Engine} {n:Nat} {c:Chart} (hn:n < e.insts.length):putC e n c={ e with insts:=e.insts.set n ⟨(e.insts[n]).proc,c⟩ }:=by simp [putC,hn]
def putM (e:Engine) (n:Nat) (r:Int × Chart):EngR:=if notB (eqI r.1 0)=true then badE r.1 else ⟨0,r.2.status,putC e n r.2⟩
abbrev REn (r:EngR):Res:=⟨.agg (EngineResultO r),[],true⟩
abbrev aR (i:Nat) (r:Int × Chart):Arg:=⟨.agg [vI r.1,vI r.2.status,vI r.2.now,.ref i 0 [] 3 r.2.vars.length,.ref i 0 [] 4 r.2.acts.length,.ref i 0 [] 5 r.2.dues.length],some ⟨0,0,false,[.dead,.dead,.dead,.own 2 (iE r.2.vars),.own 2 (iE r.2.acts),.own 2 (iE r.2.dues)]⟩⟩
theorem f_l11Bad (k:Int):fo 108 [A (vI k)]=some (REn (badE k)):=by
 refine orc_108 1 ?_
 simp (maxSteps:=1000000) +contextual -dsimp [Tryz.f108,badE,noE,List.set]
set_option maxHeartbeats 4000000 in
theorem f_turn (e:Engine) (h:SmE e) (n:Nat) (hn:n < e.insts.length) (r:Int × Chart):fo 125 [A (.agg (eT e)),A (vI (n:Nat)),aR 2 r]=some (REn (putM e n r)):=by
 have g1:=f_cloneE e h
 have hcl:=oclean_Proc e.procs
 obtain ⟨code,c⟩:=r
 unfold putM
 simp only [putC_at hn]
 have hcl2:=oclean_Inst (e.insts.set n ⟨(e.insts[n]).proc,c⟩)
 rw [List.map_set] at hcl2
 cases q:eqI code 0
 ·refine orc_125 1 ?_
  simp (maxSteps:=1000000) +contextual -dsimp [Tryz.f125,q,badE,noE,List.set]
 ·refine orc_125 1 ?_
  simp (maxSteps:=1000000) +contextual -dsimp [Tryz.f125,q,g1,hn,hcl,hcl2,List.map_set,List.set]
set_option maxHeartbeats 4000000 in
theorem f_l11Put (e:Engine) (h:SmE e) (n:Nat) (hn:n < e.insts.length) (r:Int × Chart):fo 123 [A (.ipt (eT e)),A (vI (n:Nat)),aR 2 r]=some (REn (putM e n r)):=by
 have g1:=f_l11Copy e h
 have hcl:=oclean_Proc e.procs
 obtain ⟨code,c⟩:=r
 have g2:=f_l11Bad code
 unfold putM
 simp only [putC_at hn]
 have hcl2:=oclean_Inst (e.insts.set n ⟨(e.insts[n]).proc,c⟩)
 rw [List.map_set] at hcl2
 cases q:eqI code 0
 ·refine orc_123 1 ?_
  simp (maxSteps:=1000000) +contextual -dsimp [Tryz.f123,q,g2,badE,noE,List.set]
 ·refine orc_123 1 ?_
  simp (maxSteps:=1000000) +contextual -dsimp [Tryz.f123,q,g1,hn,hcl,hcl2,List.map_set,List.set]
def askM (e:Engine) (inst:Int):Int:=first2 (engM e) (ci (notB (inR inst 0 ((e.insts.length:Int) - 1))) 3)
theorem inR_nat {k:Int} {n:Nat} (h:inR k 0 ((n:Int) - 1)=true):∃ a:Nat,k=a∧a < n:=by
 simp [inR,andB,leI] at h
 obtain ⟨a,ha⟩:=Int.eq_ofNat_of_zero_le h.1
 exact ⟨a,ha,by omega⟩
theorem ci_not {b:Bool} {k:Int} (hk:k≠0) (h:ci (notB b) k=0):b=true:=by
 have:=ci_zero hk h
 cases b <;> simp [notB] at this ⊢
theorem askM_zero {e:Engine} {inst:Int} (h:askM e inst=0):engM e=0∧∃ n:Nat,inst=n∧n < e.insts.length:=by
 obtain ⟨h1,h2⟩:=first2_zero h
 exact ⟨h1,inR_nat (ci_not (by omega) h2)⟩
theorem f_instCode (e:Engine) (hf:FitE e) (inst:Int):fo 124 [A (.agg (eT e)),A (vI inst)]=some (R (vI (askM e inst))):=by
 have g1:=f_EngineFault e hf
 have g2:=f_isPlace inst e.insts.length hf.ni
 have g3:=f_first2 (engM e) (ci (notB (inR inst 0 ((e.insts.length:Int) - 1))) 3)
 unfold askM
 refine orc_124 1 ?_
 simp (maxSteps:=1000000) +contextual -dsimp [Tryz.f124,g1,g2,g3,f_ci,List.set]
theorem f_l11Asked (e:Engine) (hf:FitE e) (inst:Int):fo 122 [A (.ipt (eT e)),A (vI inst)]=some (R (vI (askM e inst))):=by
 have g1:=f_l11Fault e [] hf
 rw [eng_same] at g1
 have hni:=hf.ni
 have hw:IntKind.i64.wrap ((e.insts.length:Int) - 1)=(e.insts.length:Int) - 1:=by rw [wrapI] <;> omega
 unfold askM
 cases q:eqI (engM e) 0
 ·have e1:first2 (engM e) (ci (notB (inR inst 0 ((e.insts.length:Int) - 1))) 3)=engM e:=by simp [first2,q]
  rw [e1]
  refine orc_122 1 ?_
  simp (maxSteps:=1000000) +contextual -dsimp [Tryz.f122,g1,q,List.set]
 ·have q0:engM e=0:=by simpa [eqI] using q
  rw [q0]
  rw [q0] at g1
  have q1:eqI 0 0=true:=rfl
  have e1:first2 0 (ci (notB (inR inst 0 ((e.insts.length:Int) - 1))) 3)=ci (notB (inR inst 0 ((e.insts.length:Int) - 1))) 3:=by simp [first2,q1]
  rw [e1]
  cases q2:inR inst 0 ((e.insts.length:Int) - 1)
  ·refine orc_122 1 ?_
   simp (maxSteps:=1000000) +contextual -dsimp [Tryz.f122,g1,q1,q2,hw,f_l1In,ci,List.set]
  ·refine orc_122 1 ?_
   simp (maxSteps:=1000000) +contextual -dsimp [Tryz.f122,g1,q1,q2,hw,f_l1In,ci,List.set]
def mailI (e:Engine) (inst msg:Int):EngR:=
 if notB (eqI (askM e inst) 0)=true then badE (askM e inst) else putM e inst.toNat (mailM (stepsOf e (instAt e inst)) (instAt e inst).chart msg)
def doneI (e:Engine) (inst step:Int) (vars:List Int):EngR:=
 if notB (eqI (askM e inst) 0)=true then badE (askM e inst) else putM e inst.toNat (doneM (stepsOf e (instAt e inst)) (instAt e inst).chart step vars)
theorem inst_there {e:Engine} (h:engM e=0) {n:Nat} (hn:n < e.insts.length):
  ∃ (a:Nat) (ha:a < e.procs.length),(e.insts[n]).proc=a∧stepsOf e (instAt e n)=e.procs[a]∧instAt e n=e.insts[n]:=by
 obtain ⟨_,_,h3⟩:=engM_zero h
 obtain ⟨a,ha,hx,e2,_⟩:=(h3 _ (List.getElem_mem hn)).at_
 have e1:instAt e n=e.insts[n]:=by simp [instAt,hn]
 exact ⟨a,ha,hx,by rw [e1]; exact e2,e1⟩
set_option maxHeartbeats 4000000 in
theorem f_MailInst (e:Engine) (hf:FitE e) (hs:SmE e) (inst msg:Int):fo 48 [A (.agg (eT e)),A (vI inst),A (vI msg)]=some (REn (mailI e inst msg)):=by
 have g1:=f_instCode e hf inst
 unfold mailI
 cases q:eqI (askM e inst) 0
 ·refine orc_48 1 ?_
  simp (maxSteps:=1000000) +contextual -dsimp [Tryz.f48,g1,q,badE,noE,List.set]
 ·have q0:askM e inst=0:=by simpa [eqI] using q
  obtain ⟨h0,n,rfl,hn⟩:=askM_zero q0
  obtain ⟨a,ha,hx,e2,e1⟩:=inst_there h0 hn
  have hp:=hf.procs _ (List.getElem_mem ha)
  have g2:=f_steps e (e.insts[n]) a hx ha
  have g3:=f_MailChart (e.procs[a]) hp.len hp.steps (e.insts[n]).chart (hf.insts _ (List.getElem_mem hn)) msg
  rw [q0] at g1
  have n0:notB true=false:=rfl
  have q1:eqI 0 0=true:=rfl
  rw [n0,if_neg (by simp),e2,e1]
  generalize mailM (e.procs[a]) (e.insts[n]).chart msg=r at *
  have g4:=f_turn e hs n hn r
  have e3:((n:Nat):Int).toNat=n:=by omega
  rw [e3]
  obtain ⟨code,c⟩:=r
  generalize putM e n (code,c)=o at *
  refine orc_48 1 ?_
  simp (maxSteps:=1000000) +contextual -dsimp [Tryz.f48,g1,g2,g3,g4,q1,hn,List.set]
set_option maxHeartbeats 4000000 in
theorem f4_MailInst (e:Engine) (hf:FitE e) (hs:SmE e) (inst msg:Int):fo 47 [A (.agg (eT e)),A (vI inst),A (vI msg)]=some (REn (mailI e inst msg)):=by
 have g1:=f_l11Asked e hf inst
 have gb:=f_l11Bad (askM e inst)
 unfold mailI
 cases q:eqI (askM e inst) 0
 ·refine orc_47 1 ?_
  simp (maxSteps:=1000000) +contextual -dsimp [Tryz.f47,g1,gb,q,badE,noE,List.set]
 ·have q0:askM e inst=0:=by simpa [eqI] using q
  obtain ⟨h0,n,rfl,hn⟩:=askM_zero q0
  obtain ⟨a,ha,hx,e2,e1⟩:=inst_there h0 hn
  have hp:=hf.procs _ (List.getElem_mem ha)
  have g3:=f4_MailChart (e.procs[a]) hp.len (fitX_of hp.steps) (e.insts[n]).chart msg
  rw [q0] at g1
  have n0:notB true=false:=rfl
  have q1:eqI 0 0=true:=rfl
  rw [n0,if_neg (by simp),e2,e1]
  generalize mailM (e.procs[a]) (e.insts[n]).chart msg=r at *
  have g4:=f_l11Put e hs n hn r
  have e3:((n:Nat):Int).toNat=n:=by omega
  rw [e3]
  obtain ⟨code,c⟩:=r
  generalize putM e n (code,c)=o at *
  refine orc_47 1 ?_
  simp (maxSteps:=1000000) +contextual -dsimp [Tryz.f47,g1,g3,g4,q1,hn,hx,ha,List.set]
set_option maxHeartbeats 4000000 in
theorem f_DoneInst (e:Engine) (hf:FitE e) (hs:SmE e) (inst step:Int) (vars:List Int) (hv:vars.length < 2 ^ 62):fo 50 [A (.agg (eT e)),A (vI inst),A (vI step),A (iS vars)]=some (REn (doneI e inst step vars)):=by
 have g1:=f_instCode e hf inst
 unfold doneI
 cases q:eqI (askM e inst) 0
 ·refine orc_50 1 ?_
  simp (maxSteps:=1000000) +contextual -dsimp [Tryz.f50,g1,q,badE,noE,List.set]
 ·have q0:askM e inst=0:=by simpa [eqI] using q
  obtain ⟨h0,n,rfl,hn⟩:=askM_zero q0
  obtain ⟨a,ha,hx,e2,e1⟩:=inst_there h0 hn
  have hp:=hf.procs _ (List.getElem_mem ha)
  have g2:=f_steps e (e.insts[n]) a hx ha
  have g3:=f_DoneChart (e.procs[a]) hp.len hp.steps (e.insts[n]).chart (hf.insts _ (List.getElem_mem hn)) step vars hv
  rw [q0] at g1
  have n0:notB true=false:=rfl
  have q1:eqI 0 0=true:=rfl
  rw [n0,if_neg (by simp),e2,e1]
  generalize doneM (e.procs[a]) (e.insts[n]).chart step vars=r at *
  have g4:=f_turn e hs n hn r
  have e3:((n:Nat):Int).toNat=n:=by omega
  rw [e3]
  obtain ⟨code,c⟩:=r
  generalize putM e n (code,c)=o at *
  refine orc_50 1 ?_
  simp (maxSteps:=1000000) +contextual -dsimp [Tryz.f50,g1,g2,g3,g4,q1,hn,List.set]
set_option maxHeartbeats 4000000 in
theorem f4_DoneInst (e:Engine) (hf:FitE e) (hs:SmE e) (inst step:Int) (vars:List Int):fo 49 [A (.agg (eT e)),A (vI inst),A (vI step),A (iS vars)]=some (REn (doneI e inst step vars)):=by
 have g1:=f_l11Asked e hf inst
 have gb:=f_l11Bad (askM e inst)
 unfold doneI
 cases q:eqI (askM e inst) 0
 ·refine orc_49 1 ?_
  simp (maxSteps:=1000000) +contextual -dsimp [Tryz.f49,g1,gb,q,badE,noE,List.set]
 ·have q0:askM e inst=0:=by simpa [eqI] using q
  obtain ⟨h0,n,rfl,hn⟩:=askM_zero q0
  obtain ⟨a,ha,hx,e2,e1⟩:=inst_there h0 hn
  have hp:=hf.procs _ (List.getElem_mem ha)
  have g3:=f4_DoneChart (e.procs[a]) hp.len (fitX_of hp.steps) (e.insts[n]).chart step vars
  rw [q0] at g1
  have n0:notB true=false:=rfl
  have q1:eqI 0 0=true:=rfl
  rw [n0,if_neg (by simp),e2,e1]
  generalize doneM (e.procs[a]) (e.insts[n]).chart step vars=r at *
  have g4:=f_l11Put e hs n hn r
  have e3:((n:Nat):Int).toNat=n:=by omega
  rw [e3]
  obtain ⟨code,c⟩:=r
  generalize putM e n (code,c)=o at *
  refine orc_49 1 ?_
  simp (maxSteps:=1000000) +contextual -dsimp [Tryz.f49,g1,g3,g4,q1,hn,hx,ha,List.set]
def startK (e:Engine) (proc:Int):Int:=first2 (engM e) (first2 (ci (notB (inR proc 0 ((e.procs.length:Int) - 1))) 3) (ci (eqI e.insts.length 6) 2))
def procAt (e:Engine) (proc:Int):List Step:=e.procs.getD proc.toNat []
def bornM (e:Engine) (proc:Int) (r:Int × Chart):EngR:=if notB (eqI r.1 0)=true then badE r.1 else ⟨0,e.insts.length,{ e with insts:=e.insts++[⟨proc,r.2⟩] }⟩
def startI (e:Engine) (proc:Int) (vars:List Int):EngR:=
 if notB (eqI (startK e proc) 0)=true then badE (startK e proc) else bornM e proc (startM (procAt e proc) vars e.now)
theorem startK_zero {e:Engine} {proc:Int} (h:startK e proc=0):engM e=0∧(∃ n:Nat,proc=n∧n < e.procs.length)∧eqI e.insts.length 6=false:=by
 obtain ⟨h1,h2⟩:=first2_zero h
 obtain ⟨h2,h3⟩:=first2_zero h2
 have h3:=ci_zero (by omega) h3
 exact ⟨h1,inR_nat (ci_not (by omega) h2),h3⟩
set_option maxHeartbeats 4000000 in
theorem f_StartInst (e:Engine) (hf:FitE e) (hs:SmE e) (proc:Int) (vars:List Int) (hv:vars.length < 2 ^ 62):fo 41 [A (.agg (eT e)),A (vI proc),A (iS vars)]=some (REn (startI e proc vars)):=by
 have g1:=f_EngineFault e hf
 have g2:=f_isPlace proc e.procs.length hf.np
 have g3:=f_first3 (engM e) (ci (notB (inR proc 0 ((e.procs.length:Int) - 1))) 3) (ci (eqI e.insts.length 6) 2)
 rw [show first2 (engM e) (first2 (ci (notB (inR proc 0 ((e.procs.length:Int) - 1))) 3) (ci (eqI e.insts.length 6) 2))=startK e proc from rfl] at g3
 unfold startI
 cases q:eqI (startK e proc) 0
 ·refine orc_41 1 ?_
  simp (maxSteps:=1000000) +contextual -dsimp [Tryz.f41,g1,g2,g3,f_ci,q,badE,noE,List.set]
 ·have q0:startK e proc=0:=by simpa [eqI] using q
  obtain ⟨h0,⟨n,rfl,hn⟩,h6⟩:=startK_zero q0
  have hp:=hf.procs _ (List.getElem_mem hn)
  have g4:=f_StartChart (e.procs[n]) hp.len hp.steps vars hv e.now
  have g5:=f_cloneE e hs
  have hcap:e.insts.length+1≤maxElems:=by have:=hs.ni; unfold maxElems; omega
  have e3:procAt e n=e.procs[n]:=by simp [procAt,hn]
  rw [q0] at g3
  have n0:notB true=false:=rfl
  have q1:eqI 0 0=true:=rfl
  rw [n0,if_neg (by simp),e3]
  generalize startM (e.procs[n]) vars e.now=r at *
  obtain ⟨code,c⟩:=r
  have hcl2:=oclean_Inst (e.insts++[⟨(n:Nat),c⟩])
  rw [List.map_append] at hcl2
  unfold bornM
  cases q2:eqI code 0
  ·refine orc_41 1 ?_
   simp (maxSteps:=1000000) +contextual -dsimp [Tryz.f41,g1,g2,g3,g4,f_ci,q1,q2,hn,badE,noE,List.set]
  ·simp only [List.map_cons,List.map_nil] at hcl2
   refine orc_41 1 ?_
   simp (maxSteps:=1000000) +contextual -dsimp [Tryz.f41,g1,g2,g3,g4,g5,f_ci,q1,q2,hn,hcap,hcl2,List.set]
set_option maxHeartbeats 4000000 in
theorem f4_StartInst (e:Engine) (hf:FitE e) (hs:SmE e) (proc:Int) (vars:List Int):fo 39 [A (.agg (eT e)),A (vI proc),A (iS vars)]=some (REn (startI e proc vars)):=by
 have g1:=f_l11Fault e [] hf
 rw [eng_same] at g1
 have hnp:=hf.np
 have hw:IntKind.i64.wrap ((e.procs.length:Int) - 1)=(e.procs.length:Int) - 1:=by rw [wrapI] <;> omega
 have q1:eqI 0 0=true:=rfl
 unfold startI
 cases c1:eqI (engM e) 0
 ·have e1:startK e proc=engM e:=by simp [startK,first2,c1]
  have gb:=f_l11Bad (engM e)
  rw [e1,c1]
  refine orc_39 1 ?_
  simp (maxSteps:=1000000) +contextual -dsimp [Tryz.f39,g1,gb,c1,badE,noE,List.set]
 have z1:engM e=0:=by simpa [eqI] using c1
 rw [z1] at g1
 cases c2:inR proc 0 ((e.procs.length:Int) - 1)
 ·have e1:startK e proc=3:=by simp only [startK,z1,c2]; rfl
  have gb:=f_l11Bad 3
  have q3:eqI 3 0=false:=rfl
  rw [e1,q3]
  refine orc_39 1 ?_
  simp (maxSteps:=1000000) +contextual -dsimp [Tryz.f39,g1,gb,q1,c2,hw,f_l1In,badE,noE,List.set]
 have hni:=(engM_zero z1).2.1
 cases c3:eqI e.insts.length 6
 ·have c4:leI 6 e.insts.length=false:=by simp [eqI] at c3; exact leI_f (by omega)
  have e1:startK e proc=0:=by simp [startK,first2,z1,q1,c2,c3,notB,ci]
  obtain ⟨n,rfl,hn⟩:=inR_nat c2
  have hp:=hf.procs _ (List.getElem_mem hn)
  have g4:=f4_StartChart (e.procs[n]) hp.len (fitX_of hp.steps) vars e.now
  have g5:=f_l11Copy e hs
  have hcap:e.insts.length+1≤maxElems:=by have:=hs.ni; unfold maxElems; omega
  have e3:procAt e n=e.procs[n]:=by simp [procAt,hn]
  have n0:notB true=false:=rfl
  rw [e1,q1,n0,if_neg (by simp),e3]
  generalize startM (e.procs[n]) vars e.now=r at *
  obtain ⟨code,c⟩:=r
  have gb:=f_l11Bad code
  have hcl2:=oclean_Inst (e.insts++[⟨(n:Nat),c⟩])
  rw [List.map_append] at hcl2
  unfold bornM
  cases q2:eqI code 0
  ·refine orc_39 1 ?_
   simp (maxSteps:=1000000) +contextual -dsimp [Tryz.f39,g1,g4,gb,q1,q2,c2,c4,hw,f_l1In,hn,badE,noE,List.set]
  ·simp only [List.map_cons,List.map_nil] at hcl2
   refine orc_39 1 ?_
   simp (maxSteps:=1000000) +contextual -dsimp [Tryz.f39,g1,g4,g5,q1,q2,c2,c4,hw,f_l1In,hn,hcap,hcl2,List.set]
 ·have c4:leI 6 e.insts.length=true:=by simp [eqI] at c3; exact leI_t (by omega)
  have e1:startK e proc=2:=by simp only [startK,z1,c2,c3]; rfl
  have gb:=f_l11Bad 2
  have q3:eqI 2 0=false:=rfl
  rw [e1,q3]
  refine orc_39 1 ?_
  simp (maxSteps:=1000000) +contextual -dsimp [Tryz.f39,g1,gb,q1,c2,c4,hw,f_l1In,badE,noE,List.set]
end Go.TM.Ft
namespace Go.TM.Ft
open Go Go.TM Go.Proofs
section
variable (P:Program) (t:TypeId) (x y:Operand)
theorem pr_cvt (a:Int):pureRun Tryz.prog (convert 3 5 (.int .i64 a))=some (.int .u8 (IntKind.u8.wrap a)):=by kernel_rfl
theorem pr_u8:pureRun Tryz.prog (isU8Slice 88 9)=some true:=by kernel_rfl
end
end Go.TM.Ft
namespace Go.TM.Ft
open Go Go.TM Go.Proofs
set_option maxRecDepth 20000
attribute [local congr] gif_cg
attribute [local simp] footOf noClash clash upsets setsHit setHits layHits layMeets setsMeet evFeet
section
variable (P:Program) (t:TypeId) (x y:Operand)
theorem pr_rem10 (a:Int):pureRun P (do eqGuard .rem t x y (.int .i64 a) (.int .i64 10); binOp .rem t (.int .i64 a) (.int .i64 10))=some (.int .i64 (Int.tmod a 10)):=rfl
theorem pr_quo10 (a:Int):pureRun P (do eqGuard .quo t x y (.int .i64 a) (.int .i64 10); binOp .quo t (.int .i64 a) (.int .i64 10))=some (.int .i64 (IntKind.i64.wrap (Int.tdiv a 10))):=pr_quoX P t x y a 10 (by omega)
theorem pr_addS (a b:ByteArray) (h:a.size+b.size < 2 ^ 62):pureRun P (do eqGuard .add t x y (.string a) (.string b); binOp .add t (.string a) (.string b))=some (.string (a++b)):=by
 have e:¬ (((a.size+b.size:Nat):Int) > IntKind.i64.max):=by
  have:IntKind.i64.max=9223372036854775807:=rfl
  rw [this]; omega
 unfold binOp
 simp only [eqGuard,Op.stringOp,if_neg e]
 rfl
end
theorem lp85:∀ (f:Nat) (k:Int) (out:ByteArray),0≤k→k < 10 ^ f→k < 2 ^ 61→out.size+f≤100→
  ∃ s:ByteArray,s.size≤100∧evLoop E (orc E) (85:Nat) (f+1) (loopOf Tryz.f85 0) ⟨20,[(0,vI k),(3,vS out)],[],2⟩=some (.exit 0,⟨20,[(0,vI 0),(3,vS s),(7,vB false)],[],2⟩)
 | f,k,out,h0,h1,h2,h3=>by
  rcases Int.lt_or_eq_of_le h0 with hk | hk
  ·match f with
   | 0=>simp at h1; omega
   | f+1=>
    have hlt:ltI 0 k=true:=ltI_t hk
    have hm0:0≤k.tmod 10:=Int.tmod_nonneg _ h0
    have hm1:k.tmod 10 < 10:=Int.tmod_lt_of_pos _ (by omega)
    have w:IntKind.i64.wrap (48+k.tmod 10)=48+k.tmod 10:=by rw [wrapI] <;> omega
    have ed:k.tdiv 10=k / 10:=Int.tdiv_eq_ediv_of_nonneg h0
    have hd0:0≤k.tdiv 10:=by rw [ed]; omega
    have hd1:k.tdiv 10 < 10 ^ f:=by rw [ed]; rw [Int.pow_succ] at h1; omega
    have hd2:k.tdiv 10 < 2 ^ 61:=by rw [ed]; omega
    have w2:IntKind.i64.wrap (k.tdiv 10)=k.tdiv 10:=by rw [wrapI] <;> omega
    obtain ⟨b,w3⟩:∃ b,IntKind.u8.wrap (48+k.tmod 10)=b:=⟨_,rfl⟩
    have hs:(⟨#[UInt8.ofNat b.toNat]⟩:ByteArray).size=1:=rfl
    have hsz:((⟨#[UInt8.ofNat b.toNat]⟩:ByteArray)++out).size=1+out.size:=by rw [ByteArray.size_append,hs]
    obtain ⟨s,g1,g2⟩:=lp85 f (k.tdiv 10) (⟨#[UInt8.ofNat b.toNat]⟩++out) hd0 hd1 hd2 (by rw [hsz]; omega)
    have p1:=pr_rem10 Tryz.prog 3 (.tmp 8) (.const (.int .i64 10)) k
    have p2:=pr_quo10 Tryz.prog 3 (.tmp 16) (.const (.int .i64 10)) k
    have p3:=pr_addS Tryz.prog 9 (.tmp 13) (.tmp 14) ⟨#[UInt8.ofNat b.toNat]⟩ out (by rw [hs]; omega)
    refine ⟨s,g1,evLoop_next ?_ g2⟩
    generalize (⟨#[UInt8.ofNat b.toNat]⟩:ByteArray)++out=out' at *
    generalize k.tdiv 10=d at *
    simp (maxSteps:=1000000) +contextual -dsimp [Tryz.f85,hlt,p1,p2,p3,pr_cvt,pr_u8,w,w2,w3,bytesOfT,List.set]
  ·subst hk
   have hlt:ltI 0 0=false:=rfl
   refine ⟨out,by omega,evLoop_out ?_ (by simp)⟩
   simp (maxSteps:=1000000) +contextual -dsimp [Tryz.f85,hlt,List.set]
theorem markText_ex (k:Int) (h0:0≤k) (h1:k < 2 ^ 61):∃ s:ByteArray,fo 85 [A (vI k)]=some (R (vS s)):=by
 cases q:leI k 0
 ·obtain ⟨s,h2,h3⟩:=lp85 20 k ⟨#[]⟩ h0 (by omega) h1 (by show 0+20≤100; omega)
  have hs:(⟨#[109]⟩:ByteArray).size=1:=rfl
  have p3:=pr_addS Tryz.prog 9 (.const (.string ⟨#[109]⟩)) (.tmp 18) ⟨#[109]⟩ s (by rw [hs]; omega)
  refine ⟨⟨#[109]⟩++s,orc_85 21 ?_⟩
  simp -dsimp [Tryz.f85] at h3
  simp (maxSteps:=1000000) +contextual -dsimp [Tryz.f85,q,h3,p3,List.set]
 ·refine ⟨⟨#[109,48]⟩,orc_85 1 ?_⟩
  simp (maxSteps:=1000000) +contextual -dsimp [Tryz.f85,q,List.set]
open Classical in
noncomputable def mkTx (k:Int):ByteArray:=if h:∃ s:ByteArray,fo 85 [A (vI k)]=some (R (vS s)) then Classical.choose h else ⟨#[]⟩
theorem o_markText (k:Int) (h0:0≤k) (h1:k < 2 ^ 61):fo 85 [A (vI k)]=some (R (vS (mkTx k))):=by
 have h:=markText_ex k h0 h1
 unfold mkTx
 rw [dif_pos h]
 exact Classical.choose_spec h
end Go.TM.Ft
namespace Go.TM.Ft
open Go Go.TM Go.Proofs
set_option maxRecDepth 20000
attribute [local congr] gif_cg
attribute [local simp] footOf noClash clash upsets setsHit setHits layHits layMeets setsMeet evFeet
def wEngineResult (x:EngR):Nat:=wEngine x.eng
end Go.TM.Ft
