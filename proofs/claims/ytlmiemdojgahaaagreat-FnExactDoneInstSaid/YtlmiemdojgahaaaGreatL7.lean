/- What functions of the program come to, by the machine. -/
import Derived.Test.YtlmiemdojgahaaaGreatL6
import Derived.Test.YtlmiemdojgahaaaGreatL4
set_option linter.unusedSimpArgs false
set_option linter.unusedVariables false
namespace Go.TM.Ft
open Go Go.TM Go.Proofs
set_option maxRecDepth 20000
attribute [local congr] gif_cg
attribute [local simp] footOf noClash clash upsets setsHit setHits layHits layMeets setsMeet evFeet
abbrev bO (l:List Step) (c:Chart):List T:=[.sl 124 (l.map (sT 219)),vI c.status,vI c.now,.own 2 (iE c.vars),.own 2 (iE c.acts),.own 2 (iE c.dues)]
abbrev aB (l:List Step) (c:Chart):Arg:=⟨.ptr 0 0 [] 0,some ⟨0,1,true,bO l c⟩⟩
abbrev RB (l:List Step) (c:Chart):Res:=⟨.tup [],[(0,bO l c)],true⟩
def stopC (l:List Step) (st:Int) (c:Chart):Chart:={ c with status:=st,acts:=List.replicate l.length 0,dues:=List.replicate l.length 0 }
def zap (ks:List Int) (xs:List Int):List Int:=ks.foldl (fun xs k=>xs.set k.toNat 0) xs
def idleC (ks:List Int) (c:Chart):Chart:={ c with acts:=zap ks c.acts,dues:=zap ks c.dues }
theorem zap_len:∀ (ks xs:List Int),(zap ks xs).length=xs.length
 | [],_=>rfl
 | k::ks,xs=>by
  have:=zap_len ks (xs.set k.toNat 0)
  simpa [zap] using this
set_option maxHeartbeats 1000000 in
theorem f_stop (l:List Step) (hl:l.length≤1000) (c:Chart) (st:Int):fo 239 [aB l c,A (vI st)]=some (RB l (stopC l st c)):=by
 have hm:((l.length:Nat):Int)≤(maxElems:Nat):=by unfold maxElems; omega
 refine orc_239 1 ?_
 simp (maxSteps:=1000000) +contextual -dsimp [Tryz.f239,hm,stopC,List.set]
theorem idle_fold:∀ (ks:List Int) (i:Nat) (c:Chart),foldI (fun (_:Nat) (c:Chart) (k:Int)=>{ c with acts:=c.acts.set k.toNat 0,dues:=c.dues.set k.toNat 0 }) i c ks=idleC ks c
 | [],_,c=>rfl
 | k::ks,i,c=>by
  simp only [foldI]
  rw [idle_fold ks]
  simp [idleC,zap]
set_option maxHeartbeats 1000000 in
theorem lp200 (l:List Step) (c:Chart) (ks:List Int) (hk:ks.length < 2 ^ 62) (hin:∀ k,k∈ks→∃ x:Nat,k=x∧x < c.acts.length∧x < c.dues.length):
  evLoop E (orc E) (200:Nat) (ks.length+1) (loopOf Tryz.f200 0) ⟨32,[(0,.ptr 0 0 [] 0),(11,iS ks),(12,vI ks.length),(13,vI (0:Nat))],[(0,⟨0,1,true,bO l c⟩)],2⟩=
  some (.exit 0,⟨32,[(0,.ptr 0 0 [] 0),(11,iS ks),(12,vI ks.length),(13,vI ks.length),(14,vB false)],[(0,⟨0,1,true,bO l (idleC ks c)⟩)],2⟩):=by
 have h:=loop_all (f:=200) (id:=0) (code:=loopOf Tryz.f200 0) ks (fun _ c'=>c'.acts.length=c.acts.length∧c'.dues.length=c.dues.length)
  (fun i c'=>⟨32,[(0,.ptr 0 0 [] 0),(11,iS ks),(12,vI ks.length),(13,vI i)],[(0,⟨0,1,true,bO l c'⟩)],2⟩) (fun (_:Nat) (c:Chart) (k:Int)=>{ c with acts:=c.acts.set k.toNat 0,dues:=c.dues.set k.toNat 0 })
  (fun c'=>⟨32,[(0,.ptr 0 0 [] 0),(11,iS ks),(12,vI ks.length),(13,vI ks.length),(14,vB false)],[(0,⟨0,1,true,bO l c'⟩)],2⟩)
 have h2:=h ?_ ?_ c ⟨rfl,rfl⟩
 ·rw [idle_fold] at h2; exact h2
 ·intro k c' _
  have hlt:=ltN_f ks.length
  simp +contextual -dsimp [Tryz.f200,hlt]
 ·intro k i c' hi hI
  obtain ⟨x,hx,h1,h2⟩:=hin ks[i] (List.getElem_mem hi)
  have hlt:=ltN_t hi
  have hw:=wrap1 hi hk
  have e1:x < c'.acts.length:=by omega
  have e2:x < c'.dues.length:=by omega
  refine ⟨?_,by simp; exact hI⟩
  simp (maxSteps:=1000000) +contextual -dsimp [Tryz.f200,hlt,hi,hw,hx,e1,e2,List.set]
set_option maxHeartbeats 1000000 in
theorem f_idle {l:List Step} (w:Wf l) (c:Chart) (ha:c.acts.length=l.length) (hd:c.dues.length=l.length) (k:Nat) (hk:k < l.length):
  fo 200 [aB l c,A (vI k)]=some (RB l (idleC (undsM l k) c)):=by
 have g:=f_under w k hk
 have hle:=undsM_le l k
 have hl:=w.ok.le
 have hse:=seal4_iE (undsM l k)
 have hlp:=lp200 l c (undsM l k) (by omega) (fun k hk=>by
  obtain ⟨x,h1,h2,h3,h4⟩:=undsM_mem hk
  exact ⟨x,h1,by omega,by omega⟩)
 refine orc_200 ((undsM l k).length+1) ?_
 simp -dsimp [Tryz.f200] at hlp
 simp (maxSteps:=1000000) +contextual -dsimp [Tryz.f200,g,hse,hlp]
def notOver (acts:List Int) (k:Int):Bool:=notB (eqI (szAt acts k) 2)
theorem f_notOver (l:List Step) (c:Chart) (k:Nat) (hk:k < c.acts.length):fo 249 [A (vI k),A (.ipt [.ipt (bT l c)])]=some (R (vB (notOver c.acts k))):=by
 have hs:=szAt_lt hk
 refine orc_249 1 ?_
 simp (maxSteps:=1000000) +contextual -dsimp [Tryz.f249,hk,notOver,hs]
theorem lpClo {g : Nat} {cap : List T} (hmode : E.mode (g : Nat) = []) (p : Int → Bool) (all : List Int) (hall : all.length < 2 ^ 62) (hg : ∀ x, x ∈ all → fo g [A (vI x), A (.ipt cap)] = some (R (vB (p x)))) :
    ∀ (rest : List Int) (i : Nat), all.drop i = rest →
    evLoop E (orc E) (280 : Nat) (rest.length + 1) (loopOf Tryz.f280 0) ⟨19, [(0, iS all), (1, .clo g [.ipt cap]), (7, vI all.length), (8, vI i)], [], 2⟩ =
    (if ltI (idxM p i rest) 0 = true then some (.exit 0, ⟨19, [(0, iS all), (1, .clo g [.ipt cap]), (7, vI all.length), (8, vI (i + rest.length : Nat)), (9, vB false)], [], 2⟩)
     else some (.ret, ⟨19, [(4, vI (idxM p i rest))], [], 2⟩))
  | [], i, h => by
    have hge : all.length ≤ i := by simpa using h
    have hlt : ltI (i : Int) (all.length : Int) = false := ltI_f (by omega)
    have h1 : ltI (-1) 0 = true := rfl
    rw [loop_eq]
    simp +contextual -dsimp [Tryz.f280, hlt, idxM, h1]
  | x :: rest, i, h => by
    obtain ⟨hi, hc, hr⟩ := drop_cons h
    have hlt : ltI (i : Int) (all.length : Int) = true := ltI_t (by omega)
    have hw : IntKind.i64.wrap ((i : Int) + 1) = ((i + 1 : Nat) : Int) := by rw [wrapI] <;> omega
    have he : i + 1 + rest.length = i + (rest.length + 1) := by omega
    have h0 : ltI (i : Int) 0 = false := ltI_f (by omega)
    have g := hg x (by rw [← hc]; exact List.getElem_mem _)
    cases c : p x
    · have ih := lpClo hmode p all hall hg rest (i + 1) hr
      rw [he] at ih
      have hm : idxM p i (x :: rest) = idxM p (i + 1) rest := by simp [idxM, c]
      rw [hm]
      rw [c] at g
      refine evLoop_next ?_ (by simpa only [List.length_cons] using ih)
      simp (maxSteps := 1000000) +contextual -dsimp [Tryz.f280, hlt, hi, hc, hw, hmode, g]
    · have hm : idxM p i (x :: rest) = i := by simp [idxM, c]
      rw [hm, h0, if_neg (by simp)]
      rw [c] at g
      refine evLoop_out ?_ (by simp)
      simp (maxSteps := 1000000) +contextual -dsimp [Tryz.f280, hlt, hi, hc, hmode, g]
theorem f_IndexClo {g:Nat} {cap:List T} (hmode:E.mode (g:Nat)=[]) (p:Int→Bool) (l:List Int) (hl:l.length < 2 ^ 62) (hg:∀ x,x∈l→fo g [A (vI x),A (.ipt cap)]=some (R (vB (p x)))):
  fo 280 [A (iS l),A (.clo g [.ipt cap])]=some (R (vI (idxM p 0 l))):=by
 have hlp:=lpClo hmode p l hl hg l 0 rfl
 refine orc_280 (l.length+1) ?_
 simp -dsimp [Tryz.f280] at hlp
 cases c:ltI (idxM p 0 l) 0
 ·simp (maxSteps:=1000000) +contextual -dsimp [Tryz.f280,hlp,c]
 ·have e:idxM p 0 l=-1:=idxM_neg c
  rw [e] at hlp ⊢
  simp (maxSteps:=1000000) +contextual -dsimp [Tryz.f280,hlp]
theorem f_ContClo {g:Nat} {cap:List T} (hmode:E.mode (g:Nat)=[]) (p:Int→Bool) (l:List Int) (hl:l.length < 2 ^ 62) (hg:∀ x,x∈l→fo g [A (vI x),A (.ipt cap)]=some (R (vB (p x)))):
  fo 235 [A (iS l),A (.clo g [.ipt cap])]=some (R (vB (hasB p l))):=by
 have g:=f_IndexClo hmode p l hl hg
 refine orc_235 1 ?_
 simp (maxSteps:=1000000) +contextual -dsimp [Tryz.f235,g,hasB]
end Go.TM.Ft
namespace Go.TM.Ft
open Go Go.TM Go.Proofs
set_option maxRecDepth 20000
attribute [local congr] gif_cg
attribute [local simp] footOf noClash clash upsets setsHit setHits layHits layMeets setsMeet evFeet seal4_iE
def pickV (o:Option Int) (k d:Int):Int:=match o with | none=>-1 | some v=>if eqI v 1=true then k else d
def chooseM (l:List Step) (vars:List Int):List Int→Int
 | []=>-2
 | k::r=>if ltI 0 (condOf l k.toNat).length=true then pickV (evalM (condOf l k.toNat) vars) k (chooseM l vars r) else k
theorem Wf.condOf {l:List Step} (w:Wf l) {k:Nat} (hk:k < l.length) (h:ltI 0 (Ft.condOf l k).length=true):ExprOk (Ft.condOf l k):=by
 have e:Ft.condOf l k=(l[k]).cond:=by simp [Ft.condOf,hk]
 rw [e] at h ⊢
 refine w.cond (List.getElem_mem hk) fun hn=>?_
 rw [hn] at h; simp [ltI] at h
structure Inv (l:List Step) (c:Chart):Prop where
 vars:c.vars.length=4
 acts:c.acts.length=l.length
 dues:c.dues.length=l.length
 now0:0≤c.now
 now1:c.now≤1000000
 rng:∀ x,x∈c.vars→badV x=false
set_option maxHeartbeats 4000000 in
theorem lp237 {l : List Step} (w : Wf l) (c : Chart) (hv : c.vars.length = 4) (all : List Int) (hall : all.length ≤ 24) (hks : ∀ k, k ∈ all → ∃ x : Nat, k = x ∧ x < l.length) (c' : Chart) : ∀ (rest : List Int) (i : Nat), all.drop i = rest →
    (chooseM l c.vars rest = -1 → c' = stopC l 3 c) → (0 ≤ chooseM l c.vars rest → fo 171 [aB l c, A (vI (chooseM l c.vars rest))] = some (RB l c')) →
    evLoop E (orc E) (237 : Nat) (rest.length + 1) (loopOf Tryz.f237 0) ⟨46, [(0, .ptr 0 0 [] 0), (9, iS all), (10, vI all.length), (11, vI i)], [(0, ⟨0, 1, true, bO l c⟩)], 2⟩ =
    (if eqI (chooseM l c.vars rest) (-2) = true then some (.exit 0, ⟨46, [(0, .ptr 0 0 [] 0), (9, iS all), (10, vI all.length), (11, vI (i + rest.length : Nat)), (12, vB false)], [(0, ⟨0, 1, true, bO l c⟩)], 2⟩)
     else some (.ret, ⟨46, [(0, .ptr 0 0 [] 0)], [(0, ⟨0, 1, true, bO l c'⟩)], 2⟩))
  | [], i, h, _, _ => by
    have hge : all.length ≤ i := by simpa using h
    have hlt : ltI (i : Int) (all.length : Int) = false := ltI_f (by omega)
    rw [loop_eq]
    simp +contextual -dsimp [Tryz.f237, hlt, chooseM, eqI_self]
  | k :: rest, i, h, h1, h2 => by
    obtain ⟨hi, hc, hr⟩ := drop_cons h
    obtain ⟨x, hx, hxl⟩ := hks k (by rw [← hc]; exact List.getElem_mem _)
    have hlt := ltN_t hi
    have hw := wrap1 hi (by omega)
    have he : i + 1 + rest.length = i + (rest.length + 1) := by omega
    have ec : (l[x]).cond = condOf l x := by simp [condOf, hxl]
    have hl24 := w.ok.le
    have hm : chooseM l c.vars (k :: rest) = (if ltI 0 (condOf l x).length = true then pickV (evalM (condOf l x) c.vars) k (chooseM l c.vars rest) else k) := by
      conv => lhs; unfold chooseM
      rw [hx, Int.toNat_natCast]
    have e11 : eqI 1 1 = true := rfl
    have taken : chooseM l c.vars (k :: rest) = k → eqI (chooseM l c.vars (k :: rest)) (-2) = false ∧ fo 171 [aB l c, A (vI k)] = some (RB l c') := fun e => by
      rw [e]
      rw [e] at h2
      exact ⟨by simp [eqI]; omega, h2 (by omega)⟩
    cases q : ltI 0 (condOf l x).length
    · rw [q, if_neg (by simp)] at hm
      obtain ⟨t1, t2⟩ := taken hm
      rw [t1, if_neg (by simp)]
      refine evLoop_out ?_ (by simp)
      rw [hx] at hc t2
      simp (maxSteps := 1000000) +contextual -dsimp [Tryz.f237, hlt, hi, hc, hxl, ec, q, e11, t2]
    · have g := f_eval (condOf l x) (w.condOf hxl q) c.vars hv
      rw [q, if_pos rfl] at hm
      cases ev : evalM (condOf l x) c.vars with
      | none =>
        rw [ev] at hm g
        simp only [RE] at g
        have t1 : eqI (chooseM l c.vars (k :: rest)) (-2) = false := by rw [hm]; rfl
        have t2 := h1 hm
        have g2 := f_stop l (by omega) c 3
        rw [← t2] at g2
        rw [t1, if_neg (by simp)]
        refine evLoop_out ?_ (by simp)
        rw [hx] at hc
        simp (maxSteps := 1000000) +contextual -dsimp [Tryz.f237, hlt, hi, hc, hxl, ec, q, g, g2]
      | some v =>
        rw [ev] at hm g
        simp only [RE] at g
        cases q1 : eqI v 1
        · have hm : chooseM l c.vars (k :: rest) = chooseM l c.vars rest := by simpa [q1, pickV] using hm
          rw [hm] at h1 h2 ⊢
          have ih := lp237 w c hv all hall hks c' rest (i + 1) hr h1 h2
          rw [he] at ih
          refine evLoop_next ?_ (by simpa only [List.length_cons] using ih)
          rw [hx] at hc
          simp (maxSteps := 1000000) +contextual -dsimp [Tryz.f237, hlt, hi, hc, hw, hxl, ec, q, g, q1]
        · have hm : chooseM l c.vars (k :: rest) = k := by simpa [q1, pickV] using hm
          obtain ⟨t1, t2⟩ := taken hm
          rw [t1, if_neg (by simp)]
          refine evLoop_out ?_ (by simp)
          rw [hx] at hc t2
          simp (maxSteps := 1000000) +contextual -dsimp [Tryz.f237, hlt, hi, hc, hxl, ec, q, g, q1, t2]
theorem f_choose {l:List Step} (w:Wf l) (c:Chart) (hv:c.vars.length=4) (ks:List Int) (hall:ks.length≤24) (hks:∀ k,k∈ks→∃ x:Nat,k=x∧x < l.length) (c':Chart)
  (h0:chooseM l c.vars ks=-2→c'=c) (h1:chooseM l c.vars ks=-1→c'=stopC l 3 c) (h2:0≤chooseM l c.vars ks→fo 171 [aB l c,A (vI (chooseM l c.vars ks))]=some (RB l c')):
  fo 237 [aB l c,A (iS ks)]=some (RB l c'):=by
 have hlp:=lp237 w c hv ks hall hks c' ks 0 rfl h1 h2
 refine orc_237 (ks.length+1) ?_
 simp -dsimp [Tryz.f237] at hlp
 cases q:eqI (chooseM l c.vars ks) (-2)
 ·rw [q] at hlp
  simp (maxSteps:=1000000) +contextual -dsimp [Tryz.f237,hlp]
 ·rw [q] at hlp
  have e:=h0 (by simpa [eqI] using q)
  subst e
  simp (maxSteps:=1000000) +contextual -dsimp [Tryz.f237,hlp]
end Go.TM.Ft
namespace Go.TM.Ft
open Go Go.TM Go.Proofs
set_option maxRecDepth 20000
attribute [local congr] gif_cg
attribute [local simp] footOf noClash clash upsets setsHit setHits layHits layMeets setsMeet evFeet
abbrev eT (e:Engine):List T:=[.sl 160 (e.procs.map (pT 124 219)),.sl 163 (e.insts.map xT),vI e.now]
theorem f_steps (e:Engine) (x:Inst) (a:Nat) (hx:x.proc=a) (ha:a < e.procs.length):fo 127 [A (.agg (eT e)),A (.agg (xT x))]=some ⟨.sl 124 ((e.procs[a]).map (sT 219)),[],false⟩:=by
 refine orc_127 1 ?_
 simp (maxSteps:=1000000) +contextual -dsimp [Tryz.f127,hx,ha]
def openM (l:List Step) (acts:List Int) (step:Int):Bool:=andB (andB (inR step 0 ((l.length:Int) - 1)) (eqI (kindOf l step) 2)) (eqI (szAt acts step) 1)
theorem f_isOnTask (l:List Step) (hl:l.length < 2 ^ 62) (c:Chart) (ha:c.acts.length=l.length) (step:Int):
  fo 194 [A (.sl 124 (l.map (sT 219))),A (.agg (cT c)),A (vI step)]=some (R (vB (openM l c.acts step))):=by
 have g:=f_isPlace step l.length hl
 unfold openM
 refine orc_194 1 ?_
 cases q:inR step 0 ((l.length:Int) - 1)
 ·simp (maxSteps:=1000000) +contextual -dsimp [Tryz.f194,g,q]
 ·obtain ⟨k,rfl,hk⟩:∃ k:Nat,step=k∧k < l.length:=by
   simp [inR,andB,leI] at q
   obtain ⟨k,rfl⟩:=Int.eq_ofNat_of_zero_le q.1
   exact ⟨k,rfl,by omega⟩
  have hka:k < c.acts.length:=by omega
  have hs:szAt c.acts (k:Int)=c.acts[k]:=szAt_get hka
  have hki:kindOf l k=(l[k]).kind:=by simp [kindOf,hk]
  simp (maxSteps:=1000000) +contextual -dsimp [Tryz.f194,g,q,hk,hka,hs,hki]
def instAt (e:Engine) (i:Int):Inst:=e.insts.getD i.toNat ⟨0,⟨0,0,[],[],[]⟩⟩
def stepsOf (e:Engine) (x:Inst):List Step:=e.procs.getD x.proc.toNat []
def procsM:List (List Step)→Int
 | []=>0
 | p::r=>if notB (eqI (procM p) 0)=true then procM p else procsM r
structure FitP (p:List Step):Prop where
 len:p.length < 2 ^ 62
 steps:∀ s,s∈p→FitS s
theorem loop70 (all : List (List Step)) (hall : all.length ≤ 1000) (hf : ∀ p, p ∈ all → FitP p) : ∀ (rest : List (List Step)) (i : Nat), all.drop i = rest →
    evLoop E (orc E) (185 : Nat) (rest.length + 1) (loopOf Tryz.f185 0) ⟨23, [(10, .sl 160 (all.map (pT 124 219))), (11, vI all.length), (12, vI i)], [], 2⟩ =
    (if eqI (procsM rest) 0 = true then some (.exit 0, ⟨23, [(10, .sl 160 (all.map (pT 124 219))), (11, vI all.length), (12, vI (i + rest.length : Nat)), (13, vB false)], [], 2⟩)
     else some (.ret, ⟨23, [(2, vI (procsM rest))], [], 2⟩))
  | [], i, h => by
    have hge : all.length ≤ i := by simpa using h
    have hlt : ltI (i : Int) (all.length : Int) = false := ltI_f (by omega)
    rw [loop_eq]
    simp +contextual -dsimp [Tryz.f185, hlt, procsM, eqI_self]
  | s :: rest, i, h => by
    obtain ⟨hi, hc, hr⟩ := drop_cons h
    have hlt : ltI (i : Int) (all.length : Int) = true := ltI_t (by omega)
    have hw : IntKind.i64.wrap ((i : Int) + 1) = ((i + 1 : Nat) : Int) := by rw [wrapI] <;> omega
    have he : i + 1 + rest.length = i + (rest.length + 1) := by omega
    have hs := hf s (by rw [← hc]; exact List.getElem_mem _)
    have g := f_ProcFault s hs.len hs.steps
    cases q : eqI (procM s) 0
    · have hm : procsM (s :: rest) = procM s := by simp [procsM, q, notB]
      rw [hm, q, if_neg (by simp)]
      refine evLoop_out ?_ (by simp)
      simp (maxSteps := 1000000) +contextual -dsimp [Tryz.f185, hlt, hi, hc, g, q, List.set]
    · have ih := loop70 all hall hf rest (i + 1) hr
      rw [he] at ih
      have hm : procsM (s :: rest) = procsM rest := by simp [procsM, q, notB]
      rw [hm]
      refine evLoop_next ?_ (by simpa only [List.length_cons] using ih)
      simp (maxSteps := 1000000) +contextual -dsimp [Tryz.f185, hlt, hi, hc, hw, g, q, List.set]
def procsF (ps:List (List Step)):Int:=if notB (inR ps.length 1 3)=true then 2 else procsM ps
theorem f_procsFault (ps:List (List Step)) (hps:ps.length < 2 ^ 62) (hf:∀ p,p∈ps→FitP p):fo 185 [A (.sl 160 (ps.map (pT 124 219)))]=some (R (vI (procsF ps))):=by
 unfold procsF
 cases c1:inR ps.length 1 3
 ·refine orc_185 1 ?_
  simp (maxSteps:=1000000) +contextual -dsimp [Tryz.f185,f_inRange,c1]
 ·have hl:ps.length≤1000:=by simp [inR,andB,leI] at c1; omega
  have hlp:=loop70 ps hl hf ps 0 rfl
  refine orc_185 (ps.length+1) ?_
  simp -dsimp [Tryz.f185] at hlp
  cases c2:eqI (procsM ps) 0
  ·rw [c2] at hlp
   simp (maxSteps:=1000000) +contextual -dsimp [Tryz.f185,f_inRange,c1,hlp]
  ·rw [c2] at hlp
   have e0:procsM ps=0:=by simpa [eqI] using c2
   simp (maxSteps:=1000000) +contextual -dsimp [Tryz.f185,f_inRange,c1,e0,hlp]
end Go.TM.Ft
namespace Go.TM.Ft
open Go Go.TM Go.Proofs
set_option maxRecDepth 20000
attribute [local congr] gif_cg
attribute [local simp] footOf noClash clash upsets setsHit setHits layHits layMeets setsMeet evFeet
def instCode (e:Engine) (x:Inst):Int:=first2 (chartM (stepsOf e x) x.chart) (ci (notB (eqI x.chart.now e.now)) 9)
def instM (e:Engine) (x:Inst):Int:=if notB (inR x.proc 0 ((e.procs.length:Int) - 1))=true then 3 else instCode e x
def instsM (e:Engine):List Inst→Int
 | []=>0
 | x::r=>if eqI (instM e x) 0=true then instsM e r else instM e x
structure FitE (e:Engine):Prop where
 np:e.procs.length < 2 ^ 62
 ni:e.insts.length < 2 ^ 62
 procs:∀ p,p∈e.procs→FitP p
 insts:∀ x,x∈e.insts→FitC x.chart
set_option maxHeartbeats 2000000 in
theorem loop47 (e : Engine) (hf : FitE e) : ∀ (rest : List Inst) (i : Nat), e.insts.drop i = rest →
    evLoop E (orc E) (113 : Nat) (rest.length + 1) (loopOf Tryz.f113 0) ⟨64, [(1, .ptr 1 1 [] 0), (32, .sl 163 (e.insts.map xT)), (33, vI e.insts.length), (34, vI i)], [(1, ⟨1, 1, true, eT e⟩)], 2⟩ =
    (if eqI (instsM e rest) 0 = true then some (.exit 0, ⟨64, [(1, .ptr 1 1 [] 0), (32, .sl 163 (e.insts.map xT)), (33, vI e.insts.length), (34, vI (i + rest.length : Nat)), (35, vB false)], [(1, ⟨1, 1, true, eT e⟩)], 2⟩)
     else some (.ret, ⟨64, [(2, vI (instsM e rest))], [], 2⟩))
  | [], i, h => by
    have hge : e.insts.length ≤ i := by simpa using h
    have hlt : ltI (i : Int) (e.insts.length : Int) = false := ltI_f (by omega)
    rw [loop_eq]
    simp +contextual -dsimp [Tryz.f113, hlt, instsM, eqI_self]
  | x :: rest, i, h => by
    obtain ⟨hi, hc, hr⟩ := drop_cons h
    have hni := hf.ni
    have hlt : ltI (i : Int) (e.insts.length : Int) = true := ltI_t (by omega)
    have hw : IntKind.i64.wrap ((i : Int) + 1) = ((i + 1 : Nat) : Int) := by rw [wrapI] <;> omega
    have he : i + 1 + rest.length = i + (rest.length + 1) := by omega
    have g0 := f_isPlace x.proc e.procs.length hf.np
    have hxc := hf.insts x (by rw [← hc]; exact List.getElem_mem _)
    cases q1 : inR x.proc 0 ((e.procs.length : Int) - 1)
    · have h3 : instM e x = 3 := by simp [instM, q1, notB]
      have h30 : eqI (3 : Int) 0 = false := rfl
      have hm : instsM e (x :: rest) = 3 := by simp [instsM, h3, h30]
      rw [hm, h30, if_neg (by simp)]
      refine evLoop_out ?_ (by simp)
      simp (maxSteps := 1000000) +contextual -dsimp [Tryz.f113, hlt, hi, hc, g0, q1, List.set]
    · obtain ⟨a, hx, ha⟩ : ∃ a : Nat, x.proc = a ∧ a < e.procs.length := by
        simp [inR, andB, leI] at q1
        obtain ⟨k, hk⟩ := Int.eq_ofNat_of_zero_le q1.1
        exact ⟨k, hk, by omega⟩
      have h3 : instM e x = instCode e x := by simp [instM, q1, notB]
      have hp := hf.procs (e.procs[a]) (List.getElem_mem _)
      have g1 := f_steps e x a hx ha
      have e2 : stepsOf e x = e.procs[a] := by simp [stepsOf, hx, ha]
      have g2 := f_ChartFault (e.procs[a]) hp.len hp.steps x.chart hxc
      have g3 := f_first2 (chartM (e.procs[a]) x.chart) (ci (notB (eqI x.chart.now e.now)) 9)
      cases q2 : eqI (instCode e x) 0
      · have hm : instsM e (x :: rest) = instCode e x := by simp [instsM, h3, q2]
        rw [hm, q2, if_neg (by simp)]
        unfold instCode at q2 ⊢
        rw [e2] at q2 ⊢
        refine evLoop_out ?_ (by simp)
        simp (maxSteps := 1000000) +contextual -dsimp [Tryz.f113, hlt, hi, hc, g0, g1, g2, g3, f_ci, q1, q2, List.set]
      · have ih := loop47 e hf rest (i + 1) hr
        rw [he] at ih
        have hm : instsM e (x :: rest) = instsM e rest := by simp [instsM, h3, q2]
        rw [hm]
        unfold instCode at q2
        rw [e2] at q2
        refine evLoop_next ?_ (by simpa only [List.length_cons] using ih)
        simp (maxSteps := 1000000) +contextual -dsimp [Tryz.f113, hlt, hi, hc, hw, g0, g1, g2, g3, f_ci, q1, q2, List.set]
def engA (e:Engine):Int:=first2 (procsF e.procs) (ci (notB (inR e.now 0 1000000)) 3)
def engM (e:Engine):Int:=
 if orB (notB (inR e.procs.length 1 3)) (ltI 6 e.insts.length)=true then 2
 else if notB (eqI (engA e) 0)=true then engA e
 else instsM e e.insts
set_option maxHeartbeats 2000000 in
theorem f_EngineFault (e:Engine) (hf:FitE e):fo 113 [A (.agg (eT e))]=some (R (vI (engM e))):=by
 have g1:=f_procsFault e.procs hf.np hf.procs
 have g3:=f_first2 (procsF e.procs) (ci (notB (inR e.now 0 1000000)) 3)
 have hlp:=loop47 e hf e.insts 0 rfl
 simp -dsimp [Tryz.f113] at hlp
 unfold engM
 refine orc_113 (e.insts.length+1) ?_
 cases q1:inR e.procs.length 1 3
 ·simp (maxSteps:=1000000) +contextual -dsimp [Tryz.f113,f_inRange,q1]
 ·cases q2:ltI 6 e.insts.length
  ·cases q3:eqI (engA e) 0
   ·unfold engA at q3 ⊢
    simp (maxSteps:=1000000) +contextual -dsimp [Tryz.f113,f_inRange,f_isTime,f_ci,g1,g3,q1,q2,q3,List.set]
   ·have q3':=q3
    unfold engA at q3'
    cases q4:eqI (instsM e e.insts) 0
    ·rw [q4] at hlp
     simp (maxSteps:=1000000) +contextual -dsimp [Tryz.f113,f_inRange,f_isTime,f_ci,g1,g3,q1,q2,q3',hlp,List.set]
    ·rw [q4] at hlp
     have e0:instsM e e.insts=0:=by simpa [eqI] using q4
     simp (maxSteps:=1000000) +contextual -dsimp [Tryz.f113,f_inRange,f_isTime,f_ci,g1,g3,q1,q2,q3',e0,hlp,List.set]
  ·simp (maxSteps:=1000000) +contextual -dsimp [Tryz.f113,f_inRange,q1,q2]
end Go.TM.Ft
namespace Go.TM.Ft
open Go Go.TM Go.Proofs
set_option maxRecDepth 20000
attribute [local congr] gif_cg
attribute [local simp] footOf noClash clash upsets setsHit setHits layHits layMeets setsMeet evFeet
structure InstOk (e:Engine) (x:Inst):Prop where
 ex:∃ (a:Nat) (_:a < e.procs.length),x.proc=a
 chart:chartM (stepsOf e x) x.chart=0
theorem instM_zero {e:Engine} {x:Inst} (h:instM e x=0):InstOk e x:=by
 unfold instM at h
 split at h
 ·simp at h
 ·rename_i c
  have c:inR x.proc 0 ((e.procs.length:Int) - 1)=true:=by simpa [notB] using c
  refine ⟨?_,(first2_zero h).1⟩
  simp [inR,andB,leI] at c
  obtain ⟨k,hk⟩:=Int.eq_ofNat_of_zero_le c.1
  exact ⟨k,by omega,hk⟩
theorem instsM_zero {e:Engine}:∀ {l:List Inst},instsM e l=0→∀ x,x∈l→InstOk e x
 | [],_,x,hx=>by simp at hx
 | y::l,h,x,hx=>by
  unfold instsM at h
  split at h
  ·rename_i c
   rcases List.mem_cons.1 hx with rfl | hx
   ·exact instM_zero (by simpa [eqI] using c)
   ·exact instsM_zero h x hx
  ·rename_i c; rw [h] at c; exact absurd rfl c
theorem engM_zero {e:Engine} (h:engM e=0):e.procs.length≤3∧e.insts.length≤6∧(∀ x,x∈e.insts→InstOk e x):=by
 unfold engM at h
 split at h
 ·simp at h
 ·rename_i c
  split at h
  ·rename_i c2; rw [h] at c2; simp [notB,eqI] at c2
  ·simp [orB,notB,inR,andB,leI,ltI] at c
   exact ⟨by omega,by omega,instsM_zero h⟩
theorem chartM_zero {l:List Step} {c:Chart} (h:chartM l c=0):chartA l c=0:=by
 unfold chartM at h
 split at h
 ·exact h
 ·rename_i c; simpa [notB,eqI] using c
theorem InstOk.at_ {e:Engine} {x:Inst} (h:InstOk e x):∃ (a:Nat) (ha:a < e.procs.length),x.proc=a∧stepsOf e x=e.procs[a]∧ProcOk (e.procs[a])∧x.chart.acts.length=(e.procs[a]).length:=by
 obtain ⟨⟨a,ha,hx⟩,hc⟩:=h
 have e2:stepsOf e x=e.procs[a]:=by simp [stepsOf,hx,ha]
 rw [e2] at hc
 obtain ⟨z1,_,_,_,z5,_⟩:=chartA_zero (chartM_zero hc)
 exact ⟨a,ha,hx,e2,proc_ok z1,z5⟩
end Go.TM.Ft
namespace Go.TM.Ft
open Go Go.TM Go.Proofs
set_option maxRecDepth 20000
attribute [local congr] gif_cg
attribute [local simp] footOf noClash clash upsets setsHit setHits layHits layMeets setsMeet evFeet
end Go.TM.Ft
namespace Go.TM.Ft
open Go Go.TM Go.Proofs
set_option maxRecDepth 20000
attribute [local congr] gif_cg
attribute [local simp] footOf noClash clash upsets setsHit setHits layHits layMeets setsMeet evFeet
theorem f_l8Time (n:Int):fo 129 [A (vI n)]=some (R (vB (inR n 0 1000000))):=by
 refine orc_129 1 ?_
 simp (maxSteps:=1000000) +contextual -dsimp [Tryz.f129,f_l1In]
def anyV:List Int→Bool
 | []=>false
 | x::r=>if badV x=true then true else anyV r
theorem lp83 (all:List Int) (hall:all.length≤1000):∀ (rest:List Int) (i:Nat),all.drop i=rest→
  evLoop E (orc E) (159:Nat) (rest.length+1) (loopOf Tryz.f159 0) ⟨19,[(0,iS all),(3,vI i)],[],2⟩=
  (if anyV rest=true then some (.ret,⟨19,[(2,vI 3)],[],2⟩) else some (.exit 0,⟨19,[(0,iS all),(3,vI (i+rest.length:Nat)),(10,vB false)],[],2⟩))
 | [],i,h=>by
  have hge:all.length≤i:=by simpa using h
  have hlt:ltI (i:Int) (all.length:Int)=false:=ltI_f (by omega)
  rw [loop_eq]
  simp +contextual -dsimp [Tryz.f159,hlt,anyV]
 | x::rest,i,h=>by
  obtain ⟨hi,hc,hr⟩:=drop_cons h
  have hlt:ltI (i:Int) (all.length:Int)=true:=ltI_t (by omega)
  have hw:IntKind.i64.wrap ((i:Int)+1)=((i+1:Nat):Int):=by rw [wrapI] <;> omega
  have he:i+1+rest.length=i+(rest.length+1):=by omega
  cases q:inR x (-1000000) 1000000
  ·have hm:anyV (x::rest)=true:=by simp [anyV,badV,q,notB]
   rw [hm,if_pos rfl]
   refine evLoop_out ?_ (by simp)
   simp (maxSteps:=1000000) +contextual -dsimp [Tryz.f159,hlt,hi,hc,f_l1In,q]
  ·have hm:anyV (x::rest)=anyV rest:=by simp [anyV,badV,q,notB]
   have ih:=lp83 all hall rest (i+1) hr
   rw [he] at ih
   rw [hm]
   refine evLoop_next ?_ (by simpa only [List.length_cons] using ih)
   simp (maxSteps:=1000000) +contextual -dsimp [Tryz.f159,hlt,hi,hc,hw,f_l1In,q]
def vars4M (l:List Int):Int:=if notB (eqI l.length 4)=true then 2 else if anyV l=true then 3 else 0
theorem f_Vars4 (l:List Int):fo 159 [A (iS l)]=some (R (vI (vars4M l))):=by
 unfold vars4M
 cases q:eqI l.length 4
 ·refine orc_159 1 ?_
  simp (maxSteps:=1000000) +contextual -dsimp [Tryz.f159,q]
 ·have hl:l.length≤1000:=by simp [eqI] at q; omega
  have hlp:=lp83 l hl l 0 rfl
  refine orc_159 (l.length+1) ?_
  simp -dsimp [Tryz.f159] at hlp
  cases q2:anyV l
  ·rw [q2] at hlp
   simp (maxSteps:=1000000) +contextual -dsimp [Tryz.f159,q,hlp]
  ·rw [q2] at hlp
   simp (maxSteps:=1000000) +contextual -dsimp [Tryz.f159,q,hlp]
set_option maxHeartbeats 2000000 in
theorem lp84 (l:List Step) (c:Chart) (at_:Int) (hb:c.acts.length < 2 ^ 62) (all:List Int) (hall:all.length≤1000) (hk:∀ k,k∈all→∃ a:Nat,k=a∧a < c.acts.length):∀ (rest:List Int) (i n m:Nat),all.drop i=rest→n≤i→m≤i→
  evLoop E (orc E) (228:Nat) (rest.length+1) (loopOf Tryz.f228 0) ⟨130,[(0,.sl 124 (l.map (sT 219))),(1,.ipt (cT c)),(2,vI at_),(7,iS all),(8,vI n),(9,vI m),(10,vI i)],[],2⟩=
  some (.exit 0,⟨130,[(0,.sl 124 (l.map (sT 219))),(1,.ipt (cT c)),(2,vI at_),(7,iS all),(8,vI (cntM c.acts 1 rest n)),(9,vI (cntM c.acts 2 rest m)),(10,vI (i+rest.length:Nat)),(18,vB false)],[],2⟩)
 | [],i,n,m,h,hn,hm=>by
  have hge:all.length≤i:=by simpa using h
  have hlt:ltI (i:Int) (all.length:Int)=false:=ltI_f (by omega)
  rw [loop_eq]
  simp +contextual -dsimp [Tryz.f228,hlt,cntM]
 | x::rest,i,n,m,h,hn,hmm=>by
  obtain ⟨hi,hc,hr⟩:=drop_cons h
  obtain ⟨a,rfl,ha⟩:=hk x (by rw [← hc]; exact List.getElem_mem _)
  have hlt:ltI (i:Int) (all.length:Int)=true:=ltI_t (by omega)
  have hw:IntKind.i64.wrap ((i:Int)+1)=((i+1:Nat):Int):=by rw [wrapI] <;> omega
  have hw2:IntKind.i64.wrap ((n:Int)+1)=((n+1:Nat):Int):=by rw [wrapI] <;> omega
  have hw3:IntKind.i64.wrap ((m:Int)+1)=((m+1:Nat):Int):=by rw [wrapI] <;> omega
  have he:i+1+rest.length=i+(rest.length+1):=by omega
  have hs:=szAt_get ha
  cases q:eqI (c.acts[a]) 1
  ·cases q2:eqI (c.acts[a]) 2
   ·have ih:=lp84 l c at_ hb all hall hk rest (i+1) n m hr (by omega) (by omega)
    rw [he] at ih
    have hm1:cntM c.acts 1 ((a:Int)::rest) n=cntM c.acts 1 rest n:=by simp [cntM,hs,q]
    have hm2:cntM c.acts 2 ((a:Int)::rest) m=cntM c.acts 2 rest m:=by simp [cntM,hs,q2]
    rw [hm1,hm2]
    refine evLoop_next ?_ (by simpa only [List.length_cons] using ih)
    simp (maxSteps:=1000000) +contextual -dsimp [Tryz.f228,hlt,hi,hc,hw,ha,q,q2]
   ·have ih:=lp84 l c at_ hb all hall hk rest (i+1) n (m+1) hr (by omega) (by omega)
    rw [he] at ih
    have hm1:cntM c.acts 1 ((a:Int)::rest) n=cntM c.acts 1 rest n:=by simp [cntM,hs,q]
    have hm2:cntM c.acts 2 ((a:Int)::rest) m=cntM c.acts 2 rest (m+1):=by simp [cntM,hs,q2]
    rw [hm1,hm2]
    refine evLoop_next ?_ (by simpa only [List.length_cons] using ih)
    simp (maxSteps:=1000000) +contextual -dsimp [Tryz.f228,hlt,hi,hc,hw,hw3,ha,q,q2]
  ·have q2:eqI (c.acts[a]) 2=false:=by simp [eqI] at q ⊢; omega
   have ih:=lp84 l c at_ hb all hall hk rest (i+1) (n+1) m hr (by omega) (by omega)
   rw [he] at ih
   have hm1:cntM c.acts 1 ((a:Int)::rest) n=cntM c.acts 1 rest (n+1):=by simp [cntM,hs,q]
   have hm2:cntM c.acts 2 ((a:Int)::rest) m=cntM c.acts 2 rest m:=by simp [cntM,hs,q2]
   rw [hm1,hm2]
   refine evLoop_next ?_ (by simpa only [List.length_cons] using ih)
   simp (maxSteps:=1000000) +contextual -dsimp [Tryz.f228,hlt,hi,hc,hw,hw2,ha,q]
end Go.TM.Ft
namespace Go.TM.Ft
open Go Go.TM Go.Proofs
set_option maxRecDepth 20000
attribute [local congr] gif_cg
attribute [local simp] footOf noClash clash upsets setsHit setHits layHits layMeets setsMeet evFeet
theorem kids4_at {p:Int}:∀ {l:List Step} {i:Nat} {k:Int},k∈kids4M p i l→∃ a:Nat,k=a∧a < i+l.length
 | [],i,k,h=>by simp [kids4M] at h
 | x::l,i,k,h=>by
  unfold kids4M at h
  have tl:k∈kids4M p (i+1) l→∃ a:Nat,k=a∧a < i+(x::l).length:=fun h=>by
   obtain ⟨a,h1,h2⟩:=kids4_at h
   exact ⟨a,h1,by simp; omega⟩
  split at h
  ·rcases List.mem_cons.1 h with rfl | h
   ·exact ⟨i,rfl,by simp⟩
   ·exact tl h
  ·exact tl h
def wrongK (k:Int) (c:Chart) (on over:Int) (list:List Int) (due:Bool):Bool:=
 if orB (eqI k 1) (eqI k 3)=true then orB (orB (notB (eqI on 1)) (ltI 0 over)) due
 else if eqI k 4=true then orB (orB (ltI on 1) (notB (eqI (on+over) list.length))) due
 else if eqI k 8=true then orB (orB (notB (eqI on 1)) (ltI 0 over)) (notB (eqB due (eqI (szAt c.acts (szAt list 0)) 1)))
 else if eqI k 6=true then notB due
 else if eqI k 7=true then true
 else due
def wrong9 (l:List Step) (c:Chart) (i:Nat):Bool:=
 if notB (eqI (szAt c.acts i) 1)=true then orB (ltI 0 ((cntM c.acts 1 (kids4M i 0 l) 0:Nat)+(cntM c.acts 2 (kids4M i 0 l) 0:Nat))) (notB (eqI (szAt c.dues i) 0))
 else wrongK (kindOf l i) c (cntM c.acts 1 (kids4M i 0 l) 0:Nat) (cntM c.acts 2 (kids4M i 0 l) 0:Nat) (kids4M i 0 l) (notB (eqI (szAt c.dues i) 0))
set_option maxHeartbeats 8000000 in
theorem f_l9Wrong (l:List Step) (hl:l.length≤24) (c:Chart) (ha:c.acts.length=l.length) (hd:c.dues.length=l.length) (i:Nat) (hi:i < l.length):
  fo 228 [A (.sl 124 (l.map (sT 219))),A (.ipt (cT c)),A (vI i)]=some (R (vB (wrong9 l c i))):=by
 have g1:=f_l4Kids l (by omega) i
 have hk:∀ k,k∈kids4M i 0 l→∃ a:Nat,k=a∧a < c.acts.length:=fun k h=>by
  obtain ⟨a,h1,h2⟩:=kids4_at h
  exact ⟨a,h1,by omega⟩
 have hfew:=kids4_le i l 0
 have hia:i < c.acts.length:=by omega
 have hid:i < c.dues.length:=by omega
 have hsa:szAt c.acts (i:Int)=c.acts[i]:=szAt_get hia
 have hsd:szAt c.dues (i:Int)=c.dues[i]:=szAt_get hid
 have hki:kindOf l i=(l[i]).kind:=by simp [kindOf,hi]
 have b1:=cnt_le c.acts 1 (kids4M i 0 l) 0
 have b2:=cnt_le c.acts 2 (kids4M i 0 l) 0
 have hlp:=lp84 l c i (by omega) (kids4M i 0 l) (by omega) hk (kids4M i 0 l) 0 0 0 rfl (by omega) (by omega)
 unfold wrong9
 rw [hsa,hsd,hki]
 have hl0:cntM c.acts 1 (kids4M i 0 l) 0=1→0 < (kids4M i 0 l).length:=fun h=>by omega
 generalize hon:cntM c.acts 1 (kids4M i 0 l) 0=on at *
 generalize hov:cntM c.acts 2 (kids4M i 0 l) 0=ov at *
 have hw:IntKind.i64.wrap ((on:Int)+ov)=(on:Int)+ov:=by rw [wrapI] <;> omega
 generalize kids4M i 0 l=ks at *
 have hse:=seal4_iE ks
 refine orc_228 (ks.length+1) ?_
 simp -dsimp [Tryz.f228] at hlp
 cases q2:eqI c.acts[i] 1
 ·simp (maxSteps:=1000000) +contextual -dsimp [Tryz.f228,g1,hse,hlp,hia,hid,q2,hw]
 ·cases e1:eqI (l[i].kind) 1
  ·cases e3:eqI (l[i].kind) 3
   ·cases e4:eqI (l[i].kind) 4
    ·cases e8:eqI (l[i].kind) 8
     ·cases e6:eqI (l[i].kind) 6
      ·cases e7:eqI (l[i].kind) 7
       ·simp (maxSteps:=1000000) +contextual -dsimp [Tryz.f228,g1,hse,hlp,hia,hid,hi,q2,wrongK,e1,e3,e4,e8,e6,e7]
       ·simp (maxSteps:=1000000) +contextual -dsimp [Tryz.f228,g1,hse,hlp,hia,hid,hi,q2,wrongK,e1,e3,e4,e8,e6,e7]
      ·simp (maxSteps:=1000000) +contextual -dsimp [Tryz.f228,g1,hse,hlp,hia,hid,hi,q2,wrongK,e1,e3,e4,e8,e6]
     ·cases o1:eqI (on:Int) 1
      ·simp (maxSteps:=1000000) +contextual -dsimp [Tryz.f228,g1,hse,hlp,hia,hid,hi,q2,wrongK,e1,e3,e4,e8,o1]
      ·have hpos:0 < ks.length:=hl0 (by simp [eqI] at o1; omega)
       obtain ⟨a,ka,hla⟩:=hk (ks[0]) (List.getElem_mem _)
       have hs0:szAt ks 0=ks[0]:=szAt_get hpos
       have hs1:szAt c.acts (a:Int)=c.acts[a]:=szAt_get hla
       cases o2:ltI 0 (ov:Int)
       ·simp (maxSteps:=1000000) +contextual -dsimp [Tryz.f228,g1,hse,hlp,hia,hid,hi,q2,wrongK,e1,e3,e4,e8,o1,o2,hpos,hs0,ka,hs1,hla]
       ·simp (maxSteps:=1000000) +contextual -dsimp [Tryz.f228,g1,hse,hlp,hia,hid,hi,q2,wrongK,e1,e3,e4,e8,o1,o2,hs0,ka,hs1]
    ·simp (maxSteps:=1000000) +contextual -dsimp [Tryz.f228,g1,hse,hlp,hia,hid,hi,q2,hw,wrongK,e1,e3,e4]
   ·simp (maxSteps:=1000000) +contextual -dsimp [Tryz.f228,g1,hse,hlp,hia,hid,hi,q2,wrongK,e1,e3]
  ·simp (maxSteps:=1000000) +contextual -dsimp [Tryz.f228,g1,hse,hlp,hia,hid,hi,q2,wrongK,e1]
end Go.TM.Ft
