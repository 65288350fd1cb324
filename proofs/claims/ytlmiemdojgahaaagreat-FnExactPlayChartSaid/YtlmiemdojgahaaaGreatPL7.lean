/- What functions of the program come to, by the machine. -/
import Derived.Test.YtlmiemdojgahaaaGreatPL6
import Derived.Test.YtlmiemdojgahaaaGreatPL4
set_option linter.unusedSimpArgs false
set_option linter.unusedVariables false
namespace Go.TM.Ft
open Go Go.TM Go.Proofs
set_option maxRecDepth 20000
attribute [local congr] gif_cg
attribute [local simp] footOf noClash clash upsets setsHit setHits layHits layMeets setsMeet evFeet
abbrev bO (l:List Step) (c:Chart):List T:=[.sl 124 (l.map (sT 219)),vI c.status,vI c.now,.own 2 (iE c.vars),.own 2 (iE c.acts),.own 2 (iE c.dues)]
abbrev aB (l:List Step) (c:Chart):Arg:=⟨.ptr 0 0 [] 0,some ⟨0,1,true,bO l c⟩⟩
abbrev RB (l:List Step) (c:Chart):Res:=⟨.tup [],[(0,bO l c)],true⟩
def stopC (l:List Step) (st:Int) (c:Chart):Chart:={ c with status:=st,acts:=List.replicate l.length 0,dues:=List.replicate l.length 0 }
def zap (ks:List Int) (xs:List Int):List Int:=ks.foldl (fun xs k=>xs.set k.toNat 0) xs
def idleC (ks:List Int) (c:Chart):Chart:={ c with acts:=zap ks c.acts,dues:=zap ks c.dues }
theorem zap_len:∀ (ks xs:List Int),(zap ks xs).length=xs.length
 | [],_=>rfl
 | k::ks,xs=>by
  have:=zap_len ks (xs.set k.toNat 0)
  simpa [zap] using this
set_option maxHeartbeats 1000000 in
theorem f_stop (l:List Step) (hl:l.length≤1000) (c:Chart) (st:Int):fo 239 [aB l c,A (vI st)]=some (RB l (stopC l st c)):=by
 have hm:((l.length:Nat):Int)≤(maxElems:Nat):=by unfold maxElems; omega
 refine orc_239 1 ?_
 simp (maxSteps:=1000000) +contextual -dsimp [Tryz.f239,hm,stopC,List.set]
theorem idle_fold:∀ (ks:List Int) (i:Nat) (c:Chart),foldI (fun (_:Nat) (c:Chart) (k:Int)=>{ c with acts:=c.acts.set k.toNat 0,dues:=c.dues.set k.toNat 0 }) i c ks=idleC ks c
 | [],_,c=>rfl
 | k::ks,i,c=>by
  simp only [foldI]
  rw [idle_fold ks]
  simp [idleC,zap]
set_option maxHeartbeats 1000000 in
theorem lp200 (l:List Step) (c:Chart) (ks:List Int) (hk:ks.length < 2 ^ 62) (hin:∀ k,k∈ks→∃ x:Nat,k=x∧x < c.acts.length∧x < c.dues.length):
  evLoop E (orc E) (200:Nat) (ks.length+1) (loopOf Tryz.f200 0) ⟨32,[(0,.ptr 0 0 [] 0),(11,iS ks),(12,vI ks.length),(13,vI (0:Nat))],[(0,⟨0,1,true,bO l c⟩)],2⟩=
  some (.exit 0,⟨32,[(0,.ptr 0 0 [] 0),(11,iS ks),(12,vI ks.length),(13,vI ks.length),(14,vB false)],[(0,⟨0,1,true,bO l (idleC ks c)⟩)],2⟩):=by
 have h:=loop_all (f:=200) (id:=0) (code:=loopOf Tryz.f200 0) ks (fun _ c'=>c'.acts.length=c.acts.length∧c'.dues.length=c.dues.length)
  (fun i c'=>⟨32,[(0,.ptr 0 0 [] 0),(11,iS ks),(12,vI ks.length),(13,vI i)],[(0,⟨0,1,true,bO l c'⟩)],2⟩) (fun (_:Nat) (c:Chart) (k:Int)=>{ c with acts:=c.acts.set k.toNat 0,dues:=c.dues.set k.toNat 0 })
  (fun c'=>⟨32,[(0,.ptr 0 0 [] 0),(11,iS ks),(12,vI ks.length),(13,vI ks.length),(14,vB false)],[(0,⟨0,1,true,bO l c'⟩)],2⟩)
 have h2:=h ?_ ?_ c ⟨rfl,rfl⟩
 ·rw [idle_fold] at h2; exact h2
 ·intro k c' _
  have hlt:=ltN_f ks.length
  simp +contextual -dsimp [Tryz.f200,hlt]
 ·intro k i c' hi hI
  obtain ⟨x,hx,h1,h2⟩:=hin ks[i] (List.getElem_mem hi)
  have hlt:=ltN_t hi
  have hw:=wrap1 hi hk
  have e1:x < c'.acts.length:=by omega
  have e2:x < c'.dues.length:=by omega
  refine ⟨?_,by simp; exact hI⟩
  simp (maxSteps:=1000000) +contextual -dsimp [Tryz.f200,hlt,hi,hw,hx,e1,e2,List.set]
set_option maxHeartbeats 1000000 in
theorem f_idle {l:List Step} (w:Wf l) (c:Chart) (ha:c.acts.length=l.length) (hd:c.dues.length=l.length) (k:Nat) (hk:k < l.length):
  fo 200 [aB l c,A (vI k)]=some (RB l (idleC (undsM l k) c)):=by
 have g:=f_under w k hk
 have hle:=undsM_le l k
 have hl:=w.ok.le
 have hse:=seal4_iE (undsM l k)
 have hlp:=lp200 l c (undsM l k) (by omega) (fun k hk=>by
  obtain ⟨x,h1,h2,h3,h4⟩:=undsM_mem hk
  exact ⟨x,h1,by omega,by omega⟩)
 refine orc_200 ((undsM l k).length+1) ?_
 simp -dsimp [Tryz.f200] at hlp
 simp (maxSteps:=1000000) +contextual -dsimp [Tryz.f200,g,hse,hlp]
def notOver (acts:List Int) (k:Int):Bool:=notB (eqI (szAt acts k) 2)
theorem f_notOver (l:List Step) (c:Chart) (k:Nat) (hk:k < c.acts.length):fo 249 [A (vI k),A (.ipt [.ipt (bT l c)])]=some (R (vB (notOver c.acts k))):=by
 have hs:=szAt_lt hk
 refine orc_249 1 ?_
 simp (maxSteps:=1000000) +contextual -dsimp [Tryz.f249,hk,notOver,hs]
theorem lpClo {g : Nat} {cap : List T} (hmode : E.mode (g : Nat) = []) (p : Int → Bool) (all : List Int) (hall : all.length < 2 ^ 62) (hg : ∀ x, x ∈ all → fo g [A (vI x), A (.ipt cap)] = some (R (vB (p x)))) :
    ∀ (rest : List Int) (i : Nat), all.drop i = rest →
    evLoop E (orc E) (280 : Nat) (rest.length + 1) (loopOf Tryz.f280 0) ⟨19, [(0, iS all), (1, .clo g [.ipt cap]), (7, vI all.length), (8, vI i)], [], 2⟩ =
    (if ltI (idxM p i rest) 0 = true then some (.exit 0, ⟨19, [(0, iS all), (1, .clo g [.ipt cap]), (7, vI all.length), (8, vI (i + rest.length : Nat)), (9, vB false)], [], 2⟩)
     else some (.ret, ⟨19, [(4, vI (idxM p i rest))], [], 2⟩))
  | [], i, h => by
    have hge : all.length ≤ i := by simpa using h
    have hlt : ltI (i : Int) (all.length : Int) = false := ltI_f (by omega)
    have h1 : ltI (-1) 0 = true := rfl
    rw [loop_eq]
    simp +contextual -dsimp [Tryz.f280, hlt, idxM, h1]
  | x :: rest, i, h => by
    obtain ⟨hi, hc, hr⟩ := drop_cons h
    have hlt : ltI (i : Int) (all.length : Int) = true := ltI_t (by omega)
    have hw : IntKind.i64.wrap ((i : Int) + 1) = ((i + 1 : Nat) : Int) := by rw [wrapI] <;> omega
    have he : i + 1 + rest.length = i + (rest.length + 1) := by omega
    have h0 : ltI (i : Int) 0 = false := ltI_f (by omega)
    have g := hg x (by rw [← hc]; exact List.getElem_mem _)
    cases c : p x
    · have ih := lpClo hmode p all hall hg rest (i + 1) hr
      rw [he] at ih
      have hm : idxM p i (x :: rest) = idxM p (i + 1) rest := by simp [idxM, c]
      rw [hm]
      rw [c] at g
      refine evLoop_next ?_ (by simpa only [List.length_cons] using ih)
      simp (maxSteps := 1000000) +contextual -dsimp [Tryz.f280, hlt, hi, hc, hw, hmode, g]
    · have hm : idxM p i (x :: rest) = i := by simp [idxM, c]
      rw [hm, h0, if_neg (by simp)]
      rw [c] at g
      refine evLoop_out ?_ (by simp)
      simp (maxSteps := 1000000) +contextual -dsimp [Tryz.f280, hlt, hi, hc, hmode, g]
theorem f_IndexClo {g:Nat} {cap:List T} (hmode:E.mode (g:Nat)=[]) (p:Int→Bool) (l:List Int) (hl:l.length < 2 ^ 62) (hg:∀ x,x∈l→fo g [A (vI x),A (.ipt cap)]=some (R (vB (p x)))):
  fo 280 [A (iS l),A (.clo g [.ipt cap])]=some (R (vI (idxM p 0 l))):=by
 have hlp:=lpClo hmode p l hl hg l 0 rfl
 refine orc_280 (l.length+1) ?_
 simp -dsimp [Tryz.f280] at hlp
 cases c:ltI (idxM p 0 l) 0
 ·simp (maxSteps:=1000000) +contextual -dsimp [Tryz.f280,hlp,c]
 ·have e:idxM p 0 l=-1:=idxM_neg c
  rw [e] at hlp ⊢
  simp (maxSteps:=1000000) +contextual -dsimp [Tryz.f280,hlp]
theorem f_ContClo {g:Nat} {cap:List T} (hmode:E.mode (g:Nat)=[]) (p:Int→Bool) (l:List Int) (hl:l.length < 2 ^ 62) (hg:∀ x,x∈l→fo g [A (vI x),A (.ipt cap)]=some (R (vB (p x)))):
  fo 235 [A (iS l),A (.clo g [.ipt cap])]=some (R (vB (hasB p l))):=by
 have g:=f_IndexClo hmode p l hl hg
 refine orc_235 1 ?_
 simp (maxSteps:=1000000) +contextual -dsimp [Tryz.f235,g,hasB]
end Go.TM.Ft
namespace Go.TM.Ft
open Go Go.TM Go.Proofs
set_option maxRecDepth 20000
attribute [local congr] gif_cg
attribute [local simp] footOf noClash clash upsets setsHit setHits layHits layMeets setsMeet evFeet seal4_iE
def pickV (o:Option Int) (k d:Int):Int:=match o with | none=>-1 | some v=>if eqI v 1=true then k else d
def chooseM (l:List Step) (vars:List Int):List Int→Int
 | []=>-2
 | k::r=>if ltI 0 (condOf l k.toNat).length=true then pickV (evalM (condOf l k.toNat) vars) k (chooseM l vars r) else k
theorem Wf.condOf {l:List Step} (w:Wf l) {k:Nat} (hk:k < l.length) (h:ltI 0 (Ft.condOf l k).length=true):ExprOk (Ft.condOf l k):=by
 have e:Ft.condOf l k=(l[k]).cond:=by simp [Ft.condOf,hk]
 rw [e] at h ⊢
 refine w.cond (List.getElem_mem hk) fun hn=>?_
 rw [hn] at h; simp [ltI] at h
structure Inv (l:List Step) (c:Chart):Prop where
 vars:c.vars.length=4
 acts:c.acts.length=l.length
 dues:c.dues.length=l.length
 now0:0≤c.now
 now1:c.now≤1000000
 rng:∀ x,x∈c.vars→badV x=false
set_option maxHeartbeats 4000000 in
theorem lp237 {l : List Step} (w : Wf l) (c : Chart) (hv : c.vars.length = 4) (all : List Int) (hall : all.length ≤ 24) (hks : ∀ k, k ∈ all → ∃ x : Nat, k = x ∧ x < l.length) (c' : Chart) : ∀ (rest : List Int) (i : Nat), all.drop i = rest →
    (chooseM l c.vars rest = -1 → c' = stopC l 3 c) → (0 ≤ chooseM l c.vars rest → fo 171 [aB l c, A (vI (chooseM l c.vars rest))] = some (RB l c')) →
    evLoop E (orc E) (237 : Nat) (rest.length + 1) (loopOf Tryz.f237 0) ⟨46, [(0, .ptr 0 0 [] 0), (9, iS all), (10, vI all.length), (11, vI i)], [(0, ⟨0, 1, true, bO l c⟩)], 2⟩ =
    (if eqI (chooseM l c.vars rest) (-2) = true then some (.exit 0, ⟨46, [(0, .ptr 0 0 [] 0), (9, iS all), (10, vI all.length), (11, vI (i + rest.length : Nat)), (12, vB false)], [(0, ⟨0, 1, true, bO l c⟩)], 2⟩)
     else some (.ret, ⟨46, [(0, .ptr 0 0 [] 0)], [(0, ⟨0, 1, true, bO l c'⟩)], 2⟩))
  | [], i, h, _, _ => by
    have hge : all.length ≤ i := by simpa using h
    have hlt : ltI (i : Int) (all.length : Int) = false := ltI_f (by omega)
    rw [loop_eq]
    simp +contextual -dsimp [Tryz.f237, hlt, chooseM, eqI_self]
  | k :: rest, i, h, h1, h2 => by
    obtain ⟨hi, hc, hr⟩ := drop_cons h
    obtain ⟨x, hx, hxl⟩ := hks k (by rw [← hc]; exact List.getElem_mem _)
    have hlt := ltN_t hi
    have hw := wrap1 hi (by omega)
    have he : i + 1 + rest.length = i + (rest.length + 1) := by omega
    have ec : (l[x]).cond = condOf l x := by simp [condOf, hxl]
    have hl24 := w.ok.le
    have hm : chooseM l c.vars (k :: rest) = (if ltI 0 (condOf l x).length = true then pickV (evalM (condOf l x) c.vars) k (chooseM l c.vars rest) else k) := by
      conv => lhs; unfold chooseM
      rw [hx, Int.toNat_natCast]
    have e11 : eqI 1 1 = true := rfl
    have taken : chooseM l c.vars (k :: rest) = k → eqI (chooseM l c.vars (k :: rest)) (-2) = false ∧ fo 171 [aB l c, A (vI k)] = some (RB l c') := fun e => by
      rw [e]
      rw [e] at h2
      exact ⟨by simp [eqI]; omega, h2 (by omega)⟩
    cases q : ltI 0 (condOf l x).length
    · rw [q, if_neg (by simp)] at hm
      obtain ⟨t1, t2⟩ := taken hm
      rw [t1, if_neg (by simp)]
      refine evLoop_out ?_ (by simp)
      rw [hx] at hc t2
      simp (maxSteps := 1000000) +contextual -dsimp [Tryz.f237, hlt, hi, hc, hxl, ec, q, e11, t2]
    · have g := f_eval (condOf l x) (w.condOf hxl q) c.vars hv
      rw [q, if_pos rfl] at hm
      cases ev : evalM (condOf l x) c.vars with
      | none =>
        rw [ev] at hm g
        simp only [RE] at g
        have t1 : eqI (chooseM l c.vars (k :: rest)) (-2) = false := by rw [hm]; rfl
        have t2 := h1 hm
        have g2 := f_stop l (by omega) c 3
        rw [← t2] at g2
        rw [t1, if_neg (by simp)]
        refine evLoop_out ?_ (by simp)
        rw [hx] at hc
        simp (maxSteps := 1000000) +contextual -dsimp [Tryz.f237, hlt, hi, hc, hxl, ec, q, g, g2]
      | some v =>
        rw [ev] at hm g
        simp only [RE] at g
        cases q1 : eqI v 1
        · have hm : chooseM l c.vars (k :: rest) = chooseM l c.vars rest := by simpa [q1, pickV] using hm
          rw [hm] at h1 h2 ⊢
          have ih := lp237 w c hv all hall hks c' rest (i + 1) hr h1 h2
          rw [he] at ih
          refine evLoop_next ?_ (by simpa only [List.length_cons] using ih)
          rw [hx] at hc
          simp (maxSteps := 1000000) +contextual -dsimp [Tryz.f237, hlt, hi, hc, hw, hxl, ec, q, g, q1]
        · have hm : chooseM l c.vars (k :: rest) = k := by simpa [q1, pickV] using hm
          obtain ⟨t1, t2⟩ := taken hm
          rw [t1, if_neg (by simp)]
          refine evLoop_out ?_ (by simp)
          rw [hx] at hc t2
          simp (maxSteps := 1000000) +contextual -dsimp [Tryz.f237, hlt, hi, hc, hxl, ec, q, g, q1, t2]
theorem f_choose {l:List Step} (w:Wf l) (c:Chart) (hv:c.vars.length=4) (ks:List Int) (hall:ks.length≤24) (hks:∀ k,k∈ks→∃ x:Nat,k=x∧x < l.length) (c':Chart)
  (h0:chooseM l c.vars ks=-2→c'=c) (h1:chooseM l c.vars ks=-1→c'=stopC l 3 c) (h2:0≤chooseM l c.vars ks→fo 171 [aB l c,A (vI (chooseM l c.vars ks))]=some (RB l c')):
  fo 237 [aB l c,A (iS ks)]=some (RB l c'):=by
 have hlp:=lp237 w c hv ks hall hks c' ks 0 rfl h1 h2
 refine orc_237 (ks.length+1) ?_
 simp -dsimp [Tryz.f237] at hlp
 cases q:eqI (chooseM l c.vars ks) (-2)
 ·rw [q] at hlp
  simp (maxSteps:=1000000) +contextual -dsimp [Tryz.f237,hlp]
 ·rw [q] at hlp
  have e:=h0 (by simpa [eqI] using q)
  subst e
  simp (maxSteps:=1000000) +contextual -dsimp [Tryz.f237,hlp]
end Go.TM.Ft
namespace Go.TM.Ft
open Go Go.TM Go.Proofs
set_option maxRecDepth 20000
attribute [local congr] gif_cg
attribute [local simp] footOf noClash clash upsets setsHit setHits layHits layMeets setsMeet evFeet
def openM (l:List Step) (acts:List Int) (step:Int):Bool:=andB (andB (inR step 0 ((l.length:Int) - 1)) (eqI (kindOf l step) 2)) (eqI (szAt acts step) 1)
theorem f_isOnTask (l:List Step) (hl:l.length < 2 ^ 62) (c:Chart) (ha:c.acts.length=l.length) (step:Int):
  fo 194 [A (.sl 124 (l.map (sT 219))),A (.agg (cT c)),A (vI step)]=some (R (vB (openM l c.acts step))):=by
 have g:=f_isPlace step l.length hl
 unfold openM
 refine orc_194 1 ?_
 cases q:inR step 0 ((l.length:Int) - 1)
 ·simp (maxSteps:=1000000) +contextual -dsimp [Tryz.f194,g,q]
 ·obtain ⟨k,rfl,hk⟩:∃ k:Nat,step=k∧k < l.length:=by
   simp [inR,andB,leI] at q
   obtain ⟨k,rfl⟩:=Int.eq_ofNat_of_zero_le q.1
   exact ⟨k,rfl,by omega⟩
  have hka:k < c.acts.length:=by omega
  have hs:szAt c.acts (k:Int)=c.acts[k]:=szAt_get hka
  have hki:kindOf l k=(l[k]).kind:=by simp [kindOf,hk]
  simp (maxSteps:=1000000) +contextual -dsimp [Tryz.f194,g,q,hk,hka,hs,hki]
def stepsOf (e:Engine) (x:Inst):List Step:=e.procs.getD x.proc.toNat []
structure FitP (p:List Step):Prop where
 len:p.length < 2 ^ 62
 steps:∀ s,s∈p→FitS s
end Go.TM.Ft
namespace Go.TM.Ft
open Go Go.TM Go.Proofs
set_option maxRecDepth 20000
attribute [local congr] gif_cg
attribute [local simp] footOf noClash clash upsets setsHit setHits layHits layMeets setsMeet evFeet
end Go.TM.Ft
namespace Go.TM.Ft
open Go Go.TM Go.Proofs
set_option maxRecDepth 20000
attribute [local congr] gif_cg
attribute [local simp] footOf noClash clash upsets setsHit setHits layHits layMeets setsMeet evFeet
structure InstOk (e:Engine) (x:Inst):Prop where
 ex:∃ (a:Nat) (_:a < e.procs.length),x.proc=a
 chart:chartM (stepsOf e x) x.chart=0
theorem chartM_zero {l:List Step} {c:Chart} (h:chartM l c=0):chartA l c=0:=by
 unfold chartM at h
 split at h
 ·exact h
 ·rename_i c; simpa [notB,eqI] using c
theorem InstOk.at_ {e:Engine} {x:Inst} (h:InstOk e x):∃ (a:Nat) (ha:a < e.procs.length),x.proc=a∧stepsOf e x=e.procs[a]∧ProcOk (e.procs[a])∧x.chart.acts.length=(e.procs[a]).length:=by
 obtain ⟨⟨a,ha,hx⟩,hc⟩:=h
 have e2:stepsOf e x=e.procs[a]:=by simp [stepsOf,hx,ha]
 rw [e2] at hc
 obtain ⟨z1,_,_,_,z5,_⟩:=chartA_zero (chartM_zero hc)
 exact ⟨a,ha,hx,e2,proc_ok z1,z5⟩
end Go.TM.Ft
namespace Go.TM.Ft
open Go Go.TM Go.Proofs
set_option maxRecDepth 20000
attribute [local congr] gif_cg
attribute [local simp] footOf noClash clash upsets setsHit setHits layHits layMeets setsMeet evFeet
end Go.TM.Ft
namespace Go.TM.Ft
open Go Go.TM Go.Proofs
set_option maxRecDepth 20000
attribute [local congr] gif_cg
attribute [local simp] footOf noClash clash upsets setsHit setHits layHits layMeets setsMeet evFeet
theorem f_l8Time (n:Int):fo 129 [A (vI n)]=some (R (vB (inR n 0 1000000))):=by
 refine orc_129 1 ?_
 simp (maxSteps:=1000000) +contextual -dsimp [Tryz.f129,f_l1In]
def anyV:List Int→Bool
 | []=>false
 | x::r=>if badV x=true then true else anyV r
theorem lp83 (all:List Int) (hall:all.length≤1000):∀ (rest:List Int) (i:Nat),all.drop i=rest→
  evLoop E (orc E) (159:Nat) (rest.length+1) (loopOf Tryz.f159 0) ⟨19,[(0,iS all),(3,vI i)],[],2⟩=
  (if anyV rest=true then some (.ret,⟨19,[(2,vI 3)],[],2⟩) else some (.exit 0,⟨19,[(0,iS all),(3,vI (i+rest.length:Nat)),(10,vB false)],[],2⟩))
 | [],i,h=>by
  have hge:all.length≤i:=by simpa using h
  have hlt:ltI (i:Int) (all.length:Int)=false:=ltI_f (by omega)
  rw [loop_eq]
  simp +contextual -dsimp [Tryz.f159,hlt,anyV]
 | x::rest,i,h=>by
  obtain ⟨hi,hc,hr⟩:=drop_cons h
  have hlt:ltI (i:Int) (all.length:Int)=true:=ltI_t (by omega)
  have hw:IntKind.i64.wrap ((i:Int)+1)=((i+1:Nat):Int):=by rw [wrapI] <;> omega
  have he:i+1+rest.length=i+(rest.length+1):=by omega
  cases q:inR x (-1000000) 1000000
  ·have hm:anyV (x::rest)=true:=by simp [anyV,badV,q,notB]
   rw [hm,if_pos rfl]
   refine evLoop_out ?_ (by simp)
   simp (maxSteps:=1000000) +contextual -dsimp [Tryz.f159,hlt,hi,hc,f_l1In,q]
  ·have hm:anyV (x::rest)=anyV rest:=by simp [anyV,badV,q,notB]
   have ih:=lp83 all hall rest (i+1) hr
   rw [he] at ih
   rw [hm]
   refine evLoop_next ?_ (by simpa only [List.length_cons] using ih)
   simp (maxSteps:=1000000) +contextual -dsimp [Tryz.f159,hlt,hi,hc,hw,f_l1In,q]
def vars4M (l:List Int):Int:=if notB (eqI l.length 4)=true then 2 else if anyV l=true then 3 else 0
theorem f_Vars4 (l:List Int):fo 159 [A (iS l)]=some (R (vI (vars4M l))):=by
 unfold vars4M
 cases q:eqI l.length 4
 ·refine orc_159 1 ?_
  simp (maxSteps:=1000000) +contextual -dsimp [Tryz.f159,q]
 ·have hl:l.length≤1000:=by simp [eqI] at q; omega
  have hlp:=lp83 l hl l 0 rfl
  refine orc_159 (l.length+1) ?_
  simp -dsimp [Tryz.f159] at hlp
  cases q2:anyV l
  ·rw [q2] at hlp
   simp (maxSteps:=1000000) +contextual -dsimp [Tryz.f159,q,hlp]
  ·rw [q2] at hlp
   simp (maxSteps:=1000000) +contextual -dsimp [Tryz.f159,q,hlp]
set_option maxHeartbeats 2000000 in
theorem lp84 (l:List Step) (c:Chart) (at_:Int) (hb:c.acts.length < 2 ^ 62) (all:List Int) (hall:all.length≤1000) (hk:∀ k,k∈all→∃ a:Nat,k=a∧a < c.acts.length):∀ (rest:List Int) (i n m:Nat),all.drop i=rest→n≤i→m≤i→
  evLoop E (orc E) (228:Nat) (rest.length+1) (loopOf Tryz.f228 0) ⟨130,[(0,.sl 124 (l.map (sT 219))),(1,.ipt (cT c)),(2,vI at_),(7,iS all),(8,vI n),(9,vI m),(10,vI i)],[],2⟩=
  some (.exit 0,⟨130,[(0,.sl 124 (l.map (sT 219))),(1,.ipt (cT c)),(2,vI at_),(7,iS all),(8,vI (cntM c.acts 1 rest n)),(9,vI (cntM c.acts 2 rest m)),(10,vI (i+rest.length:Nat)),(18,vB false)],[],2⟩)
 | [],i,n,m,h,hn,hm=>by
  have hge:all.length≤i:=by simpa using h
  have hlt:ltI (i:Int) (all.length:Int)=false:=ltI_f (by omega)
  rw [loop_eq]
  simp +contextual -dsimp [Tryz.f228,hlt,cntM]
 | x::rest,i,n,m,h,hn,hmm=>by
  obtain ⟨hi,hc,hr⟩:=drop_cons h
  obtain ⟨a,rfl,ha⟩:=hk x (by rw [← hc]; exact List.getElem_mem _)
  have hlt:ltI (i:Int) (all.length:Int)=true:=ltI_t (by omega)
  have hw:IntKind.i64.wrap ((i:Int)+1)=((i+1:Nat):Int):=by rw [wrapI] <;> omega
  have hw2:IntKind.i64.wrap ((n:Int)+1)=((n+1:Nat):Int):=by rw [wrapI] <;> omega
  have hw3:IntKind.i64.wrap ((m:Int)+1)=((m+1:Nat):Int):=by rw [wrapI] <;> omega
  have he:i+1+rest.length=i+(rest.length+1):=by omega
  have hs:=szAt_get ha
  cases q:eqI (c.acts[a]) 1
  ·cases q2:eqI (c.acts[a]) 2
   ·have ih:=lp84 l c at_ hb all hall hk rest (i+1) n m hr (by omega) (by omega)
    rw [he] at ih
    have hm1:cntM c.acts 1 ((a:Int)::rest) n=cntM c.acts 1 rest n:=by simp [cntM,hs,q]
    have hm2:cntM c.acts 2 ((a:Int)::rest) m=cntM c.acts 2 rest m:=by simp [cntM,hs,q2]
    rw [hm1,hm2]
    refine evLoop_next ?_ (by simpa only [List.length_cons] using ih)
    simp (maxSteps:=1000000) +contextual -dsimp [Tryz.f228,hlt,hi,hc,hw,ha,q,q2]
   ·have ih:=lp84 l c at_ hb all hall hk rest (i+1) n (m+1) hr (by omega) (by omega)
    rw [he] at ih
    have hm1:cntM c.acts 1 ((a:Int)::rest) n=cntM c.acts 1 rest n:=by simp [cntM,hs,q]
    have hm2:cntM c.acts 2 ((a:Int)::rest) m=cntM c.acts 2 rest (m+1):=by simp [cntM,hs,q2]
    rw [hm1,hm2]
    refine evLoop_next ?_ (by simpa only [List.length_cons] using ih)
    simp (maxSteps:=1000000) +contextual -dsimp [Tryz.f228,hlt,hi,hc,hw,hw3,ha,q,q2]
  ·have q2:eqI (c.acts[a]) 2=false:=by simp [eqI] at q ⊢; omega
   have ih:=lp84 l c at_ hb all hall hk rest (i+1) (n+1) m hr (by omega) (by omega)
   rw [he] at ih
   have hm1:cntM c.acts 1 ((a:Int)::rest) n=cntM c.acts 1 rest (n+1):=by simp [cntM,hs,q]
   have hm2:cntM c.acts 2 ((a:Int)::rest) m=cntM c.acts 2 rest m:=by simp [cntM,hs,q2]
   rw [hm1,hm2]
   refine evLoop_next ?_ (by simpa only [List.length_cons] using ih)
   simp (maxSteps:=1000000) +contextual -dsimp [Tryz.f228,hlt,hi,hc,hw,hw2,ha,q]
end Go.TM.Ft
namespace Go.TM.Ft
open Go Go.TM Go.Proofs
set_option maxRecDepth 20000
attribute [local congr] gif_cg
attribute [local simp] footOf noClash clash upsets setsHit setHits layHits layMeets setsMeet evFeet
theorem kids4_at {p:Int}:∀ {l:List Step} {i:Nat} {k:Int},k∈kids4M p i l→∃ a:Nat,k=a∧a < i+l.length
 | [],i,k,h=>by simp [kids4M] at h
 | x::l,i,k,h=>by
  unfold kids4M at h
  have tl:k∈kids4M p (i+1) l→∃ a:Nat,k=a∧a < i+(x::l).length:=fun h=>by
   obtain ⟨a,h1,h2⟩:=kids4_at h
   exact ⟨a,h1,by simp; omega⟩
  split at h
  ·rcases List.mem_cons.1 h with rfl | h
   ·exact ⟨i,rfl,by simp⟩
   ·exact tl h
  ·exact tl h
def wrongK (k:Int) (c:Chart) (on over:Int) (list:List Int) (due:Bool):Bool:=
 if orB (eqI k 1) (eqI k 3)=true then orB (orB (notB (eqI on 1)) (ltI 0 over)) due
 else if eqI k 4=true then orB (orB (ltI on 1) (notB (eqI (on+over) list.length))) due
 else if eqI k 8=true then orB (orB (notB (eqI on 1)) (ltI 0 over)) (notB (eqB due (eqI (szAt c.acts (szAt list 0)) 1)))
 else if eqI k 6=true then notB due
 else if eqI k 7=true then true
 else due
def wrong9 (l:List Step) (c:Chart) (i:Nat):Bool:=
 if notB (eqI (szAt c.acts i) 1)=true then orB (ltI 0 ((cntM c.acts 1 (kids4M i 0 l) 0:Nat)+(cntM c.acts 2 (kids4M i 0 l) 0:Nat))) (notB (eqI (szAt c.dues i) 0))
 else wrongK (kindOf l i) c (cntM c.acts 1 (kids4M i 0 l) 0:Nat) (cntM c.acts 2 (kids4M i 0 l) 0:Nat) (kids4M i 0 l) (notB (eqI (szAt c.dues i) 0))
set_option maxHeartbeats 8000000 in
theorem f_l9Wrong (l:List Step) (hl:l.length≤24) (c:Chart) (ha:c.acts.length=l.length) (hd:c.dues.length=l.length) (i:Nat) (hi:i < l.length):
  fo 228 [A (.sl 124 (l.map (sT 219))),A (.ipt (cT c)),A (vI i)]=some (R (vB (wrong9 l c i))):=by
 have g1:=f_l4Kids l (by omega) i
 have hk:∀ k,k∈kids4M i 0 l→∃ a:Nat,k=a∧a < c.acts.length:=fun k h=>by
  obtain ⟨a,h1,h2⟩:=kids4_at h
  exact ⟨a,h1,by omega⟩
 have hfew:=kids4_le i l 0
 have hia:i < c.acts.length:=by omega
 have hid:i < c.dues.length:=by omega
 have hsa:szAt c.acts (i:Int)=c.acts[i]:=szAt_get hia
 have hsd:szAt c.dues (i:Int)=c.dues[i]:=szAt_get hid
 have hki:kindOf l i=(l[i]).kind:=by simp [kindOf,hi]
 have b1:=cnt_le c.acts 1 (kids4M i 0 l) 0
 have b2:=cnt_le c.acts 2 (kids4M i 0 l) 0
 have hlp:=lp84 l c i (by omega) (kids4M i 0 l) (by omega) hk (kids4M i 0 l) 0 0 0 rfl (by omega) (by omega)
 unfold wrong9
 rw [hsa,hsd,hki]
 have hl0:cntM c.acts 1 (kids4M i 0 l) 0=1→0 < (kids4M i 0 l).length:=fun h=>by omega
 generalize hon:cntM c.acts 1 (kids4M i 0 l) 0=on at *
 generalize hov:cntM c.acts 2 (kids4M i 0 l) 0=ov at *
 have hw:IntKind.i64.wrap ((on:Int)+ov)=(on:Int)+ov:=by rw [wrapI] <;> omega
 generalize kids4M i 0 l=ks at *
 have hse:=seal4_iE ks
 refine orc_228 (ks.length+1) ?_
 simp -dsimp [Tryz.f228] at hlp
 cases q2:eqI c.acts[i] 1
 ·simp (maxSteps:=1000000) +contextual -dsimp [Tryz.f228,g1,hse,hlp,hia,hid,q2,hw]
 ·cases e1:eqI (l[i].kind) 1
  ·cases e3:eqI (l[i].kind) 3
   ·cases e4:eqI (l[i].kind) 4
    ·cases e8:eqI (l[i].kind) 8
     ·cases e6:eqI (l[i].kind) 6
      ·cases e7:eqI (l[i].kind) 7
       ·simp (maxSteps:=1000000) +contextual -dsimp [Tryz.f228,g1,hse,hlp,hia,hid,hi,q2,wrongK,e1,e3,e4,e8,e6,e7]
       ·simp (maxSteps:=1000000) +contextual -dsimp [Tryz.f228,g1,hse,hlp,hia,hid,hi,q2,wrongK,e1,e3,e4,e8,e6,e7]
      ·simp (maxSteps:=1000000) +contextual -dsimp [Tryz.f228,g1,hse,hlp,hia,hid,hi,q2,wrongK,e1,e3,e4,e8,e6]
     ·cases o1:eqI (on:Int) 1
      ·simp (maxSteps:=1000000) +contextual -dsimp [Tryz.f228,g1,hse,hlp,hia,hid,hi,q2,wrongK,e1,e3,e4,e8,o1]
      ·have hpos:0 < ks.length:=hl0 (by simp [eqI] at o1; omega)
       obtain ⟨a,ka,hla⟩:=hk (ks[0]) (List.getElem_mem _)
       have hs0:szAt ks 0=ks[0]:=szAt_get hpos
       have hs1:szAt c.acts (a:Int)=c.acts[a]:=szAt_get hla
       cases o2:ltI 0 (ov:Int)
       ·simp (maxSteps:=1000000) +contextual -dsimp [Tryz.f228,g1,hse,hlp,hia,hid,hi,q2,wrongK,e1,e3,e4,e8,o1,o2,hpos,hs0,ka,hs1,hla]
       ·simp (maxSteps:=1000000) +contextual -dsimp [Tryz.f228,g1,hse,hlp,hia,hid,hi,q2,wrongK,e1,e3,e4,e8,o1,o2,hs0,ka,hs1]
    ·simp (maxSteps:=1000000) +contextual -dsimp [Tryz.f228,g1,hse,hlp,hia,hid,hi,q2,hw,wrongK,e1,e3,e4]
   ·simp (maxSteps:=1000000) +contextual -dsimp [Tryz.f228,g1,hse,hlp,hia,hid,hi,q2,wrongK,e1,e3]
  ·simp (maxSteps:=1000000) +contextual -dsimp [Tryz.f228,g1,hse,hlp,hia,hid,hi,q2,wrongK,e1]
end Go.TM.Ft
namespace Go.TM.Ft
open Go Go.TM Go.Proofs
set_option maxRecDepth 20000
attribute [local congr] gif_cg
attribute [local simp] footOf noClash clash upsets setsHit setHits layHits layMeets setsMeet evFeet
def rng9 (c:Chart) (i:Nat):Bool:=orB (notB (inR (szAt c.acts i) 0 2)) (notB (inR (szAt c.dues i) 0 (c.now+99)))
def rngs9 (c:Chart):Nat→Nat→Bool
 | 0,_=>false
 | f+1,i=>if rng9 c i=true then true else rngs9 c f (i+1)
def some1 (c:Chart) (i:Nat) (s:Bool):Bool:=orB (orB s (notB (eqI (szAt c.acts i) 0))) (notB (eqI (szAt c.dues i) 0))
def some9 (c:Chart):Nat→Nat→Bool→Bool
 | 0,_,s=>s
 | f+1,i,s=>some9 c f (i+1) (some1 c i s)
set_option maxHeartbeats 2000000 in
theorem lp66a (l : List Step) (hl : l.length ≤ 24) (c : Chart) (ha : c.acts.length = l.length) (hd : c.dues.length = l.length) (hn0 : 0 ≤ c.now) (hn1 : c.now ≤ 1000000) : ∀ (f i : Nat) (s : Bool), i + f = l.length →
    evLoop E (orc E) (163 : Nat) (f + 1) (loopOf Tryz.f163 0) ⟨130, [(0, .sl 124 (l.map (sT 219))), (1, .ipt (cT c)), (7, vB s), (8, vI i)], [], 2⟩ =
    (if rngs9 c f i = true then some (.ret, ⟨130, [(4, vI 3)], [], 2⟩)
     else some (.exit 0, ⟨130, [(0, .sl 124 (l.map (sT 219))), (1, .ipt (cT c)), (7, vB (some9 c f i s)), (8, vI l.length), (58, vB false)], [], 2⟩))
  | 0, i, s, h => by
    have e : i = l.length := by omega
    subst e
    have hlt : ltI (l.length : Int) (l.length : Int) = false := ltI_f (by omega)
    rw [loop_eq]
    simp +contextual -dsimp [Tryz.f163, hlt, rngs9, some9]
  | f + 1, i, s, h => by
    have hi : i < l.length := by omega
    have hia : i < c.acts.length := by omega
    have hid : i < c.dues.length := by omega
    have hsa : szAt c.acts (i : Int) = c.acts[i] := szAt_get hia
    have hsd : szAt c.dues (i : Int) = c.dues[i] := szAt_get hid
    have hlt : ltI (i : Int) (l.length : Int) = true := ltI_t (by omega)
    have hw : IntKind.i64.wrap ((i : Int) + 1) = ((i + 1 : Nat) : Int) := by rw [wrapI] <;> omega
    have hw2 : IntKind.i64.wrap (c.now + 99) = c.now + 99 := by rw [wrapI] <;> omega
    cases q : inR c.acts[i] 0 2
    · have hm : rngs9 c (f + 1) i = true := by simp [rngs9, rng9, hsa, q, notB, orB]
      rw [hm, if_pos rfl]
      refine evLoop_out ?_ (by simp)
      simp (maxSteps := 1000000) +contextual -dsimp [Tryz.f163, hlt, hia, f_l1In, q]
    · cases q2 : inR c.dues[i] 0 (c.now + 99)
      · have hm : rngs9 c (f + 1) i = true := by simp [rngs9, rng9, hsa, hsd, q, q2, notB, orB]
        rw [hm, if_pos rfl]
        refine evLoop_out ?_ (by simp)
        simp (maxSteps := 1000000) +contextual -dsimp [Tryz.f163, hlt, hia, hid, hw2, f_l1In, q, q2]
      · have ih := lp66a l hl c ha hd hn0 hn1 f (i + 1) (some1 c i s) (by omega)
        have hm : rngs9 c (f + 1) i = rngs9 c f (i + 1) := by simp [rngs9, rng9, hsa, hsd, q, q2, notB, orB]
        have hm2 : some9 c (f + 1) i s = some9 c f (i + 1) (some1 c i s) := rfl
        rw [hm, hm2]
        refine evLoop_next ?_ ih
        unfold some1
        rw [hsa, hsd]
        simp (maxSteps := 1000000) +contextual -dsimp [Tryz.f163, hlt, hia, hid, hw, hw2, f_l1In, q, q2]
def wrongs9 (l:List Step) (c:Chart):Nat→Nat→Bool
 | 0,_=>false
 | f+1,i=>if wrong9 l c i=true then true else wrongs9 l c f (i+1)
theorem lp66b (l : List Step) (hl : l.length ≤ 24) (c : Chart) (ha : c.acts.length = l.length) (hd : c.dues.length = l.length) : ∀ (f i : Nat), i + f = l.length →
    evLoop E (orc E) (163 : Nat) (f + 1) (loopOf Tryz.f163 1) ⟨130, [(0, .sl 124 (l.map (sT 219))), (1, .ipt (cT c)), (9, vI i)], [], 2⟩ =
    (if wrongs9 l c f i = true then some (.ret, ⟨130, [(4, vI 1)], [], 2⟩)
     else some (.exit 2, ⟨130, [(0, .sl 124 (l.map (sT 219))), (1, .ipt (cT c)), (9, vI l.length), (123, vB false)], [], 2⟩))
  | 0, i, h => by
    have e : i = l.length := by omega
    subst e
    have hlt : ltI (l.length : Int) (l.length : Int) = false := ltI_f (by omega)
    rw [loop_eq]
    simp +contextual -dsimp [Tryz.f163, hlt, wrongs9]
  | f + 1, i, h => by
    have hi : i < l.length := by omega
    have hlt : ltI (i : Int) (l.length : Int) = true := ltI_t (by omega)
    have hw : IntKind.i64.wrap ((i : Int) + 1) = ((i + 1 : Nat) : Int) := by rw [wrapI] <;> omega
    have g := f_l9Wrong l hl c ha hd i hi
    cases q : wrong9 l c i
    · have ih := lp66b l hl c ha hd f (i + 1) (by omega)
      have hm : wrongs9 l c (f + 1) i = wrongs9 l c f (i + 1) := by simp [wrongs9, q]
      rw [hm]
      refine evLoop_next ?_ ih
      simp (maxSteps := 1000000) +contextual -dsimp [Tryz.f163, hlt, g, q, hw]
    · have hm : wrongs9 l c (f + 1) i = true := by simp [wrongs9, q]
      rw [hm, if_pos rfl]
      refine evLoop_out ?_ (by simp)
      simp (maxSteps := 1000000) +contextual -dsimp [Tryz.f163, hlt, g, q]
def fault9 (l:List Step) (c:Chart):Int:=
 if notB (eqI (fault4M l) 0)=true then fault4M l
 else if orB (notB (inR c.status 1 3)) (notB (inR c.now 0 1000000))=true then 3
 else if notB (eqI (vars4M c.vars) 0)=true then vars4M c.vars
 else if orB (notB (eqI c.acts.length l.length)) (notB (eqI c.dues.length l.length))=true then 2
 else if rngs9 c l.length 0=true then 3
 else if notB (eqI c.status 1)=true then (if some9 c l.length 0 false=true then 1 else 0)
 else if notB (eqI (szAt c.acts 0) 1)=true then 1
 else if wrongs9 l c l.length 0=true then 1 else 0
theorem fault4_pos {l:List Step} (h:fault4M l=0):1≤l.length∧l.length≤24:=by
 unfold fault4M at h
 split at h
 ·simp at h
 ·rename_i c; simp [orB,ltI] at c; omega
set_option maxHeartbeats 8000000 in
theorem f_l9Fault (l:List Step) (hl:l.length < 2 ^ 62) (hf:FitX l) (c:Chart):fo 163 [A (.sl 124 (l.map (sT 219))),A (.ipt (cT c))]=some (R (vI (fault9 l c))):=by
 have g1:=f_l4Fault l hl hf
 have g2:=f_Vars4 c.vars
 unfold fault9
 refine orc_163 (l.length+1) ?_
 cases q1:eqI (fault4M l) 0
 ·simp (maxSteps:=1000000) +contextual -dsimp [Tryz.f163,g1,q1]
 ·have e0:fault4M l=0:=by simpa [eqI] using q1
  obtain ⟨p1,p2⟩:=fault4_pos e0
  cases q2:inR c.status 1 3
  ·simp (maxSteps:=1000000) +contextual -dsimp [Tryz.f163,g1,e0,eqI_self,f_l1In,q2]
  ·cases q3:inR c.now 0 1000000
   ·simp (maxSteps:=1000000) +contextual -dsimp [Tryz.f163,g1,e0,eqI_self,f_l1In,f_l8Time,q2,q3]
   ·cases q4:eqI (vars4M c.vars) 0
    ·simp (maxSteps:=1000000) +contextual -dsimp [Tryz.f163,g1,g2,e0,eqI_self,f_l1In,f_l8Time,q2,q3,q4]
    ·have e1:vars4M c.vars=0:=by simpa [eqI] using q4
     cases q5:eqI c.acts.length l.length
     ·simp (maxSteps:=1000000) +contextual -dsimp [Tryz.f163,g1,g2,e0,e1,eqI_self,f_l1In,f_l8Time,q2,q3,q5]
     ·cases q6:eqI c.dues.length l.length
      ·simp (maxSteps:=1000000) +contextual -dsimp [Tryz.f163,g1,g2,e0,e1,eqI_self,f_l1In,f_l8Time,q2,q3,q5,q6]
      ·have ha:c.acts.length=l.length:=by simp [eqI] at q5; omega
       have hd:c.dues.length=l.length:=by simp [eqI] at q6; omega
       have hn:0≤c.now∧c.now≤1000000:=by simp [inR,andB,leI] at q3; omega
       have hlp:=lp66a l p2 c ha hd hn.1 hn.2 l.length 0 false (by omega)
       have hlq:=lp66b l p2 c ha hd l.length 0 (by omega)
       have ha0:0 < c.acts.length:=by omega
       have hs:szAt c.acts 0=c.acts[0]:=szAt_get ha0
       simp -dsimp [Tryz.f163] at hlp hlq
       cases q7:rngs9 c l.length 0
       ·rw [q7] at hlp
        cases q8:eqI c.status 1
        ·cases q9:some9 c l.length 0 false
         ·rw [q9] at hlp
          simp (maxSteps:=1000000) +contextual -dsimp [Tryz.f163,g1,g2,e0,e1,eqI_self,f_l1In,f_l8Time,q2,q3,q5,q6,q8,hlp]
         ·rw [q9] at hlp
          simp (maxSteps:=1000000) +contextual -dsimp [Tryz.f163,g1,g2,e0,e1,eqI_self,f_l1In,f_l8Time,q2,q3,q5,q6,q8,hlp]
        ·rw [hs]
         cases q10:eqI c.acts[0] 1
         ·simp (maxSteps:=1000000) +contextual -dsimp [Tryz.f163,g1,g2,e0,e1,eqI_self,f_l1In,f_l8Time,q2,q3,q5,q6,q8,q10,ha0,hlp]
         ·cases q11:wrongs9 l c l.length 0
          ·rw [q11] at hlq
           simp (maxSteps:=1000000) +contextual -dsimp [Tryz.f163,g1,g2,e0,e1,eqI_self,f_l1In,f_l8Time,q2,q3,q5,q6,q8,q10,ha0,hlp,hlq]
          ·rw [q11] at hlq
           simp (maxSteps:=1000000) +contextual -dsimp [Tryz.f163,g1,g2,e0,e1,eqI_self,f_l1In,f_l8Time,q2,q3,q5,q6,q8,q10,ha0,hlp,hlq]
       ·rw [q7] at hlp
        simp (maxSteps:=1000000) +contextual -dsimp [Tryz.f163,g1,g2,e0,e1,eqI_self,f_l1In,f_l8Time,q2,q3,q5,q6,hlp]
end Go.TM.Ft
namespace Go.TM.Ft
open Go Go.TM Go.Proofs
set_option maxRecDepth 20000
attribute [local congr] gif_cg
attribute [local simp] footOf noClash clash upsets setsHit setHits layHits layMeets setsMeet evFeet
theorem FitP.x {p:List Step} (h:FitP p):FitX p:=fun s hs=>⟨(h.steps s hs).name,(h.steps s hs).cond,(h.steps s hs).expr⟩
end Go.TM.Ft
namespace Go.TM.Ft
open Go Go.TM Go.Proofs
set_option maxRecDepth 20000
theorem idxM_any (p:Int→Bool):∀ (l:List Int) (i:Nat),leI 0 (idxM p i l)=l.any p
 | [],i=>by simp [idxM,leI]
 | x::l,i=>by
  have ih:=idxM_any p l (i+1)
  unfold idxM
  cases h:p x
  ·simp [ih,h]
  ·simp [h,leI]
theorem hasB_any (p:Int→Bool) (l:List Int):hasB p l=l.any p:=idxM_any p l 0
theorem anyV_any:∀ (l:List Int),anyV l=l.any badV
 | []=>rfl
 | x::l=>by
  unfold anyV
  rw [anyV_any l]
  cases h:badV x <;> simp [h]
theorem vars_same (l:List Int):vars4M l=varsM l:=by
 unfold vars4M varsM
 rw [anyV_any,hasB_any]
 cases eqI l.length 4 <;> cases l.any badV <;> rfl
theorem any_at {l:List Int} {p:Int→Bool}:l.any p=true ↔ ∃ i,i < l.length∧p (szAt l i)=true:=by
 rw [List.any_eq_true]
 constructor
 ·rintro ⟨x,hx,hp⟩
  obtain ⟨i,hi,he⟩:=List.getElem_of_mem hx
  exact ⟨i,hi,by rw [szAt_get hi,he]; exact hp⟩
 ·rintro ⟨i,hi,hp⟩
  rw [szAt_get hi] at hp
  exact ⟨_,List.getElem_mem hi,hp⟩
theorem rngs_iff (c:Chart):∀ (f i:Nat),rngs9 c f i=true ↔ ∃ k,i≤k∧k < i+f∧rng9 c k=true
 | 0,i=>by simp [rngs9]; omega
 | f+1,i=>by
  unfold rngs9
  have ih:=rngs_iff c f (i+1)
  cases h:rng9 c i
  ·simp only [Bool.false_eq_true,if_false]
   rw [ih]
   constructor
   ·rintro ⟨k,h1,h2,h3⟩; exact ⟨k,by omega,by omega,h3⟩
   ·rintro ⟨k,h1,h2,h3⟩
    rcases Nat.lt_or_ge i k with h' | h'
    ·exact ⟨k,h',by omega,h3⟩
    ·have e:k=i:=by omega
     subst e; rw [h] at h3; simp at h3
  ·simp only [if_true,true_iff]
   exact ⟨i,Nat.le_refl _,by omega,h⟩
theorem some_iff (c:Chart):∀ (f i:Nat) (s:Bool),some9 c f i s=true ↔ s=true∨∃ k,i≤k∧k < i+f∧(szAt c.acts k≠0∨szAt c.dues k≠0)
 | 0,i,s=>by
  simp only [some9]
  constructor
  ·exact .inl
  ·rintro (h | ⟨k,h1,h2,_⟩)
   ·exact h
   ·omega
 | f+1,i,s=>by
  have ih:=some_iff c f (i+1) (some1 c i s)
  unfold some9
  rw [ih]
  have h1:some1 c i s=true ↔ s=true∨szAt c.acts i≠0∨szAt c.dues i≠0:=by
   simp [some1,orB,notB,eqI,or_assoc]
  rw [h1]
  constructor
  ·rintro ((h | h) | ⟨k,a,b,h⟩)
   ·exact .inl h
   ·exact .inr ⟨i,Nat.le_refl _,by omega,h⟩
   ·exact .inr ⟨k,by omega,by omega,h⟩
  ·rintro (h | ⟨k,a,b,h⟩)
   ·exact .inl (.inl h)
   ·rcases Nat.lt_or_ge i k with h' | h'
    ·exact .inr ⟨k,h',by omega,h⟩
    ·have e:k=i:=by omega
     subst e; exact .inl (.inr h)
theorem small_iff {m:Int} {l:List Int}:smS m l=false ↔ ∃ i,i < l.length∧inR (szAt l i) 0 m=false:=by
 unfold smS
 rw [hasB_any]
 have:notB (l.any (badS m))=false ↔ l.any (badS m)=true:=by simp [notB]
 rw [this,any_at]
 simp [badS,notB]
theorem rng_same {c:Chart} {n:Nat} (ha:c.acts.length=n) (hd:c.dues.length=n):rngs9 c n 0=orB (notB (smS 2 c.acts)) (notB (smS (c.now+99) c.dues)):=by
 rw [Bool.eq_iff_iff,rngs_iff]
 have e1:orB (notB (smS 2 c.acts)) (notB (smS (c.now+99) c.dues))=true ↔ smS 2 c.acts=false∨smS (c.now+99) c.dues=false:=by simp [orB,notB]
 rw [e1,small_iff,small_iff]
 have e2:∀ k,rng9 c k=true ↔ inR (szAt c.acts k) 0 2=false∨inR (szAt c.dues k) 0 (c.now+99)=false:=fun k=>by simp [rng9,orB,notB]
 constructor
 ·rintro ⟨k,_,h2,h3⟩
  rcases (e2 k).1 h3 with h | h
  ·exact .inl ⟨k,by omega,h⟩
  ·exact .inr ⟨k,by omega,h⟩
 ·rintro (⟨k,h2,h3⟩ | ⟨k,h2,h3⟩)
  ·exact ⟨k,Nat.zero_le _,by omega,(e2 k).2 (.inl h3)⟩
  ·exact ⟨k,Nat.zero_le _,by omega,(e2 k).2 (.inr h3)⟩
theorem some_same {c:Chart} {n:Nat} (ha:c.acts.length=n) (hd:c.dues.length=n):some9 c n 0 false=notB (andB (smS 0 c.acts) (smS 0 c.dues)):=by
 rw [Bool.eq_iff_iff,some_iff]
 have e1:notB (andB (smS 0 c.acts) (smS 0 c.dues))=true ↔ smS 0 c.acts=false∨smS 0 c.dues=false:=by
  cases smS 0 c.acts <;> cases smS 0 c.dues <;> simp [notB,andB]
 have e2:∀ x:Int,inR x 0 0=false ↔ x≠0:=fun x=>by
  by_cases h:x=0
  ·simp [inR,andB,leI,h]
  ·have:¬ (0≤x∧x≤0):=by omega
   simp [inR,andB,leI,h]; omega
 rw [e1,small_iff,small_iff]
 simp only [e2,Bool.false_eq_true,false_or]
 constructor
 ·rintro ⟨k,_,h2,h | h⟩
  ·exact .inl ⟨k,by omega,h⟩
  ·exact .inr ⟨k,by omega,h⟩
 ·rintro (⟨k,h2,h3⟩ | ⟨k,h2,h3⟩)
  ·exact ⟨k,Nat.zero_le _,by omega,.inl h3⟩
  ·exact ⟨k,Nat.zero_le _,by omega,.inr h3⟩
theorem cnt_pos (acts:List Int) (act:Int):∀ (l:List Int) (n:Nat),n < cntM acts act l n ↔ ∃ k,k∈l∧szAt acts k=act
 | [],n=>by simp [cntM]
 | x::l,n=>by
  unfold cntM
  cases h:eqI (szAt acts x) act
  ·simp only [Bool.false_eq_true,if_false]
   rw [cnt_pos acts act l n]
   have hx:szAt acts x≠act:=by simpa [eqI] using h
   simp [hx]
  ·simp only [if_true]
   have hx:szAt acts x=act:=by simpa [eqI] using h
   have h1:=cnt_pos acts act l (n+1)
   have h2:n+1≤cntM acts act l (n+1):=by
    clear h1 h hx
    have:∀ (l:List Int) (m:Nat),m≤cntM acts act l m:=by
     intro l
     induction l with
     | nil=>intro m; simp [cntM]
     | cons y l ih=>
      intro m
      unfold cntM
      split
      ·have:=ih (m+1); omega
      ·exact ih m
    exact this l (n+1)
   constructor
   ·intro _; exact ⟨x,by simp,hx⟩
   ·intro _; omega
theorem kids4_iff {p:Int}:∀ {l:List Step} {i:Nat} {k:Int},k∈kids4M p i l ↔ ∃ (a:Nat) (h:a < l.length),k=(i+a:Nat)∧(l[a]).parent=p
 | [],i,k=>by simp [kids4M]
 | x::l,i,k=>by
  have ih:=kids4_iff (p:=p) (l:=l) (i:=i+1) (k:=k)
  have tl:(∃ (a:Nat) (h:a < l.length),k=(i+1+a:Nat)∧(l[a]).parent=p) ↔ ∃ (a:Nat) (h:a < (x::l).length),k=(i+a:Nat)∧((x::l)[a]).parent=p∧0 < a:=by
   constructor
   ·rintro ⟨a,h,h1,h2⟩
    exact ⟨a+1,by simp; omega,by omega,by simpa using h2,by omega⟩
   ·rintro ⟨a,h,h1,h2,h3⟩
    cases a with
    | zero=>omega
    | succ a=>exact ⟨a,by simpa using h,by omega,by simpa using h2⟩
  unfold kids4M
  cases h:eqI x.parent p
  ·simp only [Bool.false_eq_true,if_false]
   rw [ih,tl]
   constructor
   ·rintro ⟨a,h,h1,h2,_⟩; exact ⟨a,h,h1,h2⟩
   ·rintro ⟨a,ha,h1,h2⟩
    refine ⟨a,ha,h1,h2,?_⟩
    cases a with
    | zero=>simp [eqI] at h; simp at h2; exact absurd h2 h
    | succ a=>omega
  ·simp only [if_true,List.mem_cons]
   rw [ih,tl]
   constructor
   ·rintro (h1 | ⟨a,h,h1,h2,_⟩)
    ·exact ⟨0,by simp,by simpa using h1,by simpa [eqI] using h⟩
    ·exact ⟨a,h,h1,h2⟩
   ·rintro ⟨a,ha,h1,h2⟩
    cases a with
    | zero=>exact .inl (by simpa using h1)
    | succ a=>exact .inr ⟨a+1,ha,h1,h2,by omega⟩
end Go.TM.Ft
