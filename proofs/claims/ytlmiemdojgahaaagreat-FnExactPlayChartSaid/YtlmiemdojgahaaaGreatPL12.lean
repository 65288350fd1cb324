/- What functions of the program come to, by the machine. -/
import Derived.Test.YtlmiemdojgahaaaGreatPL11
import Derived.Test.YtlmiemdojgahaaaGreatPL8
set_option linter.unusedSimpArgs false
set_option linter.unusedVariables false
namespace Go.TM.Ft
open Go Go.TM Go.Proofs
set_option maxRecDepth 20000
attribute [local congr] gif_cg
attribute [local simp] footOf noClash clash upsets setsHit setHits layHits layMeets setsMeet evFeet seal4_iE seal4_set clean_iE
def tickA (l:List Step) (c:Chart) (now:Int):Int:=first2 (chartM l c) (ci (notB (inR now c.now 1000000)) 3)
def tickR (l:List Step) (c:Chart) (now:Int):Int × Chart:=if notB (eqI (tickA l c now) 0)=true then (tickA l c now,noC) else (0,tickM l 30 { c with now:=now })
theorem tick_inv {l:List Step} {c:Chart} {now:Int} (hI:Inv l c) (hd:DueOk l c) (h1:c.now≤now) (h2:now≤1000000):Inv l { c with now:=now }∧DueOk l { c with now:=now }:=
 ⟨⟨hI.vars,hI.acts,hI.dues,by have:=hI.now0; show 0≤now; omega,h2,hI.rng⟩,hd⟩
theorem cnt_few {l:List Step} (w:Wf l) {c:Chart} (hI:Inv l c):cnt c.now c.dues < 30:=by
 have h1:cnt c.now c.dues≤c.dues.length:=List.countP_le_length
 have:=hI.dues
 have:=w.ok.le
 omega
set_option maxHeartbeats 4000000 in
theorem f_TickChart (l:List Step) (hl:l.length < 2 ^ 62) (hf:∀ s,s∈l→FitS s) (c:Chart) (hc:FitC c) (now:Int):
  fo 132 [A (.sl 124 (l.map (sT 219))),A (.agg (cT c)),A (vI now)]=some (RR (tickR l c now)):=by
 have g1:=f_ChartFault l hl hf c hc
 have g3:=f_first2 (chartM l c) (ci (notB (inR now c.now 1000000)) 3)
 rw [show first2 (chartM l c) (ci (notB (inR now c.now 1000000)) 3)=tickA l c now from rfl] at g3
 unfold tickR
 cases q:eqI (tickA l c now) 0
 ·refine orc_132 1 ?_
  simp (maxSteps:=1000000) +contextual -dsimp [Tryz.f132,g1,g3,f_inRange,f_ci,q,noC,List.set]
 ·have q0:tickA l c now=0:=by simpa [eqI] using q
  obtain ⟨z1,z2⟩:=first2_zero q0
  have z2:=ci_zero (by omega) z2
  have z2:inR now c.now 1000000=true:=by cases e:inR now c.now 1000000 <;> simp [e,notB] at z2 ⊢
  simp only [inR,andB,leI,Bool.and_eq_true,decide_eq_true_eq] at z2
  obtain ⟨hI,w,_,_⟩:=inv_of z1
  obtain ⟨i1,d1⟩:=tick_inv hI (due_of z1) z2.1 z2.2
  obtain ⟨st,h1,x,hx,rfl⟩:=lp132 w now 30 _ i1 d1 rfl (cnt_few w i1)
  have g5:=f_cloneC c (hI.few w)
  have q1:eqI 0 0=true:=rfl
  rw [q0] at g3
  have n0:notB true=false:=rfl
  rw [n0,if_neg (by simp)]
  generalize tickM l 30 { c with now:=now }=c' at *
  simp -dsimp [Tryz.f132] at h1
  refine orc_132 30 ?_
  rcases hx with rfl | ⟨d,rfl⟩ <;> simp (maxSteps:=1000000) +contextual -dsimp [Tryz.f132,g1,g3,g5,h1,f_inRange,f_ci,q1,List.set]
set_option maxHeartbeats 4000000 in
theorem lp130 {l:List Step} (w:Wf l):∀ (f:Nat) (c:Chart),Inv l c→DueOk l c→cnt c.now c.dues < f→
  ∃ ex st,evLoop E (orc E) (130:Nat) f (loopOf Tryz.f130 0) ⟨52,[(0,.sl 124 (l.map (sT 219))),(1,.ptr 1 0 [] 0)],[(1,⟨0,1,true,cO c⟩)],2⟩=some (ex,st)∧(ex=.exit 0∧st=⟨52,[(0,.sl 124 (l.map (sT 219))),(1,.ptr 1 0 [] 0),(16,vB false)],[(1,⟨0,1,true,cO (tickM l f c)⟩)],2⟩∨
   ex=.ret∧∃ d,st=⟨52,[(0,.sl 124 (l.map (sT 219))),(1,.ptr 1 0 [] 0),(6,vI d),(20,vB true)],[(1,⟨0,1,true,cO (tickM l f c)⟩)],2⟩)
 | 0,c,_,_,h=>by omega
 | f+1,c,hI,hD,hc=>by
  have hle:=w.ok.le
  unfold tickM
  cases q1:eqI c.status 1
  ·rw [if_neg (by simp)]
   refine ⟨_,_,evLoop_out ?_ (by simp),.inl ⟨rfl,rfl⟩⟩
   simp (maxSteps:=1000000) +contextual -dsimp [Tryz.f130,q1,List.set]
  ·rw [if_pos rfl]
   have g1:=f_l9Due c (by rw [hI.dues]; omega)
   rcases dueM_some c.dues c.now with e | ⟨d,e,hd,hdue⟩
   ·rw [e] at g1 ⊢
    have e1:ltI (-1) 0=true:=rfl
    rw [e1,if_pos rfl]
    refine ⟨_,_,evLoop_out ?_ (by simp),.inr ⟨rfl,-1,rfl⟩⟩
    simp (maxSteps:=1000000) +contextual -dsimp [Tryz.f130,q1,g1,e1,List.set]
   ·rw [e] at g1 ⊢
    have e1:ltI (d:Int) 0=false:=ltI_f (by omega)
    rw [e1,if_neg (by simp),Int.toNat_natCast]
    have hdl:d < l.length:=by rw [← hI.dues]; exact hd
    obtain ⟨t1,t2,t3,t4⟩:=tickC_ok w hI hD hdl hdue
    obtain ⟨ex,st,ih1,ih2⟩:=lp130 w f (tickC l d c) t1 t2 (by omega)
    refine ⟨ex,st,?_,ih2⟩
    refine evLoop_next ?_ ih1
    have hk:=kindOf_at hdl
    cases q6:eqI (kindOf l d) 6
    ·have h8:=dueK_8 hD hdl hdue q6
     obtain ⟨a,b,r,hks,ha,hb⟩:=kids_two w hdl h8
     have gk:=f_l4Kids l (by omega) d
     rw [← proc_kids w.ok] at gk
     have i0:Inv l { c with dues:=c.dues.set d 0 }:=hI.due d 0
     have i1:Inv l (guardC l d c):=i0.idle _
     have s0:szAt (kidsM d 0 l) 0=a:=by rw [hks]; rfl
     have s1:szAt (kidsM d 0 l) 1=b:=by rw [hks]; rfl
     have g2:=f_l9Idle w { c with dues:=c.dues.set d 0 } i0.acts i0.dues a ha
     have eg:idleC (undsM l a) { c with dues:=c.dues.set d 0 }=guardC l d c:=by unfold guardC; rw [s0]; rfl
     rw [eg] at g2
     have g3:=f_goEnter4 w i1 b hb
     have et:tickC l d c=goX l true b (guardC l d c):=by unfold tickC; rw [q6,if_neg (by simp),s1]; rfl
     rw [et]
     generalize goX l true b (guardC l d c)=c2 at *
     generalize guardC l d c=c1 at *
     simp only [aC,cO,RC,iE,List.map_set] at g2
     rw [hks] at gk
     rw [hk] at q6
     generalize kidsM d 0 l=ks at *
     subst hks
     simp (maxSteps:=1000000) +contextual -dsimp [Tryz.f130,q1,g1,e1,hdl,q6,gk,hd,g2,g3,List.set]
    ·have g2:=f_goOver4 w hI d hdl
     have et:tickC l d c=goX l false d c:=by unfold tickC; rw [q6,if_pos rfl]
     rw [et]
     rw [hk] at q6
     generalize goX l false d c=c1 at *
     simp (maxSteps:=1000000) +contextual -dsimp [Tryz.f130,q1,g1,e1,hdl,q6,g2,List.set]
set_option maxHeartbeats 4000000 in
theorem f_l9Tick {l:List Step} (w:Wf l) (c:Chart) (hI:Inv l c) (hD:DueOk l c) (now:Int) (h1:c.now≤now) (h2:now≤1000000):
  fo 130 [A (.sl 124 (l.map (sT 219))),aC c,A (vI now)]=some (RC (tickM l 30 { c with now:=now })):=by
 obtain ⟨i1,d1⟩:=tick_inv hI hD h1 h2
 obtain ⟨ex,st,h,hx⟩:=lp130 w 30 _ i1 d1 (cnt_few w i1)
 generalize tickM l 30 { c with now:=now }=c' at *
 refine orc_130 30 ?_
 rcases hx with ⟨rfl,rfl⟩ | ⟨rfl,d,rfl⟩ <;> (simp -dsimp [Tryz.f130] at h; simp (maxSteps:=1000000) +contextual -dsimp [Tryz.f130,h,List.set])
set_option maxHeartbeats 4000000 in
theorem f4_TickChart (l:List Step) (hl:l.length < 2 ^ 62) (hf:FitX l) (c:Chart) (now:Int):
  fo 74 [A (.sl 124 (l.map (sT 219))),A (.agg (cT c)),A (vI now)]=some (RR (tickR l c now)):=by
 have g1:=f_l9Fault l hl hf c
 rw [chart_same] at g1
 unfold tickR
 cases q:eqI (chartM l c) 0
 ·have e:tickA l c now=chartM l c:=by simp [tickA,first2,q]
  have gb:=f_l9Bad (chartM l c)
  rw [e,q]
  refine orc_74 1 ?_
  simp (maxSteps:=1000000) +contextual -dsimp [Tryz.f74,g1,gb,q,List.set]
 ·have q0:chartM l c=0:=by simpa [eqI] using q
  obtain ⟨hI,w,_,_⟩:=inv_of q0
  have e:tickA l c now=ci (notB (inR now c.now 1000000)) 3:=by simp [tickA,first2,q]
  have gb:=f_l9Bad 3
  have n0:=hI.now0
  cases r1:ltI now c.now
  ·have h1:c.now≤now:=by simpa [ltI] using r1
   cases r2:inR now 0 1000000
   ·have r3:inR now c.now 1000000=false:=by
     simp only [inR,andB,leI,Bool.and_eq_false_iff,decide_eq_false_iff_not] at r2 ⊢; omega
    rw [e,r3]
    have n3:notB (eqI (ci (notB false) 3) 0)=true:=rfl
    rw [n3,if_pos rfl]
    refine orc_74 1 ?_
    simp (maxSteps:=1000000) +contextual -dsimp [Tryz.f74,g1,gb,q,r1,r2,f_l8Time,List.set]
    rfl
   ·have h2:now≤1000000:=by simp only [inR,andB,leI,Bool.and_eq_true,decide_eq_true_eq] at r2; exact r2.2
    have r3:inR now c.now 1000000=true:=by
     simp only [inR,andB,leI,Bool.and_eq_true,decide_eq_true_eq]; omega
    rw [e,r3]
    have n3:notB (eqI (ci (notB true) 3) 0)=false:=rfl
    rw [n3,if_neg (by simp)]
    have g5:=f_l9Copy c (hI.few w)
    have g6:=f_l9Tick w c hI (due_of q0) now h1 h2
    generalize tickM l 30 { c with now:=now }=c' at *
    refine orc_74 1 ?_
    simp (maxSteps:=1000000) +contextual -dsimp [Tryz.f74,g1,g5,g6,q,r1,r2,f_l8Time,List.set]
  ·have h1:now < c.now:=by simpa [ltI] using r1
   have r3:inR now c.now 1000000=false:=by
    simp only [inR,andB,leI,Bool.and_eq_false_iff,decide_eq_false_iff_not]; omega
   rw [e,r3]
   have n3:notB (eqI (ci (notB false) 3) 0)=true:=rfl
   rw [n3,if_pos rfl]
   refine orc_74 1 ?_
   simp (maxSteps:=1000000) +contextual -dsimp [Tryz.f74,g1,gb,q,r1,List.set]
   rfl
end Go.TM.Ft
namespace Go.TM.Ft
open Go Go.TM Go.Proofs
set_option maxRecDepth 20000
attribute [local congr] gif_cg
attribute [local simp] footOf noClash clash upsets setsHit setHits layHits layMeets setsMeet evFeet seal4_iE seal4_set clean_iE
structure Act where
 kind:Int
 at_:Int
 vars:List Int
abbrev aT (a:Act):List T:=[vI a.kind,vI a.at_,iS a.vars]
def FitA (a:Act):Prop:=a.vars.length < 2 ^ 62
def actA (a:Act):Int:=first2 (ci (orB (notB (inR a.kind 1 3)) (andB (ltI 0 a.vars.length) (notB (eqI a.kind 1)))) 1) (ci (notB (inR a.at_ 0 9999)) 3)
def actM (a:Act):Int:=if orB (notB (eqI (actA a) 0)) (notB (eqI a.kind 1))=true then actA a else varsM a.vars
set_option maxHeartbeats 4000000 in
theorem f_ActFault (a:Act) (h:FitA a):fo 172 [A (.agg (aT a))]=some (R (vI (actM a))):=by
 have g1:=f_VarsFault a.vars h
 have g2:=f_first2 (ci (orB (notB (inR a.kind 1 3)) (andB (ltI 0 a.vars.length) (notB (eqI a.kind 1)))) 1) (ci (notB (inR a.at_ 0 9999)) 3)
 have e:first2 (ci (orB (notB (inR a.kind 1 3)) (andB (ltI 0 a.vars.length) (notB (eqI a.kind 1)))) 1) (ci (notB (inR a.at_ 0 9999)) 3)=actA a:=rfl
 rw [e] at g2
 unfold actM
 refine orc_172 1 ?_
 cases q4:eqI (actA a) 0
 ·simp (maxSteps:=1000000) +contextual -dsimp [Tryz.f172,f_inRange,f_ci,g2,q4]
 ·cases q3:eqI a.kind 1
  ·simp only [q3,notB_f,notB_t,andB_tr,andB_fr,orB_fr] at g2
   simp (maxSteps:=1000000) +contextual -dsimp [Tryz.f172,f_inRange,f_ci,g2,q3,q4]
  ·simp only [q3,notB_f,notB_t,andB_tr,andB_fr,orB_fr] at g2
   simp (maxSteps:=1000000) +contextual -dsimp [Tryz.f172,f_inRange,f_ci,g1,g2,q3,q4]
def act4M (a:Act):Int:=
 if orB (notB (inR a.kind 1 3)) (andB (notB (eqI a.kind 1)) (ltI 0 a.vars.length))=true then 1
 else if notB (inR a.at_ 0 9999)=true then 3 else if eqI a.kind 1=true then vars4M a.vars else 0
set_option maxHeartbeats 4000000 in
theorem f4_ActFault (a:Act):fo 162 [A (.agg (aT a))]=some (R (vI (act4M a))):=by
 have g1:=f_Vars4 a.vars
 unfold act4M
 refine orc_162 1 ?_
 cases q1:inR a.kind 1 3 <;> cases q3:eqI a.kind 1 <;> cases q2:ltI 0 a.vars.length <;> cases q4:inR a.at_ 0 9999 <;>
  simp (maxSteps:=1000000) +contextual -dsimp [Tryz.f162,f_l1In,g1,q1,q2,q3,q4]
theorem act_same (a:Act):act4M a=actM a:=by
 unfold act4M actM actA
 rw [vars_same]
 cases inR a.kind 1 3 <;> cases eqI a.kind 1 <;> cases ltI 0 a.vars.length <;> cases inR a.at_ 0 9999 <;> simp [first2,ci,notB,orB,andB,eqI]
def actG (_:Nat) (_:Unit) (a:Act):Int ⊕ Unit:=if notB (eqI (actM a) 0)=true then .inl (actM a) else .inr ()
def actE:Int ⊕ Unit→Int
 | .inl e=>e
 | .inr _=>0
def actsM (l:List Act):Int:=if ltI 30 l.length=true then 2 else actE (foldS actG 0 () l)
set_option maxHeartbeats 1000000 in
theorem f_actsFault (l:List Act) (hf:∀ a,a∈l→FitA a):fo 79 [A (.sl 119 (l.map aT))]=some (R (vI (actsM l))):=by
 unfold actsM
 cases q:ltI 30 (l.length:Int)
 ·have hle:l.length≤30:=by simp [ltI] at q; omega
  have h:=loop_list (f:=79) (id:=0) (code:=loopOf Tryz.f79 0) l (fun _ _=>True)
   (fun i (_:Unit)=>⟨21,[(9,.sl 119 (l.map aT)),(10,vI l.length),(11,vI i)],[],2⟩) actG
   (fun _=>⟨21,[(9,.sl 119 (l.map aT)),(10,vI l.length),(11,vI l.length),(12,vB false)],[],2⟩)
   (fun e st=>st=⟨21,[(2,vI e)],[],2⟩)
  have h2:=h ?_ ?_ l 0 () rfl (Nat.zero_le _) trivial
  ·cases e:foldS actG 0 () l with
   | inr s=>
    rw [e] at h2
    simp only [Goes] at h2
    simp -dsimp [Tryz.f79] at h2
    refine orc_79 (l.length+1) ?_
    simp (maxSteps:=1000000) +contextual -dsimp [Tryz.f79,q,h2,actE]
   | inl k=>
    rw [e] at h2
    simp only [Goes] at h2
    obtain ⟨st,h1,rfl⟩:=h2
    simp -dsimp [Tryz.f79] at h1
    refine orc_79 (l.length+1) ?_
    simp (maxSteps:=1000000) +contextual -dsimp [Tryz.f79,q,h1,actE]
  ·intro k _ _
   have hlt:=ltN_f l.length
   simp +contextual -dsimp [Tryz.f79,hlt]
  ·intro k i _ hi _
   have hlt:=ltN_t hi
   have hw:=wrap1 hi (by omega)
   have g:=f_ActFault l[i] (hf _ (List.getElem_mem hi))
   refine ⟨fun s' hg=>⟨?_,trivial⟩,fun e hg=>?_⟩
   ·unfold actG at hg
    generalize hs1:((i+1:Nat):Int)=i1 at *
    cases q1:eqI (actM l[i]) 0
    ·rw [q1] at hg; simp [notB] at hg
    ·simp (maxSteps:=1000000) +contextual -dsimp [Tryz.f79,hlt,hi,hw,hs1,g,q1,List.set]
   ·unfold actG at hg
    cases q1:eqI (actM l[i]) 0
    ·rw [q1] at hg
     simp only [show notB false=true from rfl,if_true,Sum.inl.injEq] at hg; subst hg
     refine ⟨_,?_,rfl⟩
     simp (maxSteps:=1000000) +contextual -dsimp [Tryz.f79,hlt,hi,g,q1,List.set]
    ·rw [q1] at hg; simp [notB] at hg
 ·refine orc_79 1 ?_
  simp (maxSteps:=1000000) +contextual -dsimp [Tryz.f79,q]
set_option maxHeartbeats 1000000 in
theorem f_l10Acts (l:List Act):fo 71 [A (.sl 119 (l.map aT))]=some (R (vI (actsM l))):=by
 unfold actsM
 cases q:ltI 30 (l.length:Int)
 ·have hle:l.length≤30:=by simp [ltI] at q; omega
  have h:=loop_list (f:=71) (id:=0) (code:=loopOf Tryz.f71 0) l (fun _ _=>True)
   (fun i (_:Unit)=>⟨22,[(0,.sl 119 (l.map aT)),(3,vI i)],[],2⟩) actG
   (fun _=>⟨22,[(0,.sl 119 (l.map aT)),(3,vI l.length),(11,vB false)],[],2⟩)
   (fun e st=>st=⟨22,[(2,vI e)],[],2⟩)
  have h2:=h ?_ ?_ l 0 () rfl (Nat.zero_le _) trivial
  ·cases e:foldS actG 0 () l with
   | inr s=>
    rw [e] at h2
    simp only [Goes] at h2
    simp -dsimp [Tryz.f71] at h2
    refine orc_71 (l.length+1) ?_
    simp (maxSteps:=1000000) +contextual -dsimp [Tryz.f71,q,h2,actE]
   | inl k=>
    rw [e] at h2
    simp only [Goes] at h2
    obtain ⟨st,h1,rfl⟩:=h2
    simp -dsimp [Tryz.f71] at h1
    refine orc_71 (l.length+1) ?_
    simp (maxSteps:=1000000) +contextual -dsimp [Tryz.f71,q,h1,actE]
  ·intro k _ _
   have hlt:=ltN_f l.length
   simp +contextual -dsimp [Tryz.f71,hlt]
  ·intro k i _ hi _
   have hlt:=ltN_t hi
   have hw:=wrap1 hi (by omega)
   have g:=f4_ActFault l[i]
   rw [act_same] at g
   refine ⟨fun s' hg=>⟨?_,trivial⟩,fun e hg=>?_⟩
   ·unfold actG at hg
    generalize hs1:((i+1:Nat):Int)=i1 at *
    cases q1:eqI (actM l[i]) 0
    ·rw [q1] at hg; simp [notB] at hg
    ·simp (maxSteps:=1000000) +contextual -dsimp [Tryz.f71,hlt,hi,hw,hs1,g,q1,List.set]
   ·unfold actG at hg
    cases q1:eqI (actM l[i]) 0
    ·rw [q1] at hg
     simp only [show notB false=true from rfl,if_true,Sum.inl.injEq] at hg; subst hg
     refine ⟨_,?_,rfl⟩
     simp (maxSteps:=1000000) +contextual -dsimp [Tryz.f71,hlt,hi,g,q1,List.set]
    ·rw [q1] at hg; simp [notB] at hg
 ·refine orc_71 1 ?_
  simp (maxSteps:=1000000) +contextual -dsimp [Tryz.f71,q]
def actR (l:List Step) (c:Chart) (a:Act):Int × Chart:=
 if eqI a.kind 1=true then doneM l c a.at_ a.vars else if eqI a.kind 2=true then mailM l c a.at_ else tickR l c (c.now+a.at_)
set_option maxHeartbeats 1000000 in
theorem f_actChart (l:List Step) (hl:l.length < 2 ^ 62) (hf:∀ s,s∈l→FitS s) (c:Chart) (hc:FitC c) (a:Act) (ha:FitA a) (hw:IntKind.i64.wrap (c.now+a.at_)=c.now+a.at_):
  fo 80 [A (.sl 124 (l.map (sT 219))),A (.agg (cT c)),A (.agg (aT a))]=some (RR (actR l c a)):=by
 have g1:=f_DoneChart l hl hf c hc a.at_ a.vars ha
 have g2:=f_MailChart l hl hf c hc a.at_
 have g3:=f_TickChart l hl hf c hc (c.now+a.at_)
 unfold actR
 refine orc_80 1 ?_
 cases q1:eqI a.kind 1
 ·cases q2:eqI a.kind 2
  ·simp (maxSteps:=1000000) +contextual -dsimp [Tryz.f80,q1,q2,g3,hw,List.set]
  ·simp (maxSteps:=1000000) +contextual -dsimp [Tryz.f80,q1,q2,g2,List.set]
 ·simp (maxSteps:=1000000) +contextual -dsimp [Tryz.f80,q1,g1,List.set]
theorem tickM_inv {l:List Step} (w:Wf l):∀ (f:Nat) (c:Chart),Inv l c→DueOk l c→Inv l (tickM l f c)
 | 0,c,h,_=>h
 | f+1,c,h,hD=>by
  unfold tickM
  split
  ·split
   ·exact h
   ·rename_i e
    rcases dueM_some c.dues c.now with q | ⟨d,q,hd,hdue⟩
    ·rw [q] at e; exact absurd rfl e
    ·rw [q,Int.toNat_natCast]
     obtain ⟨t1,t2,_,_⟩:=tickC_ok w h hD (by rw [← h.dues]; exact hd) hdue
     exact tickM_inv w f _ t1 t2
  ·exact h
theorem actR_inv {l:List Step} {c:Chart} {a:Act} (h:(actR l c a).1=0):Inv l (actR l c a).2:=by
 unfold actR at h ⊢
 split
 ·rename_i q
  rw [if_pos q] at h
  unfold doneM at h ⊢
  split
  ·rename_i q1; rw [if_pos q1] at h; simp only at h; rw [h] at q1; simp [notB,eqI] at q1
  ·rename_i q1
   rw [if_neg q1] at h
   split
   ·rename_i q2; rw [if_pos q2] at h; simp at h
   ·rename_i q2
    have z:first2 (chartM l c) (varsM a.vars)=0:=by simpa [notB,eqI] using q1
    obtain ⟨z1,z2⟩:=first2_zero z
    obtain ⟨hI,w,_,_⟩:=inv_of z1
    obtain ⟨v1,v2⟩:=varsM_zero z2
    have q3:openM l c.acts a.at_=true:=by simpa [notB] using q2
    obtain ⟨k,e,hk,_⟩:=openM_true q3
    rw [e,Int.toNat_natCast]
    exact goX_inv w _ _ _ ⟨v1,hI.acts,hI.dues,hI.now0,hI.now1,v2⟩ hk
 ·rename_i q
  rw [if_neg q] at h
  split
  ·rename_i q'
   rw [if_pos q'] at h
   unfold mailM at h ⊢
   split
   ·rename_i q1; rw [if_pos q1] at h; simp only at h; rw [h] at q1; simp [notB,eqI] at q1
   ·rename_i q1
    rw [if_neg q1] at h
    have z:mailA l c a.at_=0:=by simpa [notB,eqI] using q1
    obtain ⟨z1,z2⟩:=first2_zero z
    obtain ⟨hI,w,_,_⟩:=inv_of z1
    cases e:foldS (mailG c.acts a.at_) 0 () l with
    | inr s=>rw [e] at h; simp [mailF] at h
    | inl k=>
     have hk:k < l.length:=by
      have key:∀ (r:List Step) (i:Nat),foldS (mailG c.acts a.at_) i () r=.inl k→k < i+r.length:=by
       intro r
       induction r with
       | nil=>intro i he; simp [foldS] at he
       | cons s r ih=>
        intro i he
        unfold foldS at he
        unfold mailG at he
        split at he
        ·rename_i s' hs'
         have:=ih (i+1) he
         simp; omega
        ·rename_i e' hs'
         split at hs'
         ·simp only [Sum.inl.injEq] at hs' he
          simp; omega
         ·simp at hs'
      have:=key l 0 e
      omega
     exact goX_inv w _ _ _ hI hk
  ·rename_i q'
   rw [if_neg q'] at h
   unfold tickR at h ⊢
   split
   ·rename_i q1; rw [if_pos q1] at h; simp only at h; rw [h] at q1; simp [notB,eqI] at q1
   ·rename_i q1
    have z:tickA l c (c.now+a.at_)=0:=by simpa [notB,eqI] using q1
    obtain ⟨z1,z2⟩:=first2_zero z
    obtain ⟨hI,w,_,_⟩:=inv_of z1
    have z2:=ci_zero (by omega) z2
    have z2:inR (c.now+a.at_) c.now 1000000=true:=by cases e:inR (c.now+a.at_) c.now 1000000 <;> simp [e,notB] at z2 ⊢
    simp only [inR,andB,leI,Bool.and_eq_true,decide_eq_true_eq] at z2
    obtain ⟨i1,d1⟩:=tick_inv hI (due_of z1) z2.1 z2.2
    exact tickM_inv w 30 _ i1 d1
end Go.TM.Ft
namespace Go.TM.Ft
open Go Go.TM Go.Proofs
set_option maxRecDepth 20000
attribute [local congr] gif_cg
attribute [local simp] footOf noClash clash upsets setsHit setHits layHits layMeets setsMeet evFeet seal4_iE seal4_set clean_iE
theorem actM_zero {a:Act} (h:actM a=0):0≤a.at_∧a.at_≤9999:=by
 have h0:actA a=0:=by
  unfold actM at h
  split at h
  ·exact h
  ·rename_i q
   simp [orB,notB,eqI] at q
   exact q.1
 have h2:=ci_zero (by omega) (first2_zero h0).2
 have:inR a.at_ 0 9999=true:=by cases e:inR a.at_ 0 9999 <;> simp [e,notB] at h2 ⊢
 simpa [inR,andB,leI] using this
theorem actsM_zero {l:List Act} (h:actsM l=0):l.length≤30∧∀ a,a∈l→actM a=0:=by
 unfold actsM at h
 split at h
 ·simp at h
 ·rename_i q
  refine ⟨by simp [ltI] at q; omega,?_⟩
  have key:∀ (r:List Act) (i:Nat),actE (foldS actG i () r)=0→∀ a,a∈r→actM a=0:=by
   intro r
   induction r with
   | nil=>intro i _ a ha; simp at ha
   | cons x r ih=>
    intro i he a ha
    unfold foldS actG at he
    cases qx:eqI (actM x) 0
    ·rw [qx] at he
     simp only [show notB false=true from rfl,if_true,actE] at he
     rw [he] at qx; simp [eqI] at qx
    ·rw [qx] at he
     simp only [show notB true=false from rfl,Bool.false_eq_true,if_false] at he
     rcases List.mem_cons.1 ha with rfl | ha
     ·simpa [eqI] using qx
     ·exact ih (i+1) he a ha
  exact key l 0 h
abbrev pO (p:Int × List Int × Chart):List T:=[vI p.1,.own 2 (iE p.2.1),vI 0,vI 0,.own 2 [],.own 2 [],.own 2 [],vI p.2.2.status,vI p.2.2.now,.own 2 (iE p.2.2.vars),.own 2 (iE p.2.2.acts),.own 2 (iE p.2.2.dues)]
def playG (l:List Step) (_:Nat) (p:List Int × Chart) (a:Act):List Int × Chart:=
 (p.1++[(actR l p.2 a).1],if eqI (actR l p.2 a).1 0=true then (actR l p.2 a).2 else p.2)
def playA (l:List Step) (vars:List Int) (now:Int) (acts:List Act):Int:=first2 (startM l vars now).1 (actsM acts)
def playM (l:List Step) (vars:List Int) (now:Int) (acts:List Act):Int × List Int × Chart:=
 if notB (eqI (playA l vars now acts) 0)=true then (playA l vars now acts,[],noC) else (0,foldI (playG l) 0 ([],(startM l vars now).2) acts)
theorem startM_zero {l:List Step} {vars:List Int} {now:Int} (h:(startM l vars now).1=0):Wf l∧Inv l (startM l vars now).2:=by
 unfold startM at h ⊢
 split
 ·rename_i q; rw [if_pos q] at h; simp only at h; rw [h] at q; simp [notB,eqI] at q
 ·rename_i q
  have z:startA l vars now=0:=by simpa [notB,eqI] using q
  obtain ⟨hI,w⟩:=startA_zero z
  exact ⟨w,goX_inv w true 0 _ hI w.ok.pos⟩
abbrev z32:List T:=[vI 0,.own 2 [],vI 0,vI 0,.own 2 [],.own 2 [],.own 2 [],vI 0,vI 0,.own 2 [],.own 2 [],.own 2 []]
theorem iE_nil:iE []=[]:=rfl
set_option maxHeartbeats 4000000 in
theorem lp19 {l:List Step} (w:Wf l) (hf:∀ s,s∈l→FitS s) (acts:List Act) (hn:acts.length≤30) (ha:∀ a,a∈acts→FitA a∧actM a=0) (c:Chart) (hI:Inv l c):
  evLoop E (orc E) (19:Nat) (acts.length+1) (loopOf Tryz.f19 0) ⟨58,[(0,.sl 124 (l.map (sT 219))),(8,.ptr 8 1 [] 0),(11,.ptr 11 1 [] 0),(32,.sl 119 (acts.map aT)),(33,vI acts.length),(34,vI (0:Nat))],[(8,⟨1,1,true,z32⟩),(11,⟨1,1,true,pO (0,[],c)⟩)],2⟩=
  some (.exit 0,⟨58,[(0,.sl 124 (l.map (sT 219))),(8,.ptr 8 1 [] 0),(11,.ptr 11 1 [] 0),(32,.sl 119 (acts.map aT)),(33,vI acts.length),(34,vI acts.length),(35,vB false)],[(8,⟨1,1,true,z32⟩),(11,⟨1,1,true,pO (0,foldI (playG l) 0 ([],c) acts)⟩)],2⟩):=by
 have h:=loop_all (σ:=List Int × Chart) (f:=19) (id:=0) (code:=loopOf Tryz.f19 0) acts (fun i p=>p.1.length=i∧Inv l p.2)
  (fun i p=>⟨58,[(0,.sl 124 (l.map (sT 219))),(8,.ptr 8 1 [] 0),(11,.ptr 11 1 [] 0),(32,.sl 119 (acts.map aT)),(33,vI acts.length),(34,vI i)],[(8,⟨1,1,true,z32⟩),(11,⟨1,1,true,pO (0,p)⟩)],2⟩) (playG l)
  (fun p=>⟨58,[(0,.sl 124 (l.map (sT 219))),(8,.ptr 8 1 [] 0),(11,.ptr 11 1 [] 0),(32,.sl 119 (acts.map aT)),(33,vI acts.length),(34,vI acts.length),(35,vB false)],[(8,⟨1,1,true,z32⟩),(11,⟨1,1,true,pO (0,p)⟩)],2⟩)
 refine h ?_ ?_ ([],c) ⟨rfl,hI⟩
 ·intro k p _
  have hlt:=ltN_f acts.length
  simp +contextual -dsimp [Tryz.f19,hlt]
 ·intro k i p hi hp
  obtain ⟨codes,c⟩:=p
  obtain ⟨hlen,hIc⟩:=hp
  have hIc:Inv l c:=hIc
  obtain ⟨hfa,hza⟩:=ha acts[i] (List.getElem_mem hi)
  have hlt:=ltN_t hi
  have hw:=wrap1 hi (by omega)
  have hb:=actM_zero hza
  have hle:=w.ok.le
  have hn0:=hIc.now0
  have hn1:=hIc.now1
  have g1:=f_actChart l (by omega) hf c (hIc.few w).fit acts[i] hfa (by rw [wrapI] <;> omega)
  have hinv:(actR l c acts[i]).1=0→Inv l (actR l c acts[i]).2:=actR_inv
  simp only at hlen
  have hcap:codes.length+1≤maxElems:=by unfold maxElems; omega
  unfold playG
  simp only
  generalize actR l c acts[i]=r at *
  obtain ⟨code,c'⟩:=r
  generalize hs1:((i+1:Nat):Int)=i1 at *
  simp only at hinv ⊢
  cases q:eqI code 0
  ·refine ⟨?_,by simp; omega,hIc⟩
   simp (maxSteps:=1000000) +contextual -dsimp [Tryz.f19,hlt,hi,hw,hs1,g1,q,hcap,List.set]
  ·refine ⟨?_,by simp; omega,hinv (by simpa [eqI] using q)⟩
   simp (maxSteps:=1000000) +contextual -dsimp [Tryz.f19,hlt,hi,hw,hs1,g1,q,hcap,List.set]
abbrev RP (p:Int × List Int × Chart):Res:=⟨.agg (pO p),[],true⟩
set_option maxHeartbeats 4000000 in
theorem f_PlayChart (l:List Step) (hl:l.length < 2 ^ 62) (hf:∀ s,s∈l→FitS s) (vars:List Int) (hv:vars.length < 2 ^ 62) (now:Int) (acts:List Act) (ha:∀ a,a∈acts→FitA a):
  fo 19 [A (.sl 124 (l.map (sT 219))),A (iS vars),A (vI now),A (.sl 119 (acts.map aT))]=some (RP (playM l vars now acts)):=by
 have g1:=f_StartChart l hl hf vars hv now
 have g2:=f_actsFault acts ha
 have g3:=f_first2 (startM l vars now).1 (actsM acts)
 have ea:first2 (startM l vars now).1 (actsM acts)=playA l vars now acts:=rfl
 have hz:=@startM_zero l vars now
 unfold playM
 rw [ea] at g3
 unfold playA at *
 generalize startM l vars now=s at *
 obtain ⟨code,c⟩:=s
 simp only at hz g3 ⊢
 cases q:eqI (first2 code (actsM acts)) 0
 ·refine orc_19 1 ?_
  simp (maxSteps:=1000000) +contextual -dsimp [Tryz.f19,g1,g2,g3,q,noC,List.set]
 ·have q0:first2 code (actsM acts)=0:=by simpa [eqI] using q
  obtain ⟨z1,z2⟩:=first2_zero q0
  obtain ⟨w,hI⟩:=hz z1
  obtain ⟨hn,hza⟩:=actsM_zero z2
  have hlp:=lp19 w hf acts hn (fun a h=>⟨ha a h,hza a h⟩) c hI
  rw [q0] at g3
  have n0:notB true=false:=rfl
  have q1:eqI 0 0=true:=rfl
  rw [n0,if_neg (by simp)]
  generalize foldI (playG l) 0 ([],c) acts=p at *
  obtain ⟨codes,c'⟩:=p
  simp -dsimp [Tryz.f19,pO,iE_nil] at hlp
  refine orc_19 (acts.length+1) ?_
  simp (maxSteps:=1000000) +contextual -dsimp [Tryz.f19,g1,g2,g3,q1,hlp,List.set]
set_option maxHeartbeats 8000000 in
theorem lp15 {l:List Step} (w:Wf l) (hf:FitX l) (acts:List Act) (hn:acts.length≤30) (ha:∀ a,a∈acts→actM a=0) (c:Chart) (hI:Inv l c):
  evLoop E (orc E) (15:Nat) (acts.length+1) (loopOf Tryz.f15 0) ⟨99,[(0,.sl 124 (l.map (sT 219))),(3,.sl 119 (acts.map aT)),(8,.ptr 8 1 [] 0),(11,.ptr 11 1 [] 0),(12,vI (0:Nat))],[(8,⟨1,1,true,z32⟩),(11,⟨1,1,true,pO (0,[],c)⟩)],2⟩=
  some (.exit 0,⟨99,[(0,.sl 124 (l.map (sT 219))),(3,.sl 119 (acts.map aT)),(8,.ptr 8 1 [] 0),(11,.ptr 11 1 [] 0),(12,vI acts.length),(36,vB false)],[(8,⟨1,1,true,z32⟩),(11,⟨1,1,true,pO (0,foldI (playG l) 0 ([],c) acts)⟩)],2⟩):=by
 have h:=loop_all (σ:=List Int × Chart) (f:=15) (id:=0) (code:=loopOf Tryz.f15 0) acts (fun i p=>p.1.length=i∧Inv l p.2)
  (fun i p=>⟨99,[(0,.sl 124 (l.map (sT 219))),(3,.sl 119 (acts.map aT)),(8,.ptr 8 1 [] 0),(11,.ptr 11 1 [] 0),(12,vI i)],[(8,⟨1,1,true,z32⟩),(11,⟨1,1,true,pO (0,p)⟩)],2⟩) (playG l)
  (fun p=>⟨99,[(0,.sl 124 (l.map (sT 219))),(3,.sl 119 (acts.map aT)),(8,.ptr 8 1 [] 0),(11,.ptr 11 1 [] 0),(12,vI acts.length),(36,vB false)],[(8,⟨1,1,true,z32⟩),(11,⟨1,1,true,pO (0,p)⟩)],2⟩)
 refine h ?_ ?_ ([],c) ⟨rfl,hI⟩
 ·intro k p _
  have hlt:=ltN_f acts.length
  simp +contextual -dsimp [Tryz.f15,hlt]
 ·intro k i p hi hp
  obtain ⟨codes,c⟩:=p
  obtain ⟨hlen,hIc⟩:=hp
  have hIc:Inv l c:=hIc
  have hza:=ha acts[i] (List.getElem_mem hi)
  have hlt:=ltN_t hi
  have hw:=wrap1 hi (by omega)
  have hb:=actM_zero hza
  have hle:=w.ok.le
  have hn0:=hIc.now0
  have hn1:=hIc.now1
  have g1:=f4_DoneChart l (by omega) hf c acts[i].at_ acts[i].vars
  have g2:=f4_MailChart l (by omega) hf c acts[i].at_
  have g3:=f4_TickChart l (by omega) hf c (c.now+acts[i].at_)
  have hw2:IntKind.i64.wrap (c.now+acts[i].at_)=c.now+acts[i].at_:=by rw [wrapI] <;> omega
  have hinv:(actR l c acts[i]).1=0→Inv l (actR l c acts[i]).2:=actR_inv
  simp only at hlen
  have hcap:codes.length+1≤maxElems:=by unfold maxElems; omega
  generalize hs1:((i+1:Nat):Int)=i1 at *
  have key:∀ (code:Int) (c':Chart),actR l c acts[i]=(code,c')→evCode E (orc E) (15:Nat) (evLoop E (orc E) (15:Nat) k) (loopOf Tryz.f15 0) ⟨99,[(0,.sl 124 (l.map (sT 219))),(3,.sl 119 (acts.map aT)),(8,.ptr 8 1 [] 0),(11,.ptr 11 1 [] 0),(12,vI i)],[(8,⟨1,1,true,z32⟩),(11,⟨1,1,true,pO (0,codes,c)⟩)],2⟩=
    some (.normal,⟨99,[(0,.sl 124 (l.map (sT 219))),(3,.sl 119 (acts.map aT)),(8,.ptr 8 1 [] 0),(11,.ptr 11 1 [] 0),(12,vI i1)],[(8,⟨1,1,true,z32⟩),(11,⟨1,1,true,pO (0,codes++[code],if eqI code 0=true then c' else c)⟩)],2⟩):=by
   intro code c' hr
   unfold actR at hr
   cases q1:eqI (acts[i]).kind 1
   ·cases q2:eqI (acts[i]).kind 2
    ·simp only [q1,q2,Bool.false_eq_true,if_false] at hr
     rw [hr] at g3
     cases q:eqI code 0 <;> simp (maxSteps:=1000000) +contextual -dsimp [Tryz.f15,hlt,hi,hw,hw2,hs1,g3,q1,q2,q,hcap,List.set]
    ·simp only [q1,q2,Bool.false_eq_true,if_false,if_true] at hr
     rw [hr] at g2
     cases q:eqI code 0 <;> simp (maxSteps:=1000000) +contextual -dsimp [Tryz.f15,hlt,hi,hw,hs1,g2,q1,q2,q,hcap,List.set]
   ·simp only [q1,if_true] at hr
    rw [hr] at g1
    cases q:eqI code 0 <;> simp (maxSteps:=1000000) +contextual -dsimp [Tryz.f15,hlt,hi,hw,hs1,g1,q1,q,hcap,List.set]
  unfold playG
  simp only
  generalize actR l c acts[i]=r at *
  obtain ⟨code,c'⟩:=r
  refine ⟨key code c' rfl,by simp; omega,?_⟩
  simp only at hinv ⊢
  split
  ·rename_i q; exact hinv (by simpa [eqI] using q)
  ·exact hIc
set_option maxHeartbeats 4000000 in
theorem f4_PlayChart (l:List Step) (hl:l.length < 2 ^ 62) (hf:FitX l) (vars:List Int) (now:Int) (acts:List Act):
  fo 15 [A (.sl 124 (l.map (sT 219))),A (iS vars),A (vI now),A (.sl 119 (acts.map aT))]=some (RP (playM l vars now acts)):=by
 have g1:=f4_StartChart l hl hf vars now
 have g2:=f_l10Acts acts
 have hz:=@startM_zero l vars now
 unfold playM playA
 generalize startM l vars now=s at *
 obtain ⟨code,c⟩:=s
 simp only at hz ⊢
 cases q:eqI code 0
 ·have e:first2 code (actsM acts)=code:=by simp [first2,q]
  rw [e,q]
  refine orc_15 1 ?_
  simp (maxSteps:=1000000) +contextual -dsimp [Tryz.f15,g1,q,noC,List.set]
 ·have e:first2 code (actsM acts)=actsM acts:=by simp [first2,q]
  rw [e]
  have z1:code=0:=by simpa [eqI] using q
  obtain ⟨w,hI⟩:=hz z1
  cases q2:eqI (actsM acts) 0
  ·refine orc_15 1 ?_
   simp (maxSteps:=1000000) +contextual -dsimp [Tryz.f15,g1,g2,q,q2,noC,List.set]
  ·have z2:actsM acts=0:=by simpa [eqI] using q2
   obtain ⟨hn,hza⟩:=actsM_zero z2
   have hlp:=lp15 w hf acts hn hza c hI
   have n0:notB true=false:=rfl
   rw [n0,if_neg (by simp)]
   generalize foldI (playG l) 0 ([],c) acts=p at *
   obtain ⟨codes,c'⟩:=p
   simp -dsimp [Tryz.f15,pO,iE_nil] at hlp
   refine orc_15 (acts.length+1) ?_
   simp (maxSteps:=1000000) +contextual -dsimp [Tryz.f15,g1,g2,q,q2,hlp,List.set]
end Go.TM.Ft
namespace Go.TM.Ft
open Go Go.TM
structure RunV where
 status:Int
 now:Int
 vars:List Int
 marks:List Int
 dues:List Int
abbrev rnT (r:RunV):List T:=[vI r.status,vI r.now,iS r.vars,iS r.marks,iS r.dues]
structure PlayR where
 code:Int
 codes:List Int
 run:RunV
 chart:Chart
abbrev plT (p:PlayR):List T:=[vI p.code,iS p.codes,vI p.run.status,vI p.run.now,iS p.run.vars,iS p.run.marks,iS p.run.dues,vI p.chart.status,vI p.chart.now,iS p.chart.vars,iS p.chart.acts,iS p.chart.dues]
end Go.TM.Ft
namespace Go.TM.Ft
open Go Go.TM Go.Proofs
set_option maxRecDepth 20000
attribute [local congr] gif_cg
attribute [local simp] footOf noClash clash upsets setsHit setHits layHits layMeets setsMeet evFeet
end Go.TM.Ft
namespace Go.TM.Ft
open Go Go.TM Go.Proofs
set_option maxRecDepth 20000
attribute [local congr] gif_cg
attribute [local simp] footOf noClash clash upsets setsHit setHits layHits layMeets setsMeet evFeet
end Go.TM.Ft
namespace Go.TM.Ft
open Go Go.TM Go.Proofs
end Go.TM.Ft
namespace Go.TM.Ft
open Go Go.TM Go.Proofs
set_option maxRecDepth 20000
attribute [local congr] gif_cg
attribute [local simp] footOf noClash clash upsets setsHit setHits layHits layMeets setsMeet evFeet
abbrev iV (n:Int):List T:=[vI n]
def subM (left:Int) (w:Nat):Int:=if ltI (left - w) 0=true then -1 else left - w
theorem sub_f {left:Int} {w:Nat} (c:ltI (subM left w) 0=false):(w:Int)≤left∧subM left w=left - w:=by
 unfold subM at c ⊢
 split at c
 ·simp [ltI] at c
 ·rename_i h; rw [if_neg h]; simp [ltI] at h; exact ⟨by omega,rfl⟩
theorem sub_t {left:Int} {w:Nat} (_h0:0≤left) (c:ltI (subM left w) 0=true):left < (w:Int):=by
 unfold subM at c
 split at c
 ·rename_i h; simp [ltI] at h; omega
 ·rename_i h; exact absurd c h
theorem subM_n {left:Int} {w:Nat} (h:left < (w:Int)):subM left w=-1:=by unfold subM; rw [if_pos (by simp [ltI]; omega)]
theorem subM_p {left:Int} {w:Nat} (h:(w:Int)≤left):subM left w=left - w:=by unfold subM; rw [if_neg (by simp [ltI]; omega)]
theorem subM_z {left:Int} (h:0≤left):subM left 0=left:=by rw [subM_p (by simpa using h)]; simp
theorem subM_add (left:Int) (a b:Nat):subM left (a+b)=subM (left - a) b:=by
 have e:left - ((a+b:Nat):Int)=left - a - b:=by omega
 unfold subM; rw [e]
def wStep (x:Step):Nat:=x.name.size+x.cond.length+x.expr.length
def FwStep (x:Step):Prop:=x.name.size < 2 ^ 62∧x.cond.length < 2 ^ 62∧x.expr.length < 2 ^ 62
def sumStep:List Step→Nat
 | []=>0
 | x::r=>wStep x+sumStep r
def wsStep (l:List Step):Nat:=l.length+sumStep l
theorem sumStep_mem {x:Step}:∀ {l:List Step},x∈l→wStep x≤sumStep l
 | [],h=>by simp at h
 | y::l,h=>by
  unfold sumStep
  rcases List.mem_cons.1 h with rfl | h
  ·omega
  ·have:=sumStep_mem h; omega
def wChart (x:Chart):Nat:=x.vars.length+x.acts.length+x.dues.length
theorem g_szintS (l:List Int) (left:Int) (h0:0≤left) (h1:left≤1048576) (hl:l.length < 2 ^ 62):fo 156 [A (.sl 2 (l.map iV)),A (vI left)]=some (R (vI (subM left l.length))):=by
 have hw:IntKind.i64.wrap (left - l.length)=left - l.length:=by rw [wrapI] <;> omega
 refine orc_156 1 ?_
 simp (maxSteps:=1000000) +contextual -dsimp [Tryz.f156,subM,hw]
theorem g_szNodeS (l:List Node) (left:Int) (h0:0≤left) (h1:left≤1048576) (hl:l.length < 2 ^ 62):fo 155 [A (.sl 267 (l.map nT)),A (vI left)]=some (R (vI (subM left l.length))):=by
 have hw:IntKind.i64.wrap (left - l.length)=left - l.length:=by rw [wrapI] <;> omega
 refine orc_155 1 ?_
 simp (maxSteps:=1000000) +contextual -dsimp [Tryz.f155,subM,hw]
theorem g_szStep (x:Step) (left:Int) (h0:0≤left) (h1:left≤1048576) (hf:FwStep x):fo 68 [A (.agg (sT 267 x)),A (vI left)]=some (R (vI (subM left (wStep x)))):=by
 unfold FwStep at hf
 refine orc_68 1 ?_
 have hw0:IntKind.i64.wrap (left - (x.name.size:Nat))=left - (x.name.size:Nat):=by have:=hf.1; rw [wrapI] <;> omega
 cases c0:ltI (left - (x.name.size:Nat)) 0
 ·have p0:((x.name.size:Nat):Int)≤left:=by simp [ltI] at c0; omega
  have g1:=g_szNodeS x.cond (left - (x.name.size:Nat)) (by omega) (by omega) hf.2.1
  cases c1:ltI (subM (left - (x.name.size:Nat)) (x.cond.length)) 0
  ·obtain ⟨p1,e1⟩:=sub_f c1
   rw [e1] at g1 c1
   have g2:=g_szNodeS x.expr (left - (x.name.size:Nat) - (x.cond.length:Nat)) (by omega) (by omega) hf.2.2
   cases c2:ltI (subM (left - (x.name.size:Nat) - (x.cond.length:Nat)) (x.expr.length)) 0
   ·obtain ⟨p2,e2⟩:=sub_f c2
    rw [e2] at g2 c2
    have hm:subM left (wStep x)=left - (x.name.size:Nat) - (x.cond.length:Nat) - (x.expr.length:Nat):=by
     have:=subM_p (left:=left) (w:=wStep x) (by simp only [wStep]; omega)
     simp only [wStep] at this ⊢; omega
    rw [hm]
    simp (maxSteps:=1000000) +contextual -dsimp [Tryz.f68,hw0,g1,g2,c0,c1,c2]
   ·have n2:=sub_t (by omega) c2
    have hm:subM left (wStep x)=-1:=subM_n (by simp only [wStep]; omega)
    rw [hm]
    simp (maxSteps:=1000000) +contextual -dsimp [Tryz.f68,hw0,g1,g2,c0,c1,c2]
  ·have n1:=sub_t (by omega) c1
   have hm:subM left (wStep x)=-1:=subM_n (by simp only [wStep]; omega)
   rw [hm]
   simp (maxSteps:=1000000) +contextual -dsimp [Tryz.f68,hw0,g1,c0,c1]
 ·have hm:subM left (wStep x)=-1:=subM_n (by simp only [wStep]; simp [ltI] at c0; omega)
  rw [hm]
  simp (maxSteps:=1000000) +contextual -dsimp [Tryz.f68,hw0,c0]
theorem lszStepS (all:List Step) (hall:all.length≤1048576) (hf:∀ x,x∈all→FwStep x):∀ (rest:List Step) (i:Nat) (left:Int),all.drop i=rest→0≤left→left≤1048576→
  evLoop E (orc E) (13:Nat) (rest.length+1) (loopOf Tryz.f13 0) ⟨27,[(0,.sl 111 (all.map (sT 267))),(1,vI left),(5,vI i)],[],2⟩=
  (if ltI (subM left (sumStep rest)) 0=true then some (.ret,⟨27,[(4,vI (-1))],[],2⟩) else some (.exit 0,⟨27,[(0,.sl 111 (all.map (sT 267))),(1,vI (left - (sumStep rest:Nat))),(5,vI (i+rest.length:Nat)),(15,vB false)],[],2⟩))
 | [],i,left,h,h0,h1=>by
  have hge:all.length≤i:=by simpa using h
  have hlt:ltI (i:Int) (all.length:Int)=false:=ltI_f (by omega)
  have hz:subM left 0=left:=subM_z h0
  have hn:ltI left 0=false:=ltI_f (by omega)
  rw [loop_eq]
  simp +contextual -dsimp [Tryz.f13,hlt,sumStep,hz,hn]
 | x::rest,i,left,h,h0,h1=>by
  obtain ⟨hi,hc,hr⟩:=drop_cons h
  have hlt:ltI (i:Int) (all.length:Int)=true:=ltI_t (by omega)
  have hw:IntKind.i64.wrap ((i:Int)+1)=((i+1:Nat):Int):=by rw [wrapI] <;> omega
  have he:i+1+rest.length=i+(rest.length+1):=by omega
  have g:=g_szStep x left h0 h1 (hf x (by rw [← hc]; exact List.getElem_mem _))
  have ha:subM left (sumStep (x::rest))=subM (left - wStep x) (sumStep rest):=subM_add left (wStep x) (sumStep rest)
  have hb:left - ((sumStep (x::rest):Nat):Int)=left - wStep x - (sumStep rest:Nat):=by simp only [sumStep]; omega
  cases c:ltI (subM left (wStep x)) 0
  ·obtain ⟨p,e⟩:=sub_f c
   rw [e] at g c
   have ih:=lszStepS all hall hf rest (i+1) (left - wStep x) hr (by omega) (by omega)
   rw [he] at ih
   rw [ha,hb]
   refine evLoop_next ?_ (by simpa only [List.length_cons] using ih)
   simp (maxSteps:=1000000) +contextual -dsimp [Tryz.f13,hlt,hi,hc,hw,g,c]
  ·have hn:=sub_t h0 c
   have hm:ltI (subM left (sumStep (x::rest))) 0=true:=by rw [subM_n (by simp only [sumStep]; omega)]; rfl
   rw [hm,if_pos rfl]
   refine evLoop_out ?_ (by simp)
   simp (maxSteps:=1000000) +contextual -dsimp [Tryz.f13,hlt,hi,hc,g,c]
theorem g_szStepS (l:List Step) (left:Int) (h0:0≤left) (h1:left≤1048576) (hf:l.length < 2 ^ 62∧∀ y,y∈l→FwStep y):fo 13 [A (.sl 111 (l.map (sT 267))),A (vI left)]=some (R (vI (subM left (wsStep l)))):=by
 have hl:=hf.1
 unfold wsStep
 have hw:IntKind.i64.wrap (left - l.length)=left - l.length:=by rw [wrapI] <;> omega
 refine orc_13 (l.length+1) ?_
 cases c1:ltI (left - l.length) 0
 ·have p:(l.length:Int)≤left:=by simp [ltI] at c1; omega
  have hlp:=lszStepS l (by omega) hf.2 l 0 (left - l.length) rfl (by omega) (by omega)
  have ha:subM left (l.length+sumStep l)=subM (left - l.length) (sumStep l):=subM_add left l.length (sumStep l)
  rw [ha]
  simp -dsimp [Tryz.f13] at hlp
  cases c2:ltI (subM (left - l.length) (sumStep l)) 0
  ·obtain ⟨p2,e2⟩:=sub_f c2
   rw [c2] at hlp
   rw [e2]
   simp (maxSteps:=1000000) +contextual -dsimp [Tryz.f13,hw,c1,hlp]
  ·rw [c2] at hlp
   have e2:subM (left - l.length) (sumStep l)=-1:=subM_n (sub_t (by omega) c2)
   rw [e2]
   simp (maxSteps:=1000000) +contextual -dsimp [Tryz.f13,hw,c1,hlp]
 ·have hm:subM left (l.length+sumStep l)=-1:=subM_n (by simp [ltI] at c1; omega)
  rw [hm]
  simp (maxSteps:=1000000) +contextual -dsimp [Tryz.f13,hw,c1]
end Go.TM.Ft
