/- What functions of the program come to, by the machine. -/
import Derived.Test.YtlmiemdojgahaaaGreatL10
import Derived.Test.YtlmiemdojgahaaaGreatL7
import Derived.Test.YtlmiemdojgahaaaGreatL8
set_option linter.unusedSimpArgs false
set_option linter.unusedVariables false
namespace Go.TM.Ft
open Go Go.TM Go.Proofs
set_option maxRecDepth 20000
attribute [local congr] gif_cg
attribute [local simp] footOf noClash clash upsets setsHit setHits layHits layMeets setsMeet evFeet seal4_iE seal4_set
theorem clean_iE (l:List Int):cleanEs (iE l)=true:=by induction l <;> simp_all [cleanEs,cleanL,clean]
attribute [local simp] clean_iE
theorem one_iE (l:List Int):((iE l).all fun c=>c.all one1)=true:=by
 rw [List.all_eq_true]; intro c hc; obtain ⟨x,_,rfl⟩:=List.mem_map.1 hc; rfl
theorem elems_le {n:Nat} (h:n≤1048576):n≤maxElems:=by unfold maxElems; omega
theorem f_Clone (l:List Int) (hl:l.length≤1048576):fo 170 [A (iS l)]=some ⟨.own 2 (iE l),[],true⟩:=by
 refine orc_ext (g:=cloneT 2) rfl ?_
 have h1:=one_iE l
 have h2:=elems_le hl
 simp only [cloneT]
 rw [if_pos ⟨trivial,h1,by simpa using h2⟩,clean_iE]
theorem f_l8Ints (l:List Int) (hl:l.length≤1048576):fo 160 [A (iS l)]=some ⟨.own 2 (iE l),[],true⟩:=by
 have h1:=one_iE l
 have h2:=elems_le hl
 have hm:(iE l).length≤maxElems:=by simpa using h2
 refine orc_160 1 ?_
 simp (maxSteps:=1000000) +contextual -dsimp [Tryz.f160,h1,h2,hm,List.set]
structure Few (c:Chart):Prop where
 vars:c.vars.length≤1048576
 acts:c.acts.length≤1048576
 dues:c.dues.length≤1048576
theorem f_cloneC (c:Chart) (h:Few c):fo 188 [A (.agg (cT c))]=some ⟨.agg (cO c),[],true⟩:=by
 have g1:=f_Clone c.vars h.vars
 have g2:=f_Clone c.acts h.acts
 have g3:=f_Clone c.dues h.dues
 refine orc_188 1 ?_
 simp (maxSteps:=1000000) +contextual -dsimp [Tryz.f188,g1,g2,g3,List.set]
theorem f_l9Copy (c:Chart) (h:Few c):fo 164 [A (.agg (cT c))]=some ⟨.agg (cO c),[],true⟩:=by
 have g1:=f_l8Ints c.vars h.vars
 have g2:=f_l8Ints c.acts h.acts
 have g3:=f_l8Ints c.dues h.dues
 refine orc_164 1 ?_
 simp (maxSteps:=1000000) +contextual -dsimp [Tryz.f164,g1,g2,g3,List.set]
def noC:Chart:=⟨0,0,[],[],[]⟩
abbrev RR (r:Int × Chart):Res:=⟨.agg (vI r.1::cO r.2),[],true⟩
theorem f_l9Bad (k:Int):fo 158 [A (vI k)]=some (RR (k,noC)):=by
 refine orc_158 1 ?_
 simp (maxSteps:=1000000) +contextual -dsimp [Tryz.f158,noC,List.set]
theorem varsM_zero {v:List Int} (h:varsM v=0):v.length=4∧∀ x,x∈v→badV x=false:=by
 unfold varsM at h
 obtain ⟨h1,h2⟩:=first2_zero h
 have h1:=ci_zero (by omega) h1
 have h2:=ci_zero (by omega) h2
 rw [hasB_any] at h2
 refine ⟨by simp [notB,eqI] at h1; omega,fun x hx=>?_⟩
 rw [List.any_eq_false] at h2
 have:=h2 x hx
 cases q:badV x
 ·rfl
 ·exact absurd q this
theorem inv_of {l:List Step} {c:Chart} (h:chartM l c=0):Inv l c∧Wf l∧1≤c.status∧c.status≤3:=by
 obtain ⟨z1,z2,z3,z4,z5,z6⟩:=chartA_zero (chartM_zero h)
 obtain ⟨v1,v2⟩:=varsM_zero z4
 exact ⟨⟨v1,z5,z6,z3.1,z3.2,v2⟩,wf_of z1,z2.1,z2.2⟩
theorem Inv.few {l:List Step} {c:Chart} (h:Inv l c) (w:Wf l):Few c:=by
 have:=w.ok.le
 exact ⟨by rw [h.vars]; omega,by rw [h.acts]; omega,by rw [h.dues]; omega⟩
theorem f_first3 (a b c:Int):fo 78 [A (.sl 2 [[vI a],[vI b],[vI c]])]=some (R (vI (first2 a (first2 b c)))):=by
 have h0:ltI 0 3=true:=rfl
 have h1:ltI 1 3=true:=rfl
 have h2:ltI 2 3=true:=rfl
 have h3:ltI 3 3=false:=rfl
 have w1:IntKind.i64.wrap 1=1:=rfl
 have w2:IntKind.i64.wrap 2=2:=rfl
 have w3:IntKind.i64.wrap 3=3:=rfl
 refine orc_78 5 ?_
 cases ha:eqI a 0
 ·simp -dsimp [Tryz.f78,loop_eq,h0,ha,first2]
 ·cases hb:eqI b 0
  ·simp -dsimp [Tryz.f78,loop_eq,h0,h1,w1,ha,hb,first2]
  ·cases hc:eqI c 0
   ·simp -dsimp [Tryz.f78,loop_eq,h0,h1,h2,w1,w2,ha,hb,hc,first2]
   ·simp -dsimp [Tryz.f78,loop_eq,h0,h1,h2,h3,w1,w2,w3,ha,hb,hc,first2]
    simp [eqI] at hc; exact hc.symm
def startA (l:List Step) (vars:List Int) (now:Int):Int:=first2 (procM l) (first2 (varsM vars) (ci (notB (inR now 0 1000000)) 3))
def newC (l:List Step) (vars:List Int) (now:Int):Chart:=⟨1,now,vars,List.replicate l.length 0,List.replicate l.length 0⟩
def startM (l:List Step) (vars:List Int) (now:Int):Int × Chart:=if notB (eqI (startA l vars now) 0)=true then (startA l vars now,noC) else (0,goX l true 0 (newC l vars now))
theorem startA_zero {l:List Step} {vars:List Int} {now:Int} (h:startA l vars now=0):Inv l (newC l vars now)∧Wf l:=by
 unfold startA at h
 obtain ⟨h1,h2⟩:=first2_zero h
 obtain ⟨h2,h3⟩:=first2_zero h2
 have h3:=ci_zero (by omega) h3
 obtain ⟨v1,v2⟩:=varsM_zero h2
 have h3:0≤now∧now≤1000000:=by
  have:inR now 0 1000000=true:=by cases e:inR now 0 1000000 <;> simp [notB,e] at h3 ⊢
  simpa [inR,andB,leI] using this
 exact ⟨⟨v1,by simp [newC],by simp [newC],h3.1,h3.2,v2⟩,wf_of h1⟩
set_option maxHeartbeats 2000000 in
theorem f_StartChart (l:List Step) (hl:l.length < 2 ^ 62) (hf:∀ s,s∈l→FitS s) (vars:List Int) (hv:vars.length < 2 ^ 62) (now:Int):
  fo 77 [A (.sl 124 (l.map (sT 219))),A (iS vars),A (vI now)]=some (RR (startM l vars now)):=by
 have g1:=f_ProcFault l hl hf
 have g2:=f_VarsFault vars hv
 have g3:=f_first3 (procM l) (varsM vars) (ci (notB (inR now 0 1000000)) 3)
 rw [show first2 (procM l) (first2 (varsM vars) (ci (notB (inR now 0 1000000)) 3))=startA l vars now from rfl] at g3
 unfold startM
 cases q:eqI (startA l vars now) 0
 ·refine orc_77 1 ?_
  simp (maxSteps:=1000000) +contextual -dsimp [Tryz.f77,g1,g2,g3,f_isTime,f_ci,q,noC,List.set]
 ·have q0:startA l vars now=0:=by simpa [eqI] using q
  obtain ⟨hI,w⟩:=startA_zero q0
  have hp:=w.ok.pos
  have hle:=w.ok.le
  have g4:=f_Clone vars (by have:=hI.vars; simp [newC] at this; omega)
  have hm:((l.length:Nat):Int)≤(maxElems:Nat):=by unfold maxElems; omega
  obtain ⟨g5,_⟩:=f_goEnter w hI 0 (by omega)
  rw [q0] at g3
  have e0:((0:Nat):Int)=0:=rfl
  have q1:eqI 0 0=true:=rfl
  rw [e0] at g5
  generalize goX l true 0 (newC l vars now)=c' at *
  simp only [newC,aB,bO,iE,List.map_replicate] at g5
  refine orc_77 1 ?_
  simp (maxSteps:=1000000) +contextual -dsimp [Tryz.f77,g1,g2,g3,g4,g5,f_isTime,f_ci,q1,hm,List.set]
set_option maxHeartbeats 2000000 in
theorem f4_StartChart (l:List Step) (hl:l.length < 2 ^ 62) (hf:FitX l) (vars:List Int) (now:Int):
  fo 70 [A (.sl 124 (l.map (sT 219))),A (iS vars),A (vI now)]=some (RR (startM l vars now)):=by
 have g1:=f_l4Fault l hl hf
 have g2:=f_Vars4 vars
 rw [fault_same] at g1
 rw [vars_same] at g2
 unfold startM
 cases q:eqI (procM l) 0
 ·have e:startA l vars now=procM l:=by simp [startA,first2,q]
  rw [e,q]
  have gb:=f_l9Bad (procM l)
  refine orc_70 1 ?_
  simp (maxSteps:=1000000) +contextual -dsimp [Tryz.f70,g1,gb,q,List.set]
 ·have e0:procM l=0:=by simpa [eqI] using q
  cases q2:eqI (varsM vars) 0
  ·have e:startA l vars now=varsM vars:=by simp [startA,first2,q,q2]
   rw [e,q2]
   have gb:=f_l9Bad (varsM vars)
   refine orc_70 1 ?_
   simp (maxSteps:=1000000) +contextual -dsimp [Tryz.f70,g1,g2,gb,q,q2,List.set]
  ·cases q3:inR now 0 1000000
   ·have e:startA l vars now=3:=by simp [startA,first2,q,q2,q3,ci,notB]
    have q30:eqI 3 0=false:=rfl
    rw [e,q30]
    have gb:=f_l9Bad 3
    refine orc_70 1 ?_
    simp (maxSteps:=1000000) +contextual -dsimp [Tryz.f70,g1,g2,gb,f_l8Time,q,q2,q3,List.set]
   ·have e:startA l vars now=0:=by simp [startA,first2,q,q2,q3,ci,notB]
    obtain ⟨hI,w⟩:=startA_zero e
    have hp:=w.ok.pos
    have hle:=w.ok.le
    have g4:=f_l8Ints vars (by have:=hI.vars; simp [newC] at this; omega)
    have hm:((l.length:Nat):Int)≤(maxElems:Nat):=by unfold maxElems; omega
    have g5:=f_goEnter4 w hI 0 (by omega)
    have z0:((0:Nat):Int)=0:=rfl
    have q1:eqI 0 0=true:=rfl
    rw [z0] at g5
    rw [e,q1]
    generalize goX l true 0 (newC l vars now)=c' at *
    simp only [newC,aC,cO,iE,List.map_replicate] at g5
    refine orc_70 1 ?_
    simp (maxSteps:=1000000) +contextual -dsimp [Tryz.f70,g1,g2,g4,g5,f_l8Time,q,q2,q3,hm,List.set]
end Go.TM.Ft
namespace Go.TM.Ft
open Go Go.TM Go.Proofs
set_option maxRecDepth 20000
attribute [local congr] gif_cg
attribute [local simp] footOf noClash clash upsets setsHit setHits layHits layMeets setsMeet evFeet seal4_iE seal4_set clean_iE
def doneM (l:List Step) (c:Chart) (step:Int) (vars:List Int):Int × Chart:=
 if notB (eqI (first2 (chartM l c) (varsM vars)) 0)=true then (first2 (chartM l c) (varsM vars),noC)
 else if notB (openM l c.acts step)=true then (4,noC) else (0,goX l false step.toNat { c with vars:=vars })
theorem openM_true {l:List Step} {acts:List Int} {step:Int} (h:openM l acts step=true):∃ k:Nat,step=k∧k < l.length∧kindOf l k=2∧szAt acts k=1:=by
 simp only [openM,andB,inR,leI,eqI,Bool.and_eq_true,decide_eq_true_eq] at h
 obtain ⟨⟨⟨h1,h2⟩,h3⟩,h4⟩:=h
 refine ⟨step.toNat,by omega,by omega,?_⟩
 rw [show ((step.toNat:Nat):Int)=step by omega]
 exact ⟨by simpa using h3,by simpa using h4⟩
set_option maxHeartbeats 2000000 in
theorem f_DoneChart (l:List Step) (hl:l.length < 2 ^ 62) (hf:∀ s,s∈l→FitS s) (c:Chart) (hc:FitC c) (step:Int) (vars:List Int) (hv:vars.length < 2 ^ 62):
  fo 128 [A (.sl 124 (l.map (sT 219))),A (.agg (cT c)),A (vI step),A (iS vars)]=some (RR (doneM l c step vars)):=by
 have g1:=f_ChartFault l hl hf c hc
 have g2:=f_VarsFault vars hv
 have g3:=f_first2 (chartM l c) (varsM vars)
 unfold doneM
 cases q:eqI (first2 (chartM l c) (varsM vars)) 0
 ·refine orc_128 1 ?_
  simp (maxSteps:=1000000) +contextual -dsimp [Tryz.f128,g1,g2,g3,q,noC,List.set]
 ·have q0:first2 (chartM l c) (varsM vars)=0:=by simpa [eqI] using q
  obtain ⟨z1,z2⟩:=first2_zero q0
  obtain ⟨hI,w,_,_⟩:=inv_of z1
  obtain ⟨v1,v2⟩:=varsM_zero z2
  have g4:=f_isOnTask l hl c hI.acts step
  rw [q0] at g3
  have q1:eqI 0 0=true:=rfl
  cases q2:openM l c.acts step
  ·rw [q2] at g4
   refine orc_128 1 ?_
   simp (maxSteps:=1000000) +contextual -dsimp [Tryz.f128,g1,g2,g3,g4,q1,noC,List.set]
  ·rw [q2] at g4
   obtain ⟨k,rfl,hk,_⟩:=openM_true q2
   have g5:=f_cloneC c (hI.few w)
   have g6:=f_Clone vars (by omega)
   obtain ⟨g7,_⟩:=f_goOver w (c:={ c with vars:=vars }) ⟨v1,hI.acts,hI.dues,hI.now0,hI.now1,v2⟩ k hk
   rw [Int.toNat_natCast]
   generalize goX l false k { c with vars:=vars }=c' at *
   refine orc_128 1 ?_
   simp (maxSteps:=1000000) +contextual -dsimp [Tryz.f128,g1,g2,g3,g4,g5,g6,g7,q1,List.set]
set_option maxHeartbeats 2000000 in
theorem f4_DoneChart (l:List Step) (hl:l.length < 2 ^ 62) (hf:FitX l) (c:Chart) (step:Int) (vars:List Int):
  fo 72 [A (.sl 124 (l.map (sT 219))),A (.agg (cT c)),A (vI step),A (iS vars)]=some (RR (doneM l c step vars)):=by
 have g1:=f_l9Fault l hl hf c
 have g2:=f_Vars4 vars
 rw [chart_same] at g1
 rw [vars_same] at g2
 unfold doneM
 cases q:eqI (chartM l c) 0
 ·have e:first2 (chartM l c) (varsM vars)=chartM l c:=by simp [first2,q]
  have gb:=f_l9Bad (chartM l c)
  rw [e,q]
  refine orc_72 1 ?_
  simp (maxSteps:=1000000) +contextual -dsimp [Tryz.f72,g1,gb,q,List.set]
 ·have q0:chartM l c=0:=by simpa [eqI] using q
  have q1:eqI 0 0=true:=rfl
  obtain ⟨hI,w,_,_⟩:=inv_of q0
  have e:first2 (chartM l c) (varsM vars)=varsM vars:=by simp [first2,q]
  rw [e]
  cases q2:eqI (varsM vars) 0
  ·have gb:=f_l9Bad (varsM vars)
   refine orc_72 1 ?_
   simp (maxSteps:=1000000) +contextual -dsimp [Tryz.f72,g1,g2,gb,q,q2,List.set]
  ·have z2:varsM vars=0:=by simpa [eqI] using q2
   obtain ⟨v1,v2⟩:=varsM_zero z2
   have hle:=w.ok.le
   have hwr:IntKind.i64.wrap ((l.length:Int) - 1)=(l.length:Int) - 1:=by rw [wrapI] <;> omega
   cases q3:openM l c.acts step
   ·have gb:=f_l9Bad 4
    cases r1:inR step 0 ((l.length:Int) - 1)
    ·refine orc_72 1 ?_
     simp (maxSteps:=1000000) +contextual -dsimp [Tryz.f72,g1,g2,gb,q,q2,f_l1In,hwr,r1,List.set]
    ·obtain ⟨k,rfl,hk⟩:∃ k:Nat,step=k∧k < l.length:=by
      simp only [andB,inR,leI,Bool.and_eq_true,decide_eq_true_eq] at r1
      exact ⟨step.toNat,by omega,by omega⟩
     have hka:k < c.acts.length:=by rw [hI.acts]; exact hk
     cases r2:eqI (kindOf l k) 2
     ·have r2':eqI l[k].kind 2=false:=by rw [← kindOf_at hk]; exact r2
      refine orc_72 1 ?_
      simp (maxSteps:=1000000) +contextual -dsimp [Tryz.f72,g1,g2,gb,q,q2,f_l1In,hwr,r1,r2',hk,List.set]
     ·have r2':eqI l[k].kind 2=true:=by rw [← kindOf_at hk]; exact r2
      have r3:eqI c.acts[k] 1=false:=by
       have:openM l c.acts k=eqI (szAt c.acts k) 1:=by simp [openM,r1,r2,andB]
       rw [this,szAt_lt hka] at q3; exact q3
      refine orc_72 1 ?_
      simp (maxSteps:=1000000) +contextual -dsimp [Tryz.f72,g1,g2,gb,q,q2,f_l1In,hwr,r1,r2',r3,hk,hka,List.set]
   ·obtain ⟨k,rfl,hk,e2,e3⟩:=openM_true q3
    have hka:k < c.acts.length:=by rw [hI.acts]; exact hk
    have r1:inR (k:Int) 0 ((l.length:Int) - 1)=true:=by simp only [andB,inR,leI,Bool.and_eq_true,decide_eq_true_eq]; omega
    have r2':eqI l[k].kind 2=true:=by rw [← kindOf_at hk,e2]; rfl
    have r3:eqI c.acts[k] 1=true:=by rw [← szAt_lt hka,e3]; rfl
    have g5:=f_l9Copy c (hI.few w)
    have g6:=f_l8Ints vars (by omega)
    have g7:=f_goOver4 w (c:={ c with vars:=vars }) ⟨v1,hI.acts,hI.dues,hI.now0,hI.now1,v2⟩ k hk
    rw [Int.toNat_natCast]
    generalize goX l false k { c with vars:=vars }=c' at *
    refine orc_72 1 ?_
    simp (maxSteps:=1000000) +contextual -dsimp [Tryz.f72,g1,g2,g5,g6,g7,q,q2,f_l1In,hwr,r1,r2',r3,hk,hka,List.set]
end Go.TM.Ft
namespace Go.TM.Ft
open Go Go.TM Go.Proofs
set_option maxRecDepth 20000
section
variable {l:List Step}
def dueK (l:List Step) (i:Nat):Prop:=kindOf l i=6∨kindOf l i=8
structure Late (l:List Step) (c c':Chart):Prop where
 now:c'.now=c.now
 dues:∀ i,c'.dues[i]?=c.dues[i]?∨c'.dues[i]?=some 0∨∃ y,c'.dues[i]?=some y∧c.now < y∧dueK l i
theorem Late.same {c c':Chart} (h1:c'.now=c.now) (h2:c'.dues=c.dues):Late l c c':=⟨h1,fun i=>.inl (by rw [h2])⟩
theorem Late.refl {c:Chart}:Late l c c:=.same rfl rfl
theorem Late.trans {a b c:Chart} (h:Late l a b) (h':Late l b c):Late l a c:=⟨h'.now.trans h.now,fun i=>by
 rcases h'.dues i with e | e | ⟨y,e1,e2,e3⟩
 ·rw [e]; exact h.dues i
 ·exact .inr (.inl e)
 ·exact .inr (.inr ⟨y,e1,by rw [← h.now]; exact e2,e3⟩)⟩
theorem Late.stop {c:Chart} (h:Inv l c) (st:Int):Late l c (stopC l st c):=⟨rfl,fun i=>by
 rcases Nat.lt_or_ge i l.length with hi | hi
 ·exact .inr (.inl (by simp [stopC,hi]))
 ·exact .inl (by have:=h.dues; rw [List.getElem?_eq_none (by simp [stopC]; omega),List.getElem?_eq_none (by omega)])⟩
theorem zap_at:∀ (ks xs:List Int) (i:Nat),(zap ks xs)[i]?=xs[i]?∨(zap ks xs)[i]?=some 0
 | [],xs,i=>.inl rfl
 | k::ks,xs,i=>by
  have e:zap (k::ks) xs=zap ks (xs.set k.toNat 0):=rfl
  rw [e]
  rcases zap_at ks (xs.set k.toNat 0) i with h | h
  ·rw [h,List.getElem?_set]
   split
   ·split
    ·exact .inr rfl
    ·rename_i h1 h2; subst h1; exact .inl (by rw [List.getElem?_eq_none (by omega)])
   ·exact .inl rfl
  ·exact .inr h
theorem zap_hit:∀ (ks xs:List Int) (i:Nat),(i:Int)∈ks→i < xs.length→(zap ks xs)[i]?=some 0
 | [],_,_,h,_=>by simp at h
 | k::ks,xs,i,h,hi=>by
  have e:zap (k::ks) xs=zap ks (xs.set k.toNat 0):=rfl
  rw [e]
  rcases List.mem_cons.1 h with h | h
  ·subst h
   rcases zap_at ks (xs.set i 0) i with h1 | h1
   ·simp only [Int.toNat_natCast]
    rw [h1,List.getElem?_set]; simp [hi]
   ·exact h1
  ·exact zap_hit ks _ i h (by simpa using hi)
theorem Late.idle {c:Chart} (ks:List Int):Late l c (idleC ks c):=⟨rfl,fun i=>by
 rcases zap_at ks c.dues i with h | h
 ·exact .inl h
 ·exact .inr (.inl h)⟩
theorem Late.due {c:Chart} {k:Nat} {y:Int} (h:c.now < y) (hk:dueK l k):Late l c { c with dues:=c.dues.set k y }:=⟨rfl,fun i=>by
 simp only [List.getElem?_set]
 split
 ·rename_i e; subst e
  split
  ·exact .inr (.inr ⟨y,rfl,h,hk⟩)
  ·exact .inl (by rw [List.getElem?_eq_none (by omega)])
 ·exact .inl rfl⟩
def GoL (l:List Step) (go:Bool→Nat→Chart→Option Chart):Prop:=∀ b k c c',Inv l c→k < l.length→go b k c=some c'→Inv l c'∧Late l c c'
theorem GoL.all (w:Wf l) {go} (g:GoL l go):∀ (ks:List Int) (c c':Chart),(∀ x,x∈ks→∃ a:Nat,x=a∧a < l.length)→Inv l c→goAll go ks c=some c'→Late l c c'
 | [],c,c',_,_,h=>by simp only [goAll,Option.some.injEq] at h; subst h; exact .refl
 | x::ks,c,c',hk,hI,h=>by
  obtain ⟨a,rfl,ha⟩:=hk x (by simp)
  unfold goAll at h
  rw [Int.toNat_natCast] at h
  cases q:go true a c with
  | none=>rw [q] at h; simp at h
  | some c1=>
   rw [q] at h
   obtain ⟨h1,h2⟩:=g true a c c1 hI ha q
   exact h2.trans (GoL.all w g ks c1 c' (fun x hx=>hk x (by simp [hx])) h1 h)
theorem GoL.ent (w:Wf l) {go} (g:GoL l go) {k:Nat} (hk:k < l.length) {c c':Chart} (hI:Inv l c) (h:entC go l k c=some c'):Late l c c':=by
 have ent:∀ {a:Nat} {c1:Chart},a < l.length→Inv l c1→Late l c c1→go true a c1=some c'→Late l c c':=fun ha h1 h2 h3=>h2.trans (g true _ _ _ h1 ha h3).2
 unfold entC at h
 split at h
 ·rename_i q
  obtain ⟨a,h1,h2,h3⟩:=w.kid0 hk (.inl (by simpa [eqI] using q))
  rw [h1,Int.toNat_natCast] at h
  exact ent h2 hI .refl h
 split at h
 ·exact GoL.all w g _ _ _ (fun x hx=>by obtain ⟨a,h1,h2,_⟩:=w.kid hx; exact ⟨a,h1,h2⟩) hI h
 split at h
 ·split at h
  ·simp only [Option.some.injEq] at h; subst h; exact .stop hI 3
  ·rename_i n1
   split at h
   ·simp only [Option.some.injEq] at h; subst h; exact .refl
   ·rename_i n2
    rcases choose_mem l c.vars (kidsM k 0 l) with hh | hh | hh
    ·exact absurd (by rw [hh]; rfl) n1
    ·exact absurd (by rw [hh]; rfl) n2
    ·obtain ⟨a,h1,h2,h3,_⟩:=w.kid hh
     rw [h1,Int.toNat_natCast] at h
     exact ent h2 hI .refl h
 split at h
 ·rename_i q
  have q:kindOf l k=8:=by simpa [eqI] using q
  have ha:=w.arg hk (.inr q)
  obtain ⟨a,h1,h2,h3⟩:=w.kid0 hk (.inr q)
  rw [h1,Int.toNat_natCast] at h
  exact ent h2 (hI.due k _) (.due (by omega) (.inr q)) h
 split at h
 ·rename_i q
  have q:kindOf l k=6:=by simpa [eqI] using q
  have ha:=w.arg hk (.inl q)
  simp only [Option.some.injEq] at h; subst h
  exact .due (by omega) (.inl q)
 split at h
 ·rename_i q
  split at h
  ·simp only [Option.some.injEq] at h; subst h; exact .stop hI 3
  ·rename_i v hv
   have q:kindOf l k=7:=by simpa [eqI] using q
   obtain ⟨okx,_⟩:=w.expr hk (by rw [← kindOf_at hk]; exact q)
   rw [show (l[k]).expr=exprOf l k by simp [exprOf,hk]] at okx
   have hI2:Inv l { c with vars:=c.vars.set (argOf l k).toNat v }:=hI.var _ (eval_good okx hv)
   exact (Late.same rfl rfl:Late l c { c with vars:=c.vars.set (argOf l k).toNat v }).trans (g false k _ _ hI2 hk h).2
 ·simp only [Option.some.injEq] at h; subst h; exact .refl
theorem GoL.ovr (w:Wf l) {go} (g:GoL l go) {k:Nat} (hk:k < l.length) {c c':Chart} (hI:Inv l c) (h:ovrC go l k c=some c'):Late l c c':=by
 unfold ovrC at h
 split at h
 ·simp only [Option.some.injEq] at h; subst h; exact .stop hI 2
 rename_i q0
 have hk0:0 < k:=by
  rcases Nat.eq_zero_or_pos k with e | e
  ·subst e; exact absurd rfl q0
  ·exact e
 obtain ⟨p,hp,hpk⟩:=w.par hk hk0
 have hpl:p < l.length:=by omega
 rw [hp,Int.toNat_natCast] at h
 have ovr:∀ {c1:Chart},Inv l c1→Late l c c1→go false p c1=some c'→Late l c c':=fun h1 h2 h3=>h2.trans (g false _ _ _ h1 hpl h3).2
 unfold ovrP at h
 split at h
 ·split at h
  ·rename_i q2
   have hmem:=w.kid_of hk hp
   obtain ⟨j,e1,e2,e3⟩:=idxI_found hmem
   have ej:(j:Int)+1=((j+1:Nat):Int):=by omega
   rw [e1,ej] at q2 h
   have hj:j+1 < (kidsM p 0 l).length:=by simp [ltI] at q2; omega
   obtain ⟨s,h1,h2,h3,h4⟩:=w.kid (szAt_mem hj)
   rw [h1,Int.toNat_natCast] at h
   exact (g true _ _ _ hI h2 h).2
  ·exact ovr hI .refl h
 split at h
 ·split at h
  ·simp only [Option.some.injEq] at h; subst h; exact .same rfl rfl
  ·exact ovr (hI.act k 2) (.same rfl rfl) h
 ·exact ovr hI .refl h
theorem goC_late (w:Wf l):∀ f,GoL l (goC l f)
 | 0=>fun b k c c' _ _ h=>by cases b <;> simp [goC] at h
 | f+1=>fun b k c c' hI hk h=>by
  refine ⟨?_,?_⟩
  ·have:=goC_ok w (f+1) b k c c' hI hk h
   exact this.2
  have ih:=goC_late w f
  cases b
  ·unfold goC at h
   exact (Late.idle (undsM l k)).trans (GoL.ovr w ih hk (hI.idle _) h)
  ·unfold goC at h
   split at h
   ·exact (Late.same rfl rfl:Late l c { c with acts:=c.acts.set k 1 }).trans (GoL.ent w ih hk (hI.act k 1) h)
   ·simp only [Option.some.injEq] at h; subst h; exact .refl
theorem goX_late (w:Wf l) (b:Bool) (k:Nat) (c:Chart) (hI:Inv l c) (hk:k < l.length):Late l c (goX l b k c):=(goC_late w 700 b k c _ hI hk (goX_eq w b k c hk)).2
theorem goX_inv (w:Wf l) (b:Bool) (k:Nat) (c:Chart) (hI:Inv l c) (hk:k < l.length):Inv l (goX l b k c):=(goC_late w 700 b k c _ hI hk (goX_eq w b k c hk)).1
theorem und_self (w:Wf l) {k:Nat} (hk:k < l.length):(k:Int)∈undsM l k:=by
 rw [← under_same w k hk]; simp
theorem over_late (w:Wf l) (k:Nat) (c:Chart) (hI:Inv l c) (hk:k < l.length):(goX l false k c).dues[k]?=some 0∨∃ y,(goX l false k c).dues[k]?=some y∧c.now < y:=by
 have h:=goX_eq w false k c hk
 generalize goX l false k c=c' at *
 unfold goC at h
 have h1:=GoL.ovr w (goC_late w 699) hk (hI.idle (undsM l k)) h
 have h2:(idleC (undsM l k) c).dues[k]?=some 0:=zap_hit _ _ _ (und_self w hk) (by rw [hI.dues]; exact hk)
 rcases h1.dues k with e | e | ⟨y,e1,e2,_⟩
 ·exact .inl (e.trans h2)
 ·exact .inl e
 ·exact .inr ⟨y,e1,e2⟩
def dueB (now:Int) (dues:List Int) (d x:Int):Bool:=andB (andB (notB (eqI x 0)) (leI x now)) (orB (ltI d 0) (ltI x (szAt dues d)))
def dueM (dues:List Int) (now:Int):Int:=foldI (fun (i:Nat) (d:Int) (x:Int)=>if dueB now dues d x=true then (i:Int) else d) 0 (-1) dues
def isDue (now x:Int):Bool:=andB (notB (eqI x 0)) (leI x now)
theorem dueM_fold (dues:List Int) (now:Int):∀ (r:List Int) (i:Nat) (d:Int),dues.drop i=r→(d=-1∨∃ k:Nat,d=k∧k < dues.length∧isDue now (szAt dues d)=true)→
  (∀ d',foldI (fun (i:Nat) (d:Int) (x:Int)=>if dueB now dues d x=true then (i:Int) else d) i d r=d'→d'=-1∨∃ k:Nat,d'=k∧k < dues.length∧isDue now (szAt dues d')=true)
 | [],i,d,_,h,d',e=>by simp only [foldI] at e; subst e; exact h
 | x::r,i,d,hr,h,d',e=>by
  obtain ⟨hi,hc,hr'⟩:=drop_cons hr
  simp only [foldI] at e
  refine dueM_fold dues now r (i+1) _ hr' ?_ d' e
  split
  ·rename_i q
   refine .inr ⟨i,rfl,hi,?_⟩
   rw [szAt_lt hi,hc]
   simp only [dueB,andB,Bool.and_eq_true] at q
   simp only [isDue,andB,Bool.and_eq_true]
   exact q.1
  ·exact h
theorem dueM_some (dues:List Int) (now:Int):dueM dues now=-1∨∃ k:Nat,dueM dues now=k∧k < dues.length∧isDue now (szAt dues k)=true:=by
 rcases dueM_fold dues now dues 0 (-1) rfl (.inl rfl) (dueM dues now) rfl with h | ⟨k,h1,h2,h3⟩
 ·exact .inl h
 ·exact .inr ⟨k,h1,h2,by rw [h1] at h3; exact h3⟩
def cnt (now:Int) (dues:List Int):Nat:=dues.countP (isDue now)
theorem cnt_lt {p:Int→Bool}:∀ {xs ys:List Int} {k:Nat},xs.length=ys.length→(∀ (i:Nat) (x y:Int),xs[i]?=some x→ys[i]?=some y→p y=true→p x=true)→
  (∃ x y,xs[k]?=some x∧ys[k]?=some y∧p x=true∧p y=false)→ys.countP p < xs.countP p
 | [],_,k,_,_,⟨x,y,h,_⟩=>by simp at h
 | x::xs,[],k,h,_,_=>by simp at h
 | x::xs,y::ys,0,h,h1,⟨x',y',e1,e2,e3,e4⟩=>by
  simp only [List.getElem?_cons_zero,Option.some.injEq] at e1 e2
  subst e1; subst e2
  have:ys.countP p≤xs.countP p:=cnt_le (by simpa using h) fun i a b ha hb=>h1 (i+1) a b (by simpa using ha) (by simpa using hb)
  simp only [List.countP_cons,e3,e4,if_true]
  simp; omega
 | x::xs,y::ys,k+1,h,h1,⟨x',y',e1,e2,e3,e4⟩=>by
  simp only [List.getElem?_cons_succ] at e1 e2
  have ih:=cnt_lt (p:=p) (xs:=xs) (ys:=ys) (k:=k) (by simpa using h) (fun i a b ha hb=>h1 (i+1) a b (by simpa using ha) (by simpa using hb)) ⟨x',y',e1,e2,e3,e4⟩
  have h0:=h1 0 x y rfl rfl
  simp only [List.countP_cons]
  cases hy:p y
  ·simp; split <;> omega
  ·simp [h0 hy]; exact ih
where
 cnt_le {p:Int→Bool}:∀ {xs ys:List Int},xs.length=ys.length→(∀ (i:Nat) (x y:Int),xs[i]?=some x→ys[i]?=some y→p y=true→p x=true)→ys.countP p≤xs.countP p
 | [],ys,h,_=>by cases ys <;> simp at h ⊢
 | x::xs,[],_,_=>by simp
 | x::xs,y::ys,h,h1=>by
  have ih:=cnt_le (p:=p) (xs:=xs) (ys:=ys) (by simpa using h) fun i a b ha hb=>h1 (i+1) a b (by simpa using ha) (by simpa using hb)
  have h0:=h1 0 x y rfl rfl
  simp only [List.countP_cons]
  cases hy:p y
  ·simp; omega
  ·simp [h0 hy]; exact ih
theorem late_cnt {c c':Chart} (hI:Inv l c) (hI':Inv l c') (h:Late l c c') {k:Nat} (hk:k < l.length) (h1:isDue c.now (szAt c.dues k)=true)
  (h2:c'.dues[k]?=some 0∨∃ y,c'.dues[k]?=some y∧c.now < y):cnt c'.now c'.dues < cnt c.now c.dues:=by
 have hlen:c.dues.length=c'.dues.length:=by rw [hI.dues,hI'.dues]
 rw [h.now]
 have no0:isDue c.now 0=false:=rfl
 have noy:∀ y,c.now < y→isDue c.now y=false:=fun y hy=>by simp [isDue,andB,notB,leI,eqI]; omega
 refine cnt_lt (k:=k) hlen (fun i x y hx hy hp=>?_) ?_
 ·rcases h.dues i with e | e | ⟨z,e1,e2,_⟩
  ·rw [hx,hy] at e; simp only [Option.some.injEq] at e; rw [← e]; exact hp
  ·rw [hy] at e; simp only [Option.some.injEq] at e; rw [e,no0] at hp; simp at hp
  ·rw [hy] at e1; simp only [Option.some.injEq] at e1; rw [e1,noy z e2] at hp; simp at hp
 ·have hkd:k < c.dues.length:=by rw [hI.dues]; exact hk
  rw [szAt_lt hkd] at h1
  rcases h2 with e | ⟨y,e1,e2⟩
  ·exact ⟨c.dues[k],0,by simp [hkd],e,h1,no0⟩
  ·exact ⟨c.dues[k],y,by simp [hkd],e1,h1,noy y e2⟩
def DueOk (l:List Step) (c:Chart):Prop:=∀ i:Nat,i < l.length→szAt c.dues i≠0→dueK l i
theorem DueOk.late {c c':Chart} (h:DueOk l c) (hI:Inv l c) (hI':Inv l c') (g:Late l c c'):DueOk l c':=fun i hi hn=>by
 have h1:i < c.dues.length:=by rw [hI.dues]; exact hi
 have h2:i < c'.dues.length:=by rw [hI'.dues]; exact hi
 rw [szAt_lt h2] at hn
 rcases g.dues i with e | e | ⟨y,_,_,e⟩
 ·simp only [h1,h2,List.getElem?_eq_getElem,Option.some.injEq] at e
  exact h i hi (by rw [szAt_lt h1,← e]; exact hn)
 ·simp only [h2,List.getElem?_eq_getElem,Option.some.injEq] at e
  exact absurd e hn
 ·exact e
def guardC (l:List Step) (d:Nat) (c:Chart):Chart:=idleC (undsM l (szAt (kidsM d 0 l) 0).toNat) { c with dues:=c.dues.set d 0 }
def tickC (l:List Step) (d:Nat) (c:Chart):Chart:=
 if eqI (kindOf l d) 6=true then goX l false d c else goX l true (szAt (kidsM d 0 l) 1).toNat (guardC l d c)
def tickM (l:List Step):Nat→Chart→Chart
 | 0,c=>c
 | f+1,c=>if eqI c.status 1=true then (if ltI (dueM c.dues c.now) 0=true then c else tickM l f (tickC l (dueM c.dues c.now).toNat c)) else c
theorem Wf.guard (w:Wf l) {k:Nat} (hk:k < l.length) (h:kindOf l k=8):∃ a b:Nat,szAt (kidsM k 0 l) 0=a∧szAt (kidsM k 0 l) 1=b∧a < l.length∧b < l.length∧2≤(kidsM k 0 l).length:=by
 have hn:=w.kidsN hk
 rw [h] at hn
 have e:kidB 8=(2,2):=rfl
 rw [e] at hn
 simp only [inR,andB,leI,Bool.and_eq_true,decide_eq_true_eq] at hn
 obtain ⟨a,h1,h2,_⟩:=w.kid (szAt_mem (show 0 < (kidsM k 0 l).length by omega))
 obtain ⟨b,h3,h4,_⟩:=w.kid (szAt_mem (show 1 < (kidsM k 0 l).length by omega))
 exact ⟨a,b,h1,h3,h2,h4,by omega⟩
theorem tickC_ok (w:Wf l) {c:Chart} (hI:Inv l c) (hd:DueOk l c) {d:Nat} (hdl:d < l.length) (h1:isDue c.now (szAt c.dues d)=true):
  Inv l (tickC l d c)∧DueOk l (tickC l d c)∧cnt (tickC l d c).now (tickC l d c).dues < cnt c.now c.dues∧(tickC l d c).now=c.now:=by
 have hn:szAt c.dues d≠0:=fun e=>by rw [e] at h1; simp [isDue,andB,notB,eqI] at h1
 have key:∀ {c':Chart},Inv l c'→Late l c c'→(c'.dues[d]?=some 0∨∃ y,c'.dues[d]?=some y∧c.now < y)→Inv l c'∧DueOk l c'∧cnt c'.now c'.dues < cnt c.now c.dues∧c'.now=c.now:=
  fun a b e=>⟨a,hd.late hI a b,late_cnt hI a b hdl h1 e,b.now⟩
 unfold tickC
 split
 ·exact key (goX_inv w _ _ _ hI hdl) (goX_late w _ _ _ hI hdl) (over_late w d c hI hdl)
 ·rename_i q
  have h8:kindOf l d=8:=by
   rcases hd d hdl hn with h | h
   ·exact absurd (by rw [h]; rfl) q
   ·exact h
  obtain ⟨a,b,e1,e2,e3,e4,_⟩:=w.guard hdl h8
  rw [e2,Int.toNat_natCast]
  have i1:Inv l (guardC l d c):=(hI.due d 0).idle _
  have l0:Late l c { c with dues:=c.dues.set d 0 }:=⟨rfl,fun i=>by
   simp only [List.getElem?_set]
   split
   ·split
    ·exact .inr (.inl rfl)
    ·rename_i e _; subst e; exact .inl (by rw [List.getElem?_eq_none (by omega)])
   ·exact .inl rfl⟩
  have l1:Late l c (guardC l d c):=l0.trans (.idle _)
  have l2:=goX_late w true b _ i1 e4
  refine key (goX_inv w _ _ _ i1 e4) (l1.trans l2) ?_
  have hdd:d < c.dues.length:=by rw [hI.dues]; exact hdl
  have z:(guardC l d c).dues[d]?=some 0:=by
   rcases zap_at (undsM l (szAt (kidsM d 0 l) 0).toNat) (c.dues.set d 0) d with h | h
   ·have:(guardC l d c).dues[d]?=(c.dues.set d 0)[d]?:=h
    rw [this]; simp [hdd]
   ·exact h
  rcases l2.dues d with e | e | ⟨y,y1,y2,_⟩
  ·exact .inl (e.trans z)
  ·exact .inl e
  ·exact .inr ⟨y,y1,by rw [← l1.now]; exact y2⟩
end
end Go.TM.Ft
namespace Go.TM.Ft
open Go Go.TM Go.Proofs
set_option maxRecDepth 20000
attribute [local congr] gif_cg
attribute [local simp] footOf noClash clash upsets setsHit setHits layHits layMeets setsMeet evFeet seal4_iE seal4_set clean_iE
theorem allFit_at {l:List Step} {c:Chart}:∀ (f i:Nat),allFit l c f i=true→∀ k,i≤k→k < i+f→fitsM l c k=true
 | 0,i,_,k,h1,h2=>by omega
 | f+1,i,h,k,h1,h2=>by
  unfold allFit at h
  split at h
  ·rename_i q
   rcases Nat.lt_or_ge i k with h' | h'
   ·exact allFit_at f (i+1) h k h' (by omega)
   ·have:k=i:=by omega
    rw [this]; exact q
  ·simp at h
theorem due_of {l:List Step} {c:Chart} (h:chartM l c=0):DueOk l c:=by
 have ha:=chartM_zero h
 obtain ⟨_,_,_,_,z5,z6⟩:=chartA_zero ha
 unfold chartM at h
 rw [ha] at h
 simp only [show notB (eqI 0 0)=false from rfl,Bool.false_eq_true,if_false] at h
 split at h
 ·simp at h
 have ho:=ci_zero (by omega) h
 have ho:ordM l c=true:=by cases e:ordM l c <;> simp [e,notB] at ho ⊢
 intro i hi hn
 unfold ordM at ho
 split at ho
 ·simp only [andB,Bool.and_eq_true] at ho
  have h2:=ho.2
  simp only [smS,notB,Bool.not_eq_true',hasB_any] at h2
  rw [List.any_eq_false] at h2
  have:=h2 (szAt c.dues i) (szAt_mem (by omega))
  simp [badS,notB,inR,andB,leI] at this
  omega
 ·split at ho
  ·rename_i q
   have hf:=allFit_at l.length 0 q i (Nat.zero_le _) (by omega)
   have hd:notB (eqI (szAt c.dues i) 0)=true:=by simp [notB,eqI,hn]
   unfold fitsM at hf
   rw [hd] at hf
   split at hf
   ·simp at hf
   split at hf
   ·simp [andB,eqI,hn] at hf
   ·unfold fitsK at hf
    split at hf
    ·split at hf <;> simp [eqB] at hf
    split at hf
    ·split at hf <;> simp [eqB] at hf
    split at hf
    ·rename_i q8
     exact .inr (by simpa [eqI] using q8)
    split at hf
    ·rename_i q6
     exact .inl (by simpa [eqI] using q6)
    split at hf
    ·simp at hf
    ·simp [eqB] at hf
  ·simp at ho
end Go.TM.Ft
namespace Go.TM.Ft
open Go Go.TM Go.Proofs
set_option maxRecDepth 20000
attribute [local congr] gif_cg
attribute [local simp] footOf noClash clash upsets setsHit setHits layHits layMeets setsMeet evFeet seal4_iE seal4_set clean_iE
def mailB (acts:List Int) (word:Int) (i:Nat) (s:Step):Bool:=andB (andB (eqI s.kind 5) (eqI s.arg word)) (eqI (szAt acts i) 1)
def mailG (acts:List Int) (word:Int) (i:Nat) (_:Unit) (s:Step):Nat ⊕ Unit:=if mailB acts word i s=true then .inl i else .inr ()
def mailF (l:List Step) (c:Chart):Nat ⊕ Unit→Int × Chart
 | .inl k=>(0,goX l false k c)
 | .inr _=>(4,noC)
def mailA (l:List Step) (c:Chart) (word:Int):Int:=first2 (chartM l c) (ci (notB (inR word 0 9)) 3)
def mailM (l:List Step) (c:Chart) (word:Int):Int × Chart:=if notB (eqI (mailA l c word) 0)=true then (mailA l c word,noC) else mailF l c (foldS (mailG c.acts word) 0 () l)
abbrev z116:List T:=[vI 0,vI 0,vI 0,.own 2 [],.own 2 [],.own 2 []]
set_option maxHeartbeats 4000000 in
theorem lp126 {l:List Step} (w:Wf l) (c:Chart) (hI:Inv l c) (word:Int):
  Goes 0 (fun _=>⟨63,[(0,.sl 124 (l.map (sT 219))),(2,vI word),(4,.ptr 4 1 [] 0),(6,.ptr 6 1 [] 0),(24,.sl 124 (l.map (sT 219))),(25,vI l.length),(26,vI l.length),(27,vB false)],[(4,⟨1,1,true,cT c⟩),(6,⟨1,1,true,z116⟩)],2⟩)
   (fun k st=>st=⟨63,[(6,.ptr 6 1 [] 0)],[(6,⟨1,1,true,vI 0::cO (goX l false k c)⟩),(52,⟨1,1,true,[.sl 124 (l.map (sT 219)),vI (goX l false k c).status,vI (goX l false k c).now,.dead,.dead,.dead]⟩)],2⟩)
   (evLoop E (orc E) (126:Nat) (l.length+1) (loopOf Tryz.f126 0) ⟨63,[(0,.sl 124 (l.map (sT 219))),(2,vI word),(4,.ptr 4 1 [] 0),(6,.ptr 6 1 [] 0),(24,.sl 124 (l.map (sT 219))),(25,vI l.length),(26,vI (0:Nat))],[(4,⟨1,1,true,cT c⟩),(6,⟨1,1,true,z116⟩)],2⟩)
   (foldS (mailG c.acts word) 0 () l):=by
 have h:=loop_list (f:=126) (id:=0) (code:=loopOf Tryz.f126 0) l (fun _ _=>True)
  (fun i (_:Unit)=>⟨63,[(0,.sl 124 (l.map (sT 219))),(2,vI word),(4,.ptr 4 1 [] 0),(6,.ptr 6 1 [] 0),(24,.sl 124 (l.map (sT 219))),(25,vI l.length),(26,vI i)],[(4,⟨1,1,true,cT c⟩),(6,⟨1,1,true,z116⟩)],2⟩)
  (mailG c.acts word) (fun _=>⟨63,[(0,.sl 124 (l.map (sT 219))),(2,vI word),(4,.ptr 4 1 [] 0),(6,.ptr 6 1 [] 0),(24,.sl 124 (l.map (sT 219))),(25,vI l.length),(26,vI l.length),(27,vB false)],[(4,⟨1,1,true,cT c⟩),(6,⟨1,1,true,z116⟩)],2⟩)
  (fun k st=>st=⟨63,[(6,.ptr 6 1 [] 0)],[(6,⟨1,1,true,vI 0::cO (goX l false k c)⟩),(52,⟨1,1,true,[.sl 124 (l.map (sT 219)),vI (goX l false k c).status,vI (goX l false k c).now,.dead,.dead,.dead]⟩)],2⟩)
 have hle:=w.ok.le
 refine h ?_ ?_ l 0 () rfl (Nat.zero_le _) trivial
 ·intro k _ _
  have hlt:=ltN_f l.length
  simp +contextual -dsimp [Tryz.f126,hlt]
 ·intro k i _ hi _
  have hlt:=ltN_t hi
  have hw:=wrap1 hi (by omega)
  have hia:i < c.acts.length:=by rw [hI.acts]; exact hi
  have hs:=szAt_lt hia
  refine ⟨fun s' hg=>⟨?_,trivial⟩,fun e hg=>?_⟩
  ·unfold mailG mailB at hg
   rw [hs] at hg
   generalize hs1:((i+1:Nat):Int)=i1 at *
   cases q1:eqI (l[i]).kind 5
   ·simp (maxSteps:=1000000) +contextual -dsimp [Tryz.f126,hlt,hi,hw,hs1,q1,List.set]
   ·cases q2:eqI (l[i]).arg word
    ·simp (maxSteps:=1000000) +contextual -dsimp [Tryz.f126,hlt,hi,hw,hs1,q1,q2,List.set]
    ·cases q3:eqI c.acts[i] 1
     ·simp (maxSteps:=1000000) +contextual -dsimp [Tryz.f126,hlt,hi,hia,hw,hs1,q1,q2,q3,List.set]
     ·rw [q1,q2,q3] at hg; simp [andB] at hg
  ·unfold mailG mailB at hg
   rw [hs] at hg
   split at hg
   ·rename_i q
    simp only [Sum.inl.injEq] at hg; subst hg
    simp only [andB,Bool.and_eq_true] at q
    obtain ⟨⟨q1,q2⟩,q3⟩:=q
    have g1:=f_cloneC c (hI.few w)
    obtain ⟨g2,_⟩:=f_goOver w hI i hi
    refine ⟨_,?_,rfl⟩
    generalize goX l false i c=c' at *
    simp (maxSteps:=1000000) +contextual -dsimp [Tryz.f126,hlt,hi,hia,q1,q2,q3,g1,g2,List.set]
   ·simp at hg
set_option maxHeartbeats 4000000 in
theorem f_MailChart (l:List Step) (hl:l.length < 2 ^ 62) (hf:∀ s,s∈l→FitS s) (c:Chart) (hc:FitC c) (word:Int):
  fo 126 [A (.sl 124 (l.map (sT 219))),A (.agg (cT c)),A (vI word)]=some (RR (mailM l c word)):=by
 have g1:=f_ChartFault l hl hf c hc
 have g3:=f_first2 (chartM l c) (ci (notB (inR word 0 9)) 3)
 rw [show first2 (chartM l c) (ci (notB (inR word 0 9)) 3)=mailA l c word from rfl] at g3
 unfold mailM
 cases q:eqI (mailA l c word) 0
 ·refine orc_126 1 ?_
  simp (maxSteps:=1000000) +contextual -dsimp [Tryz.f126,g1,g3,f_inRange,f_ci,q,noC,List.set]
 ·have q0:mailA l c word=0:=by simpa [eqI] using q
  obtain ⟨z1,z2⟩:=first2_zero q0
  obtain ⟨hI,w,_,_⟩:=inv_of z1
  have h:=lp126 w c hI word
  have q1:eqI 0 0=true:=rfl
  rw [q0] at g3
  have n0:notB true=false:=rfl
  rw [n0,if_neg (by simp)]
  cases e:foldS (mailG c.acts word) 0 () l with
  | inr s=>
   rw [e] at h
   simp only [Goes] at h
   simp -dsimp [Tryz.f126] at h
   refine orc_126 (l.length+1) ?_
   simp (maxSteps:=1000000) +contextual -dsimp [Tryz.f126,g1,g3,h,f_inRange,f_ci,q1,mailF,noC,List.set]
  | inl k=>
   rw [e] at h
   simp only [Goes] at h
   obtain ⟨st,h1,rfl⟩:=h
   simp only [mailF]
   generalize goX l false k c=c' at *
   simp -dsimp [Tryz.f126] at h1
   refine orc_126 (l.length+1) ?_
   simp (maxSteps:=1000000) +contextual -dsimp [Tryz.f126,g1,g3,h1,f_inRange,f_ci,q1,List.set]
set_option maxHeartbeats 4000000 in
theorem lp73 {l:List Step} (w:Wf l) (c:Chart) (hI:Inv l c) (word:Int):
  Goes 0 (fun _=>⟨57,[(0,.sl 124 (l.map (sT 219))),(2,vI word),(4,.ptr 4 1 [] 0),(6,.ptr 6 1 [] 0),(8,vI l.length),(23,vB false)],[(4,⟨1,1,true,cT c⟩),(6,⟨1,1,true,z116⟩)],2⟩)
   (fun k st=>st=⟨57,[(6,.ptr 6 1 [] 0)],[(6,⟨1,1,true,vI 0::cO (goX l false k c)⟩),(9,⟨1,1,true,[vI (goX l false k c).status,vI (goX l false k c).now,.dead,.dead,.dead]⟩)],2⟩)
   (evLoop E (orc E) (73:Nat) (l.length+1) (loopOf Tryz.f73 0) ⟨57,[(0,.sl 124 (l.map (sT 219))),(2,vI word),(4,.ptr 4 1 [] 0),(6,.ptr 6 1 [] 0),(8,vI (0:Nat))],[(4,⟨1,1,true,cT c⟩),(6,⟨1,1,true,z116⟩)],2⟩)
   (foldS (mailG c.acts word) 0 () l):=by
 have h:=loop_list (f:=73) (id:=0) (code:=loopOf Tryz.f73 0) l (fun _ _=>True)
  (fun i (_:Unit)=>⟨57,[(0,.sl 124 (l.map (sT 219))),(2,vI word),(4,.ptr 4 1 [] 0),(6,.ptr 6 1 [] 0),(8,vI i)],[(4,⟨1,1,true,cT c⟩),(6,⟨1,1,true,z116⟩)],2⟩)
  (mailG c.acts word) (fun _=>⟨57,[(0,.sl 124 (l.map (sT 219))),(2,vI word),(4,.ptr 4 1 [] 0),(6,.ptr 6 1 [] 0),(8,vI l.length),(23,vB false)],[(4,⟨1,1,true,cT c⟩),(6,⟨1,1,true,z116⟩)],2⟩)
  (fun k st=>st=⟨57,[(6,.ptr 6 1 [] 0)],[(6,⟨1,1,true,vI 0::cO (goX l false k c)⟩),(9,⟨1,1,true,[vI (goX l false k c).status,vI (goX l false k c).now,.dead,.dead,.dead]⟩)],2⟩)
 have hle:=w.ok.le
 refine h ?_ ?_ l 0 () rfl (Nat.zero_le _) trivial
 ·intro k _ _
  have hlt:=ltN_f l.length
  simp +contextual -dsimp [Tryz.f73,hlt]
 ·intro k i _ hi _
  have hlt:=ltN_t hi
  have hw:=wrap1 hi (by omega)
  have hia:i < c.acts.length:=by rw [hI.acts]; exact hi
  have hs:=szAt_lt hia
  refine ⟨fun s' hg=>⟨?_,trivial⟩,fun e hg=>?_⟩
  ·unfold mailG mailB at hg
   rw [hs] at hg
   generalize hs1:((i+1:Nat):Int)=i1 at *
   cases q1:eqI (l[i]).kind 5
   ·simp (maxSteps:=1000000) +contextual -dsimp [Tryz.f73,hlt,hi,hw,hs1,q1,List.set]
   ·cases q2:eqI (l[i]).arg word
    ·simp (maxSteps:=1000000) +contextual -dsimp [Tryz.f73,hlt,hi,hw,hs1,q1,q2,List.set]
    ·cases q3:eqI c.acts[i] 1
     ·simp (maxSteps:=1000000) +contextual -dsimp [Tryz.f73,hlt,hi,hia,hw,hs1,q1,q2,q3,List.set]
     ·rw [q1,q2,q3] at hg; simp [andB] at hg
  ·unfold mailG mailB at hg
   rw [hs] at hg
   split at hg
   ·rename_i q
    simp only [Sum.inl.injEq] at hg; subst hg
    simp only [andB,Bool.and_eq_true] at q
    obtain ⟨⟨q1,q2⟩,q3⟩:=q
    have g1:=f_l9Copy c (hI.few w)
    have g2:=f_goOver4 w hI i hi
    refine ⟨_,?_,rfl⟩
    generalize goX l false i c=c' at *
    simp (maxSteps:=1000000) +contextual -dsimp [Tryz.f73,hlt,hi,hia,q1,q2,q3,g1,g2,List.set]
   ·simp at hg
set_option maxHeartbeats 4000000 in
theorem f4_MailChart (l:List Step) (hl:l.length < 2 ^ 62) (hf:FitX l) (c:Chart) (word:Int):
  fo 73 [A (.sl 124 (l.map (sT 219))),A (.agg (cT c)),A (vI word)]=some (RR (mailM l c word)):=by
 have g1:=f_l9Fault l hl hf c
 rw [chart_same] at g1
 unfold mailM
 cases q:eqI (chartM l c) 0
 ·have e:mailA l c word=chartM l c:=by simp [mailA,first2,q]
  have gb:=f_l9Bad (chartM l c)
  rw [e,q]
  refine orc_73 1 ?_
  simp (maxSteps:=1000000) +contextual -dsimp [Tryz.f73,g1,gb,q,List.set]
 ·have q0:chartM l c=0:=by simpa [eqI] using q
  obtain ⟨hI,w,_,_⟩:=inv_of q0
  have e:mailA l c word=ci (notB (inR word 0 9)) 3:=by simp [mailA,first2,q]
  rw [e]
  cases r:inR word 0 9
  ·have gb:=f_l9Bad 3
   have n3:notB (eqI (ci (notB false) 3) 0)=true:=rfl
   rw [n3,if_pos rfl]
   refine orc_73 1 ?_
   simp (maxSteps:=1000000) +contextual -dsimp [Tryz.f73,g1,gb,q,r,f_l1In,List.set]
   rfl
  ·have gb:=f_l9Bad 4
   have n3:notB (eqI (ci (notB true) 3) 0)=false:=rfl
   rw [n3,if_neg (by simp)]
   have h:=lp73 w c hI word
   cases e:foldS (mailG c.acts word) 0 () l with
   | inr s=>
    rw [e] at h
    simp only [Goes] at h
    simp -dsimp [Tryz.f73] at h
    refine orc_73 (l.length+1) ?_
    simp (maxSteps:=1000000) +contextual -dsimp [Tryz.f73,g1,gb,h,f_l1In,q,r,mailF,List.set]
   | inl k=>
    rw [e] at h
    simp only [Goes] at h
    obtain ⟨st,h1,rfl⟩:=h
    simp only [mailF]
    generalize goX l false k c=c' at *
    simp -dsimp [Tryz.f73] at h1
    refine orc_73 (l.length+1) ?_
    simp (maxSteps:=1000000) +contextual -dsimp [Tryz.f73,g1,h1,f_l1In,q,r,List.set]
end Go.TM.Ft
namespace Go.TM.Ft
open Go Go.TM Go.Proofs
set_option maxRecDepth 20000
attribute [local congr] gif_cg
attribute [local simp] footOf noClash clash upsets setsHit setHits layHits layMeets setsMeet evFeet seal4_iE seal4_set clean_iE
end Go.TM.Ft
