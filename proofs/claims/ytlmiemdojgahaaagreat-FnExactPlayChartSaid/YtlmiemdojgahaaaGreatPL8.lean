/- What functions of the program come to, by the machine. -/
import Derived.Test.YtlmiemdojgahaaaGreatPL7
set_option linter.unusedSimpArgs false
set_option linter.unusedVariables false
namespace Go.TM.Ft
open Go Go.TM Go.Proofs
set_option maxRecDepth 20000
def onM (l:List Step) (c:Chart) (i:Nat):Nat:=cntM c.acts 1 (kids4M i 0 l) 0
def ovM (l:List Step) (c:Chart) (i:Nat):Nat:=cntM c.acts 2 (kids4M i 0 l) 0
theorem wrong_iff {l : List Step} {c : Chart} {i : Nat} : wrong9 l c i = false ↔
    (szAt c.acts i ≠ 1 ∧ onM l c i + ovM l c i = 0 ∧ szAt c.dues i = 0) ∨
    (szAt c.acts i = 1 ∧
      (((kindOf l i = 1 ∨ kindOf l i = 3) ∧ onM l c i = 1 ∧ ovM l c i = 0 ∧ szAt c.dues i = 0) ∨
       (kindOf l i = 4 ∧ onM l c i ≠ 0 ∧ onM l c i + ovM l c i = (kids4M i 0 l).length ∧ szAt c.dues i = 0) ∨
       (kindOf l i = 8 ∧ onM l c i = 1 ∧ ovM l c i = 0 ∧ (szAt c.dues i ≠ 0 ↔ szAt c.acts (szAt (kids4M i 0 l) 0) = 1)) ∨
       (kindOf l i = 6 ∧ szAt c.dues i ≠ 0) ∨
       (kindOf l i ≠ 1 ∧ kindOf l i ≠ 3 ∧ kindOf l i ≠ 4 ∧ kindOf l i ≠ 8 ∧ kindOf l i ≠ 6 ∧ kindOf l i ≠ 7 ∧ szAt c.dues i = 0))) := by
  unfold wrong9 wrongK
  rw [show cntM c.acts 1 (kids4M i 0 l) 0 = onM l c i from rfl, show cntM c.acts 2 (kids4M i 0 l) 0 = ovM l c i from rfl]
  generalize onM l c i = on
  generalize ovM l c i = ov
  generalize kindOf l i = k
  generalize szAt c.acts i = ac
  generalize szAt c.dues i = du
  generalize hks : kids4M i 0 l = ks
  generalize szAt c.acts (szAt ks 0) = fa
  by_cases h1 : ac = 1
  · by_cases k1 : k = 1
    · simp [h1, k1, notB, eqI, orB, ltI]; omega
    by_cases k3 : k = 3
    · simp [h1, k3, notB, eqI, orB, ltI]; omega
    by_cases k4 : k = 4
    · simp [h1, k4, notB, eqI, orB, ltI]; omega
    by_cases k8 : k = 8
    · by_cases d0 : du = 0 <;> by_cases f0 : fa = 1 <;> simp [h1, k8, notB, eqI, orB, ltI, eqB, d0, f0] <;> first | omega | (intro _ _; rw [show (du == 0) = false by simp [d0], show (fa == 1) = false by simp [f0]])
    by_cases k6 : k = 6
    · simp [h1, k6, notB, eqI, orB]
    by_cases k7 : k = 7
    · simp [h1, k7, notB, eqI, orB]
    · simp [h1, k1, k3, k4, k8, k6, k7, notB, eqI, orB]
  · simp [h1, notB, eqI, orB, ltI]; omega
theorem fits_iff {l : List Step} {c : Chart} {i : Nat} (hk : kidsM i 0 l = kids4M i 0 l) : fitsM l c i = true ↔
    ¬ (szAt c.acts i = 2 ∧ (i = 0 ∨ kindOf l (parOf l i) ≠ 4)) ∧
    ((szAt c.acts i ≠ 1 ∧ onM l c i + ovM l c i = 0 ∧ szAt c.dues i = 0) ∨
     (szAt c.acts i = 1 ∧
      (((kindOf l i = 1 ∨ kindOf l i = 3) ∧ onM l c i = 1 ∧ szAt c.dues i = 0) ∨
       (kindOf l i = 4 ∧ onM l c i ≠ 0 ∧ onM l c i + ovM l c i = (kids4M i 0 l).length ∧ szAt c.dues i = 0) ∨
       (kindOf l i = 8 ∧ onM l c i = 1 ∧ (szAt c.dues i ≠ 0 ↔ szAt c.acts (szAt (kids4M i 0 l) 0) = 1)) ∨
       (kindOf l i = 6 ∧ szAt c.dues i ≠ 0) ∨
       (kindOf l i ≠ 1 ∧ kindOf l i ≠ 3 ∧ kindOf l i ≠ 4 ∧ kindOf l i ≠ 8 ∧ kindOf l i ≠ 6 ∧ kindOf l i ≠ 7 ∧ szAt c.dues i = 0)))) := by
  unfold fitsM fitsK
  rw [hk]
  rw [show cntM c.acts 1 (kids4M i 0 l) 0 = onM l c i from rfl, show cntM c.acts 2 (kids4M i 0 l) 0 = ovM l c i from rfl]
  generalize onM l c i = on
  generalize ovM l c i = ov
  generalize kindOf l i = k
  generalize szAt c.acts i = ac
  generalize szAt c.dues i = du
  generalize hks : kids4M i 0 l = ks
  generalize szAt c.acts (szAt ks 0) = fa
  generalize kindOf l (parOf l i) = pk
  have hb : andB (eqI ac 2) (orB (eqI i 0) (notB (eqI pk 4))) = true ↔ ac = 2 ∧ (i = 0 ∨ pk ≠ 4) := by
    simp [andB, orB, notB, eqI]
  by_cases q : ac = 2 ∧ (i = 0 ∨ pk ≠ 4)
  · rw [if_pos (hb.2 q)]
    simp [q]
  · rw [if_neg (fun h => q (hb.1 h))]
    simp only [q, not_false_eq_true, true_and]
    by_cases h1 : ac = 1
    · by_cases k1 : k = 1
      · by_cases o1 : on = 1 <;> by_cases d0 : du = 0 <;> simp [h1, k1, notB, eqI, orB, eqB, o1, d0] <;> omega
      by_cases k3 : k = 3
      · by_cases o1 : on = 1 <;> by_cases d0 : du = 0 <;> simp [h1, k3, notB, eqI, orB, eqB, o1, d0] <;> omega
      by_cases k4 : k = 4
      · by_cases o1 : on = 0 <;> by_cases o2 : on + ov = ks.length <;> by_cases d0 : du = 0 <;> simp [h1, k4, notB, eqI, orB, eqB, o1, o2, d0] <;> omega
      by_cases k8 : k = 8
      · by_cases o1 : on = 1 <;> by_cases d0 : du = 0 <;> by_cases f0 : fa = 1 <;> simp [h1, k8, notB, eqI, orB, eqB, o1, d0, f0] <;> first | omega | (rw [show (du == 0) = false by simp [d0], show (fa == 1) = false by simp [f0]])
      by_cases k6 : k = 6
      · by_cases d0 : du = 0 <;> simp [h1, k6, notB, eqI, orB, eqB, d0]
      by_cases k7 : k = 7
      · simp [h1, k7, notB, eqI, orB]
      · by_cases d0 : du = 0 <;> simp [h1, k1, k3, k4, k8, k6, k7, notB, eqI, orB, eqB, d0]
    · by_cases d0 : du = 0 <;> simp [h1, notB, eqI, andB, d0] <;> omega
theorem wrongs_iff (l:List Step) (c:Chart):∀ (f i:Nat),wrongs9 l c f i=false ↔ ∀ k,i≤k→k < i+f→wrong9 l c k=false
 | 0,i=>by simp [wrongs9]; intro k h1 h2; omega
 | f+1,i=>by
  unfold wrongs9
  have ih:=wrongs_iff l c f (i+1)
  cases h:wrong9 l c i
  ·simp only [Bool.false_eq_true,if_false]
   rw [ih]
   constructor
   ·intro hh k h1 h2
    rcases Nat.lt_or_ge i k with h' | h'
    ·exact hh k h' (by omega)
    ·have e:k=i:=by omega
     subst e; exact h
   ·intro hh k h1 h2; exact hh k (by omega) (by omega)
  ·simp only [if_true]
   constructor
   ·intro h'; simp at h'
   ·intro hh; have:=hh i (Nat.le_refl _) (by omega); rw [h] at this; simp at this
theorem allFit_iff (l:List Step) (c:Chart):∀ (f i:Nat),allFit l c f i=true ↔ ∀ k,i≤k→k < i+f→fitsM l c k=true
 | 0,i=>by simp [allFit]; intro k h1 h2; omega
 | f+1,i=>by
  unfold allFit
  have ih:=allFit_iff l c f (i+1)
  cases h:fitsM l c i
  ·simp only [Bool.false_eq_true,if_false]
   constructor
   ·intro h'; simp at h'
   ·intro hh; have:=hh i (Nat.le_refl _) (by omega); rw [h] at this; simp at this
  ·simp only [if_true]
   rw [ih]
   constructor
   ·intro hh k h1 h2
    rcases Nat.lt_or_ge i k with h' | h'
    ·exact hh k h' (by omega)
    ·have e:k=i:=by omega
     subst e; exact h
   ·intro hh k h1 h2; exact hh k (by omega) (by omega)
theorem proc_kids {l:List Step} (ok:ProcOk l) (i:Nat):kidsM i 0 l=kids4M i 0 l:=kids_same l 0 fun _ s hs=>by
 have:=ok.par0 (by have:=ok.pos; omega)
 have h0:0 < l.length:=by have:=ok.pos; omega
 have e:l[0]?=some l[0]:=by simp
 rw [e] at hs
 have:=Option.some.inj hs
 subst this
 omega
theorem no_kids {l:List Step} (ok:ProcOk l) {i:Nat} (hi:i < l.length) (h1:kindOf l i≠1) (h3:kindOf l i≠3) (h4:kindOf l i≠4) (h8:kindOf l i≠8):kids4M i 0 l=[]:=by
 have hc:=ok.cond i hi
 unfold condFaultM at hc
 have hcode:condCode l i=0:=by
  split at hc
  ·exact hc
  ·rename_i c
   simp [orB,notB,eqI] at c
   exact c.1
 have:=(first2_zero hcode).1
 have hb:kidB (kindOf l i)=(0,0):=by
  unfold kidB
  simp [eqI,h1,h3,h4,h8]
 rw [hb] at this
 have hn:notB (inR (kidsM i 0 l).length 0 0)=false:=by
  cases h:notB (inR (kidsM i 0 l).length 0 0)
  ·rfl
  ·rw [h] at this; simp at this
 rw [proc_kids ok] at hn
 simp [notB,inR,andB,leI] at hn
 exact List.length_eq_zero_iff.1 (by simpa using hn)
theorem fit_wrong {l:List Step} (ok:ProcOk l) {c:Chart} (h0:szAt c.acts 0=1):allFit l c l.length 0=true ↔ wrongs9 l c l.length 0=false:=by
 rw [allFit_iff,wrongs_iff]
 constructor
 ·intro hf k _ hk
  have hk:k < l.length:=by omega
  obtain ⟨_,h2⟩:=(fits_iff (proc_kids ok k)).1 (hf k (Nat.zero_le _) (by omega))
  have hov:kindOf l k≠4→ovM l c k=0:=fun hk4=>by
   rcases Nat.eq_zero_or_pos (ovM l c k) with h | h
   ·exact h
   ·exfalso
    obtain ⟨x,hx,ha⟩:=(cnt_pos _ _ _ _).1 h
    obtain ⟨a,hal,rfl,hp⟩:=kids4_iff.1 hx
    rw [Nat.zero_add] at ha
    have ha0:a≠0:=fun h=>by subst h; simp at ha; rw [h0] at ha; omega
    obtain ⟨h1,_⟩:=(fits_iff (proc_kids ok a)).1 (hf a (Nat.zero_le _) (by omega))
    have hpa:parOf l a=k:=by simp [parOf,hal,hp]
    exact h1 ⟨ha,.inr (by rw [hpa]; exact hk4)⟩
  rw [wrong_iff]
  rcases h2 with h | ⟨ha,h⟩
  ·exact .inl h
  ·right
   refine ⟨ha,?_⟩
   rcases h with ⟨hk1,h⟩ | h | ⟨hk8,h⟩ | h | h
   ·exact .inl ⟨hk1,h.1,hov (by omega),h.2⟩
   ·exact .inr (.inl h)
   ·exact .inr (.inr (.inl ⟨hk8,h.1,hov (by omega),h.2⟩))
   ·exact .inr (.inr (.inr (.inl h)))
   ·exact .inr (.inr (.inr (.inr h)))
 ·intro hw k _ hk
  have hk:k < l.length:=by omega
  have h2:=wrong_iff.1 (hw k (Nat.zero_le _) (by omega))
  rw [fits_iff (proc_kids ok k)]
  refine ⟨fun ⟨ha,hor⟩=>?_,?_⟩
  ·have hk0:k≠0:=fun h=>by subst h; simp at ha; rw [h0] at ha; omega
   obtain ⟨a,hp,hak⟩:=ok.par k hk (by omega)
   have hal:a < l.length:=by omega
   have hmem:(k:Int)∈kids4M a 0 l:=kids4_iff.2 ⟨k,hk,by simp,hp⟩
   have hpa:parOf l k=a:=by simp [parOf,hk,hp]
   have hov:0 < ovM l c a:=(cnt_pos _ _ _ _).2 ⟨k,hmem,ha⟩
   have hw2:=wrong_iff.1 (hw a (Nat.zero_le _) (by omega))
   rw [hpa] at hor
   have hnk:∀ h:kids4M a 0 l=[],False:=fun h=>by rw [h] at hmem; simp at hmem
   rcases hw2 with h | ⟨_,⟨_,h⟩ | h | ⟨_,h⟩ | h | h⟩
   ·omega
   ·omega
   ·rcases hor with h' | h'
    ·omega
    ·exact h' h.1
   ·omega
   ·exact hnk (no_kids ok hal (by omega) (by omega) (by omega) (by omega))
   ·exact hnk (no_kids ok hal h.1 h.2.1 h.2.2.1 h.2.2.2.1)
  ·rcases h2 with h | ⟨ha,h⟩
   ·exact .inl h
   ·right
    refine ⟨ha,?_⟩
    rcases h with ⟨hk1,h⟩ | h | ⟨hk8,h⟩ | h | h
    ·exact .inl ⟨hk1,h.1,h.2.2⟩
    ·exact .inr (.inl h)
    ·exact .inr (.inr (.inl ⟨hk8,h.1,h.2.2⟩))
    ·exact .inr (.inr (.inr (.inl h)))
    ·exact .inr (.inr (.inr (.inr h)))
theorem chart_same (l:List Step) (c:Chart):fault9 l c=chartM l c:=by
 have hq:¬ (notB (eqI (0:Int) 0)=true):=by simp [notB,eqI]
 have hff:¬ (false=true):=by simp
 unfold fault9 chartM chartA
 rw [fault_same,vars_same]
 by_cases h1:procM l=0
 ·have ok:=proc_ok h1
  rw [h1,if_neg hq]
  cases q2:orB (notB (inR c.status 1 3)) (notB (inR c.now 0 1000000))
  ·rw [if_neg hff]
   by_cases h3:varsM c.vars=0
   ·rw [h3,if_neg hq]
    cases q4:orB (notB (eqI c.acts.length l.length)) (notB (eqI c.dues.length l.length))
    ·have hl:c.acts.length=l.length∧c.dues.length=l.length:=by
      simp [orB,notB,eqI] at q4; omega
     have e0:first2 0 (first2 (ci false 3) (first2 0 (ci false 2)))=0:=by rfl
     rw [if_neg hff,rng_same hl.1 hl.2,some_same hl.1 hl.2,e0,if_neg hq]
     cases orB (notB (smS 2 c.acts)) (notB (smS (c.now+99) c.dues))
     ·rw [if_neg hff,if_neg hff]
      unfold ordM
      by_cases h5:c.status=1
      ·have hs:¬ (notB (eqI c.status 1)=true):=by simp [notB,eqI,h5]
       rw [if_neg hs,if_neg hs]
       by_cases h6:szAt c.acts 0=1
       ·have hs2:¬ (notB (eqI (szAt c.acts 0) 1)=true):=by simp [notB,eqI,h6]
        have hs3:eqI (szAt c.acts 0) 1=true:=by simp [eqI,h6]
        rw [if_neg hs2,hs3]
        have hfw:=fit_wrong ok h6
        cases q6:wrongs9 l c l.length 0
        ·rw [hfw.2 q6]; rfl
        ·cases q7:allFit l c l.length 0
         ·rfl
         ·rw [hfw.1 q7] at q6; simp at q6
       ·have hs2:notB (eqI (szAt c.acts 0) 1)=true:=by simp [notB,eqI,h6]
        have:eqI (szAt c.acts 0) 1=false:=by simp [eqI,h6]
        rw [if_pos hs2,this]
        cases allFit l c l.length 0 <;> rfl
      ·have hs:notB (eqI c.status 1)=true:=by simp [notB,eqI,h5]
       rw [if_pos hs,if_pos hs]
       cases andB (smS 0 c.acts) (smS 0 c.dues) <;> rfl
     ·rfl
    ·rfl
   ·have e1:first2 0 (first2 (ci false 3) (first2 (varsM c.vars) (ci (orB (notB (eqI c.acts.length l.length)) (notB (eqI c.dues.length l.length))) 2)))=varsM c.vars:=by
     have:eqI (varsM c.vars) 0=false:=by simp [eqI,h3]
     simp [first2,ci,eqI_self,this]
    have hs:notB (eqI (varsM c.vars) 0)=true:=by simp [notB,eqI,h3]
    rw [e1,if_pos hs,if_pos hs]
  ·have e1:first2 0 (first2 (ci true 3) (first2 (varsM c.vars) (ci (orB (notB (eqI c.acts.length l.length)) (notB (eqI c.dues.length l.length))) 2)))=3:=by rfl
   rw [e1]; rfl
 ·have e1:∀ b,first2 (procM l) b=procM l:=fun b=>by
   have:eqI (procM l) 0=false:=by simp [eqI,h1]
   simp [first2,this]
  have hs:notB (eqI (procM l) 0)=true:=by simp [notB,eqI,h1]
  rw [e1,if_pos hs,if_pos hs]
end Go.TM.Ft
namespace Go.TM.Ft
open Go Go.TM Go.Proofs
set_option maxRecDepth 20000
attribute [local congr] gif_cg
attribute [local simp] footOf noClash clash upsets setsHit setHits layHits layMeets setsMeet evFeet seal4_iE
def argOf (l:List Step) (k:Nat):Int:=match l[k]? with | some s=>s.arg | none=>0
def exprOf (l:List Step) (k:Nat):List Node:=match l[k]? with | some s=>s.expr | none=>[]
def goAll (go:Bool→Nat→Chart→Option Chart):List Int→Chart→Option Chart
 | [],c=>some c
 | k::r,c=>match go true k.toNat c with | some c'=>goAll go r c' | none=>none
def entC (go:Bool→Nat→Chart→Option Chart) (l:List Step) (k:Nat) (c:Chart):Option Chart:=
 if eqI (kindOf l k) 1=true then go true (szAt (kidsM k 0 l) 0).toNat c
 else if eqI (kindOf l k) 4=true then goAll go (kidsM k 0 l) c
 else if eqI (kindOf l k) 3=true then (if eqI (chooseM l c.vars (kidsM k 0 l)) (-1)=true then some (stopC l 3 c) else if eqI (chooseM l c.vars (kidsM k 0 l)) (-2)=true then some c else go true (chooseM l c.vars (kidsM k 0 l)).toNat c)
 else if eqI (kindOf l k) 8=true then go true (szAt (kidsM k 0 l) 0).toNat { c with dues:=c.dues.set k (c.now+argOf l k) }
 else if eqI (kindOf l k) 6=true then some { c with dues:=c.dues.set k (c.now+argOf l k) }
 else if eqI (kindOf l k) 7=true then (match evalM (exprOf l k) c.vars with | none=>some (stopC l 3 c) | some v=>go false k { c with vars:=c.vars.set (argOf l k).toNat v })
 else some c
def ovrP (go:Bool→Nat→Chart→Option Chart) (l:List Step) (k p:Nat) (c:Chart):Option Chart:=
 if eqI (kindOf l p) 1=true then
  (if ltI (idxI k (kidsM p 0 l)+1) (kidsM p 0 l).length=true then go true (szAt (kidsM p 0 l) (idxI k (kidsM p 0 l)+1)).toNat c else go false p c)
 else if eqI (kindOf l p) 4=true then (if hasB (notOver (c.acts.set k 2)) (kidsM p 0 l)=true then some { c with acts:=c.acts.set k 2 } else go false p { c with acts:=c.acts.set k 2 })
 else go false p c
def ovrC (go:Bool→Nat→Chart→Option Chart) (l:List Step) (k:Nat) (c:Chart):Option Chart:=
 if eqI (k:Int) 0=true then some (stopC l 2 c) else ovrP go l k (parOf l k).toNat c
def goC (l:List Step):Nat→Bool→Nat→Chart→Option Chart
 | 0,_,_,_=>none
 | f+1,true,k,c=>if eqI c.status 1=true then entC (goC l f) l k { c with acts:=c.acts.set k 1 } else some c
 | f+1,false,k,c=>ovrC (goC l f) l k (idleC (undsM l k) c)
theorem Inv.stop {l:List Step} {c:Chart} (h:Inv l c) (st:Int):Inv l (stopC l st c):=⟨h.vars,by simp [stopC],by simp [stopC],h.now0,h.now1,h.rng⟩
theorem Inv.idle {l:List Step} {c:Chart} (h:Inv l c) (ks:List Int):Inv l (idleC ks c):=⟨h.vars,by simp [idleC,zap_len,h.acts],by simp [idleC,zap_len,h.dues],h.now0,h.now1,h.rng⟩
theorem Inv.act {l:List Step} {c:Chart} (h:Inv l c) (k:Nat) (x:Int):Inv l { c with acts:=c.acts.set k x }:=⟨h.vars,by simp [h.acts],h.dues,h.now0,h.now1,h.rng⟩
theorem Inv.due {l:List Step} {c:Chart} (h:Inv l c) (k:Nat) (x:Int):Inv l { c with dues:=c.dues.set k x }:=⟨h.vars,h.acts,by simp [h.dues],h.now0,h.now1,h.rng⟩
theorem Inv.var {l:List Step} {c:Chart} (h:Inv l c) (k:Nat) {x:Int} (hx:badV x=false):Inv l { c with vars:=c.vars.set k x }:=⟨by simp [h.vars],h.acts,h.dues,h.now0,h.now1,fun y hy=>by
 rcases List.mem_or_eq_of_mem_set hy with h1 | h1
 ·exact h.rng y h1
 ·rw [h1]; exact hx⟩
section
variable {l:List Step}
theorem Wf.kidsN (w:Wf l) {k:Nat} (hk:k < l.length):inR (kidsM k 0 l).length (kidB (kindOf l k)).1 (kidB (kindOf l k)).2=true:=by
 have hc:=w.ok.cond k hk
 unfold condFaultM at hc
 have hcode:condCode l k=0:=by
  split at hc
  ·exact hc
  ·rename_i c
   simp [orB,notB,eqI] at c
   exact c.1
 have:=(first2_zero hcode).1
 cases h:inR (kidsM k 0 l).length (kidB (kindOf l k)).1 (kidB (kindOf l k)).2
 ·rw [h] at this; simp [notB] at this
 ·rfl
theorem Wf.kid (w:Wf l) {p:Nat} {x:Int} (hx:x∈kidsM p 0 l):∃ a:Nat,x=a∧a < l.length∧p < a∧parOf l a=p:=by
 rw [proc_kids w.ok] at hx
 obtain ⟨a,ha,h1,h2⟩:=kids4_iff.1 hx
 rw [Nat.zero_add] at h1
 refine ⟨a,h1,ha,?_,by rw [parOf_at ha]; exact h2⟩
 rcases Nat.eq_zero_or_pos a with h | h
 ·subst h
  have:=w.ok.par0 ha
  omega
 ·obtain ⟨q,h3,h4⟩:=w.ok.par a ha h
  omega
theorem Wf.kid_of (w:Wf l) {p k:Nat} (hk:k < l.length) (hp:parOf l k=p):(k:Int)∈kidsM p 0 l:=by
 rw [proc_kids w.ok]
 exact kids4_iff.2 ⟨k,hk,by simp,by rw [← parOf_at hk]; exact hp⟩
theorem Wf.kids24 (w:Wf l) (p:Nat):(kidsM p 0 l).length≤24:=by
 have:=kids_few p l 0
 have:=w.ok.le
 omega
theorem szAt_mem {ks:List Int} {n:Nat} (h:n < ks.length):szAt ks (n:Int)∈ks:=by rw [szAt_lt h]; exact List.getElem_mem h
theorem Wf.arg (w:Wf l) {k:Nat} (hk:k < l.length) (h:kindOf l k=6∨kindOf l k=8):1≤argOf l k∧argOf l k≤99:=by
 have p:=(one_parts (w.at hk)).2.2.2.2.2.2.1
 rw [kindOf_at hk] at h
 have e:argOf l k=(l[k]).arg:=by simp [argOf,hk]
 rw [e]
 rcases h with h | h <;> rw [h] at p <;> simp [argM,eqI,inR,andB,leI] at p <;> exact p
def GoOk (l:List Step) (go:Bool→Nat→Chart→Option Chart):Prop:=
 ∀ b k c c',Inv l c→k < l.length→go b k c=some c'→fo (if b=true then 171 else 193) [aB l c,A (vI k)]=some (RB l c')∧Inv l c'
theorem GoOk.ent {go} (g:GoOk l go) {k:Nat} {c c':Chart} (h:Inv l c) (hk:k < l.length) (hc:go true k c=some c'):fo 171 [aB l c,A (vI k)]=some (RB l c')∧Inv l c':=g true k c c' h hk hc
theorem GoOk.ovr {go} (g:GoOk l go) {k:Nat} {c c':Chart} (h:Inv l c) (hk:k < l.length) (hc:go false k c=some c'):fo 193 [aB l c,A (vI k)]=some (RB l c')∧Inv l c':=g false k c c' h hk hc
set_option maxHeartbeats 1000000 in
theorem lp171 (w:Wf l) {go} (g:GoOk l go) (all:List Int) (hall:all.length≤24) (hks:∀ k,k∈all→∃ x:Nat,k=x∧x < l.length):∀ (rest:List Int) (i:Nat) (c c':Chart),all.drop i=rest→Inv l c→goAll go rest c=some c'→
  evLoop E (orc E) (171:Nat) (rest.length+1) (loopOf Tryz.f171 0) ⟨130,[(0,.ptr 0 0 [] 0),(47,iS all),(48,vI all.length),(49,vI i)],[(0,⟨0,1,true,bO l c⟩)],2⟩=
  some (.exit 1,⟨130,[(0,.ptr 0 0 [] 0),(47,iS all),(48,vI all.length),(49,vI (i+rest.length:Nat)),(50,vB false)],[(0,⟨0,1,true,bO l c'⟩)],2⟩)∧Inv l c'
 | [],i,c,c',h,hI,hg=>by
  have hge:all.length≤i:=by simpa using h
  have hlt:ltI (i:Int) (all.length:Int)=false:=ltI_f (by omega)
  simp only [goAll,Option.some.injEq] at hg; subst hg
  refine ⟨?_,hI⟩
  rw [loop_eq]
  simp +contextual -dsimp [Tryz.f171,hlt]
 | k::rest,i,c,c',h,hI,hg=>by
  obtain ⟨hi,hc,hr⟩:=drop_cons h
  obtain ⟨x,hx,hxl⟩:=hks k (by rw [← hc]; exact List.getElem_mem _)
  have hlt:=ltN_t hi
  have hw:=wrap1 hi (by omega)
  have he:i+1+rest.length=i+(rest.length+1):=by omega
  unfold goAll at hg
  rw [hx,Int.toNat_natCast] at hg
  cases q:go true x c with
  | none=>rw [q] at hg; simp at hg
  | some c1=>
   rw [q] at hg
   obtain ⟨g1,g2⟩:=g.ent hI hxl q
   obtain ⟨ih,hI'⟩:=lp171 w g all hall hks rest (i+1) c1 c' hr g2 hg
   rw [he] at ih
   refine ⟨evLoop_next ?_ (by simpa only [List.length_cons] using ih),hI'⟩
   rw [hx] at hc
   simp (maxSteps:=1000000) +contextual -dsimp [Tryz.f171,hlt,hi,hc,hw,g1]
set_option maxHeartbeats 8000000 in
theorem f_enter (w:Wf l) {go} (g:GoOk l go) (k:Nat) (hk:k < l.length) (c c':Chart) (hI:Inv l c)
  (h:(if eqI c.status 1=true then entC go l k { c with acts:=c.acts.set k 1 } else some c)=some c'):fo 171 [aB l c,A (vI k)]=some (RB l c')∧Inv l c':=by
 have hl24:=w.ok.le
 cases q0:eqI c.status 1
 ·rw [q0,if_neg (by simp)] at h
  simp only [Option.some.injEq] at h; subst h
  refine ⟨?_,hI⟩
  refine orc_171 1 ?_
  simp (maxSteps:=1000000) +contextual -dsimp [Tryz.f171,q0]
 rw [q0,if_pos rfl] at h
 have gk:=f_kids l (by omega) k
 have hka:k < c.acts.length:=by rw [hI.acts]; exact hk
 have hkd:k < c.dues.length:=by rw [hI.dues]; exact hk
 have hkk:(l[k]).kind=kindOf l k:=(kindOf_at hk).symm
 have hkg:(l[k]).arg=argOf l k:=by simp [argOf,hk]
 have hkx:(l[k]).expr=exprOf l k:=by simp [exprOf,hk]
 have hn:=w.kidsN hk
 have h24:=w.kids24 k
 obtain ⟨c1,hc1⟩:∃ c1:Chart,c1={ c with acts:=c.acts.set k 1 }:=⟨_,rfl⟩
 have hI1:Inv l c1:=by rw [hc1]; exact hI.act k 1
 have e1:c1.status=c.status:=by rw [hc1]
 have e2:c1.now=c.now:=by rw [hc1]
 have e3:c1.vars=c.vars:=by rw [hc1]
 have e4:c1.acts=c.acts.set k 1:=by rw [hc1]
 have e5:c1.dues=c.dues:=by rw [hc1]
 rw [← hc1] at h
 generalize hks:kidsM k 0 l=ks at *
 have hkm:∀ x,x∈ks→∃ a:Nat,x=a∧a < l.length:=fun x hx=>by
  rw [← hks] at hx
  obtain ⟨a,h1,h2,_⟩:=w.kid hx
  exact ⟨a,h1,h2⟩
 unfold entC at h
 rw [hks] at h
 cases q1:eqI (kindOf l k) 1
 ·cases q4:eqI (kindOf l k) 4
  ·cases q3:eqI (kindOf l k) 3
   ·cases q8:eqI (kindOf l k) 8
    ·cases q6:eqI (kindOf l k) 6
     ·cases q7:eqI (kindOf l k) 7
      ·simp only [q1,q4,q3,q8,q6,q7,Bool.false_eq_true,if_false,Option.some.injEq] at h
       subst h
       refine ⟨?_,hI1⟩
       refine orc_171 1 ?_
       simp (maxSteps:=1000000) +contextual -dsimp [Tryz.f171,q0,hk,hka,gk,hkk,q1,q4,q3,q8,q6,q7,e1,e2,e3,e4,e5,List.set]
      ·simp only [q1,q4,q3,q8,q6,q7,Bool.false_eq_true,if_false,if_true] at h
       have h7:(l[k]).kind=7:=by rw [hkk]; simpa [eqI] using q7
       obtain ⟨okx,a0,a3⟩:=w.expr hk h7
       rw [hkx] at okx
       rw [hkg] at a0 a3
       obtain ⟨m,hm⟩:=Int.eq_ofNat_of_zero_le a0
       have hml:m < c.vars.length:=by rw [hI.vars]; omega
       have ge:=f_eval (exprOf l k) okx c.vars hI.vars
       rw [e3] at h
       cases ev:evalM (exprOf l k) c.vars with
       | none=>
        rw [ev] at h ge
        simp only [RE] at ge
        simp only [Option.some.injEq] at h
        have gs:=f_stop l (by omega) c1 3
        subst h
        refine ⟨?_,hI1.stop 3⟩
        rw [hc1] at gs ⊢
        simp only [aB,bO,RB,stopC,iE,List.map_set] at gs ⊢
        refine orc_171 1 ?_
        simp (maxSteps:=1000000) +contextual -dsimp [Tryz.f171,q0,hk,hka,gk,hkk,hkx,q1,q4,q3,q8,q6,q7,ge,gs,List.set]
       | some v=>
        rw [ev] at h ge
        simp only [RE] at ge
        simp only [hm,Int.toNat_natCast] at h
        obtain ⟨g1,g2⟩:=g.ovr (hI1.var m (eval_good okx ev)) hk (by rw [e3]; exact h)
        rw [hc1] at g1
        simp only [aB,bO,RB,iE,List.map_set] at g1
        refine ⟨?_,g2⟩
        refine orc_171 1 ?_
        simp (maxSteps:=1000000) +contextual -dsimp [Tryz.f171,q0,hk,hka,gk,hkk,hkx,hkg,hm,hml,q1,q4,q3,q8,q6,q7,ge,g1,List.set]
     ·simp only [q1,q4,q3,q8,q6,Bool.false_eq_true,if_false,if_true,Option.some.injEq] at h
      obtain ⟨a1,a2⟩:=w.arg hk (.inl (by simpa [eqI] using q6))
      have hw:IntKind.i64.wrap (c.now+argOf l k)=c.now+argOf l k:=by have:=hI.now0; have:=hI.now1; rw [wrapI] <;> omega
      subst h
      refine ⟨?_,by simpa only [e5,e2] using hI1.due k (c.now+argOf l k)⟩
      refine orc_171 1 ?_
      simp (maxSteps:=1000000) +contextual -dsimp [Tryz.f171,q0,hk,hka,hkd,gk,hkk,hkg,hw,q1,q4,q3,q8,q6,e1,e2,e3,e4,e5,List.set]
    ·simp only [q1,q4,q3,q8,Bool.false_eq_true,if_false,if_true] at h
     have h8:kindOf l k=8:=by simpa [eqI] using q8
     obtain ⟨a1,a2⟩:=w.arg hk (.inr h8)
     have hw:IntKind.i64.wrap (c.now+argOf l k)=c.now+argOf l k:=by have:=hI.now0; have:=hI.now1; rw [wrapI] <;> omega
     rw [h8] at hn
     obtain ⟨x,r,rfl⟩:∃ x r,ks=x::r:=by
      cases ks with
      | nil=>simp [kidB,eqI,inR,andB,leI] at hn
      | cons x r=>exact ⟨x,r,rfl⟩
     obtain ⟨y,rfl,hyl⟩:=hkm x (by simp)
     have es:szAt ((y:Int)::r) 0=y:=rfl
     rw [es,Int.toNat_natCast] at h
     obtain ⟨g1,g2⟩:=g.ent (hI1.due k (c1.now+argOf l k)) hyl h
     rw [hc1] at g1
     simp only [aB,bO,RB,iE,List.map_set] at g1
     refine ⟨?_,g2⟩
     refine orc_171 1 ?_
     simp (maxSteps:=1000000) +contextual -dsimp [Tryz.f171,q0,hk,hka,hkd,gk,hkk,hkg,hw,q1,q4,q3,q8,g1,List.set]
   ·simp only [q1,q4,q3,Bool.false_eq_true,if_false,if_true] at h
    have hcm:chooseM l c1.vars ks=-1∨chooseM l c1.vars ks=-2∨chooseM l c1.vars ks∈ks:=by
     clear h hn h24 hks gk
     induction ks with
     | nil=>exact .inr (.inl rfl)
     | cons x r ih=>
      have ih:=ih (fun y hy=>hkm y (by simp [hy]))
      unfold chooseM pickV
      split
      ·split
       ·exact .inl rfl
       ·split
        ·exact .inr (.inr (by simp))
        ·rcases ih with h | h | h
         ·exact .inl h
         ·exact .inr (.inl h)
         ·exact .inr (.inr (by simp [h]))
      ·exact .inr (.inr (by simp))
    have key:(chooseM l c1.vars ks=-2→c'=c1)∧(chooseM l c1.vars ks=-1→c'=stopC l 3 c1)∧(0≤chooseM l c1.vars ks→fo 171 [aB l c1,A (vI (chooseM l c1.vars ks))]=some (RB l c'))∧Inv l c':=by
     rcases hcm with q | q | q
     ·rw [q] at h ⊢
      simp [eqI] at h
      subst h
      exact ⟨fun h=>absurd h (by omega),fun _=>rfl,fun h=>absurd h (by omega),hI1.stop 3⟩
     ·rw [q] at h ⊢
      simp [eqI] at h
      subst h
      exact ⟨fun _=>rfl,fun h=>absurd h (by omega),fun h=>absurd h (by omega),hI1⟩
     ·obtain ⟨y,hy,hyl⟩:=hkm _ q
      rw [hy] at h ⊢
      rw [if_neg (by simp [eqI] <;> omega),if_neg (by simp [eqI] <;> omega),Int.toNat_natCast] at h
      obtain ⟨g1,g2⟩:=g.ent hI1 hyl h
      exact ⟨fun h=>absurd h (by omega),fun h=>absurd h (by omega),fun _=>g1,g2⟩
    obtain ⟨k0,k1,k2,k3⟩:=key
    have gc:=f_choose w c1 hI1.vars ks h24 hkm c' k0 k1 k2
    rw [hc1] at gc
    simp only [aB,bO,RB,iE,List.map_set] at gc
    refine ⟨?_,k3⟩
    refine orc_171 1 ?_
    simp (maxSteps:=1000000) +contextual -dsimp [Tryz.f171,q0,hk,hka,gk,hkk,q1,q4,q3,gc,List.set]
  ·simp only [q1,q4,Bool.false_eq_true,if_false,if_true] at h
   obtain ⟨g1,g2⟩:=lp171 w g ks h24 hkm ks 0 c1 c' rfl hI1 h
   refine ⟨?_,g2⟩
   rw [hc1] at g1
   simp only [bO,iE,List.map_set] at g1
   simp -dsimp [Tryz.f171] at g1
   refine orc_171 (ks.length+1) ?_
   simp (maxSteps:=1000000) +contextual -dsimp [Tryz.f171,q0,hk,hka,gk,hkk,q1,q4,g1,List.set]
 ·simp only [q1,if_true] at h
  have h1:kindOf l k=1:=by simpa [eqI] using q1
  rw [h1] at hn
  obtain ⟨x,r,rfl⟩:∃ x r,ks=x::r:=by
   cases ks with
   | nil=>simp [kidB,eqI,inR,andB,leI] at hn
   | cons x r=>exact ⟨x,r,rfl⟩
  obtain ⟨y,rfl,hyl⟩:=hkm x (by simp)
  have es:szAt ((y:Int)::r) 0=y:=rfl
  rw [es,Int.toNat_natCast] at h
  obtain ⟨g1,g2⟩:=g.ent hI1 hyl h
  rw [hc1] at g1
  simp only [aB,bO,RB,iE,List.map_set] at g1
  refine ⟨?_,g2⟩
  refine orc_171 1 ?_
  simp (maxSteps:=1000000) +contextual -dsimp [Tryz.f171,q0,hk,hka,gk,hkk,q1,g1,List.set]
end
end Go.TM.Ft
namespace Go.TM.Ft
open Go Go.TM Go.Proofs
set_option maxRecDepth 20000
attribute [local congr] gif_cg
attribute [local simp] footOf noClash clash upsets setsHit setHits layHits layMeets setsMeet evFeet seal4_iE
theorem idxM_found {p:Int→Bool}:∀ {l:List Int} {i:Nat},(∃ x,x∈l∧p x=true)→∃ j:Nat,idxM p i l=(i+j:Nat)∧j < l.length∧p (szAt l j)=true
 | [],i,h=>by obtain ⟨x,hx,_⟩:=h; simp at hx
 | y::l,i,h=>by
  unfold idxM
  cases c:p y
  ·have h2:∃ x,x∈l∧p x=true:=by
    obtain ⟨x,hx,hp⟩:=h
    rcases List.mem_cons.1 hx with rfl | hx
    ·rw [c] at hp; simp at hp
    ·exact ⟨x,hx,hp⟩
   obtain ⟨j,h3,h4,h5⟩:=idxM_found (i:=i+1) h2
   refine ⟨j+1,by simp; rw [h3]; omega,by simp; omega,?_⟩
   rw [szAt_lt (by simp; omega)]
   rw [szAt_lt h4] at h5
   simpa using h5
  ·exact ⟨0,by simp,by simp,by rw [szAt_lt (by simp)]; simpa using c⟩
theorem idxI_found {v:Int} {l:List Int} (h:v∈l):∃ j:Nat,idxI v l=j∧j < l.length∧szAt l j=v:=by
 obtain ⟨j,h1,h2,h3⟩:=idxM_found (p:=fun x=>eqI v x) (i:=0) ⟨v,h,by simp [eqI]⟩
 rw [Nat.zero_add] at h1
 refine ⟨j,h1,h2,?_⟩
 have:v=szAt l j:=by simpa [eqI] using h3
 exact this.symm
theorem seal4_set (l:List Int) (k:Nat) (x:Int):sealEs ((iE l).set k [vI x])=(iE l).set k [vI x]:=by
 have:(iE l).set k [vI x]=iE (l.set k x):=by simp [iE]
 rw [this]; exact seal4_iE _
attribute [local simp] seal4_set
section
variable {l:List Step}
set_option maxHeartbeats 8000000 in
theorem f_over (w : Wf l) {go} (g : GoOk l go) (k : Nat) (hk : k < l.length) (c c' : Chart) (hI : Inv l c)
    (h : ovrC go l k (idleC (undsM l k) c) = some c') : fo 193 [aB l c, A (vI k)] = some (RB l c') ∧ Inv l c' := by
  have hl24 := w.ok.le
  have gi := f_idle w c hI.acts hI.dues k hk
  obtain ⟨c1, hc1⟩ : ∃ c1 : Chart, c1 = idleC (undsM l k) c := ⟨_, rfl⟩
  have hI1 : Inv l c1 := by rw [hc1]; exact hI.idle _
  rw [← hc1] at gi h
  unfold ovrC at h
  cases q0 : eqI (k : Int) 0
  · rw [q0, if_neg (by simp)] at h
    have hk0 : 0 < k := by rcases Nat.eq_zero_or_pos k with e | e; · subst e; simp [eqI] at q0
                           · exact e
    obtain ⟨p, hp, hpk⟩ := w.par hk hk0
    have hpl : p < l.length := by omega
    rw [hp, Int.toNat_natCast] at h
    have hp' : (l[k]).parent = (p : Int) := by rw [← parOf_at hk]; exact hp
    have hkp : (l[p]).kind = kindOf l p := (kindOf_at hpl).symm
    have gk := f_kids l (by omega) p
    have hka : k < c1.acts.length := by rw [hI1.acts]; exact hk
    have h24 := w.kids24 p
    have hmem := w.kid_of hk hp
    unfold ovrP at h
    generalize hks : kidsM p 0 l = ks at *
    have hkm : ∀ x, x ∈ ks → ∃ a : Nat, x = a ∧ a < l.length := fun x hx => by
      rw [← hks] at hx
      obtain ⟨a, h1, h2, _⟩ := w.kid hx
      exact ⟨a, h1, h2⟩
    cases q1 : eqI (kindOf l p) 1
    · cases q4 : eqI (kindOf l p) 4
      · simp only [q1, q4, Bool.false_eq_true, if_false] at h
        obtain ⟨g1, g2⟩ := g.ovr hI1 hpl h
        refine ⟨?_, g2⟩
        refine orc_193 1 ?_
        simp (maxSteps := 1000000) +contextual -dsimp [Tryz.f193, gi, q0, hk, hp', hpl, hkp, gk, q1, q4, g1, List.set]
      · simp only [q1, q4, Bool.false_eq_true, if_false, if_true] at h
        obtain ⟨c2, hc2⟩ : ∃ c2 : Chart, c2 = { c1 with acts := c1.acts.set k 2 } := ⟨_, rfl⟩
        have hI2 : Inv l c2 := by rw [hc2]; exact hI1.act k 2
        have ea : c2.acts = c1.acts.set k 2 := by rw [hc2]
        rw [← hc2, ← ea] at h
        have gn := f_ContClo (g := 249) (cap := [.ipt (bT l c2)]) (by simp) (notOver c2.acts) ks (by omega) (fun x hx => by
          obtain ⟨a, rfl, ha⟩ := hkm x hx
          exact f_notOver l c2 a (by rw [hI2.acts]; exact ha))
        cases q5 : hasB (notOver c2.acts) ks
        · rw [q5] at h gn
          simp only [Bool.false_eq_true, if_false] at h
          obtain ⟨g1, g2⟩ := g.ovr hI2 hpl h
          refine ⟨?_, g2⟩
          rw [hc2] at gn g1
          simp only [aB, bO, bT, iS, RB, iE, List.map_set] at gn g1
          refine orc_193 1 ?_
          simp (maxSteps := 1000000) +contextual -dsimp [Tryz.f193, gi, q0, hk, hka, hp', hpl, hkp, gk, q1, q4, gn, g1, List.set]
        · rw [q5] at h gn
          simp only [if_true, Option.some.injEq] at h
          subst h
          refine ⟨?_, hI2⟩
          rw [hc2] at gn ⊢
          simp only [aB, bO, bT, iS, RB, iE, List.map_set] at gn ⊢
          refine orc_193 1 ?_
          simp (maxSteps := 1000000) +contextual -dsimp [Tryz.f193, gi, q0, hk, hka, hp', hpl, hkp, gk, q1, q4, gn, List.set]
    · simp only [q1, if_true] at h
      have gx := f_Index ks (by omega) k
      obtain ⟨j, e1, e2, e3⟩ := idxI_found hmem
      rw [e1] at h gx
      obtain ⟨j1, hj1⟩ : ∃ j1, j1 = j + 1 := ⟨_, rfl⟩
      have hw : IntKind.i64.wrap ((j : Int) + 1) = (j1 : Int) := by rw [wrapI] <;> omega
      have hj2 : (j : Int) + 1 = (j1 : Int) := by omega
      rw [hj2] at h
      cases q2 : ltI (j1 : Int) ks.length
      · rw [q2, if_neg (by simp)] at h
        obtain ⟨g1, g2⟩ := g.ovr hI1 hpl h
        refine ⟨?_, g2⟩
        refine orc_193 1 ?_
        simp (maxSteps := 1000000) +contextual -dsimp [Tryz.f193, gi, q0, hk, hp', hpl, hkp, gk, q1, gx, hw, q2, g1, List.set]
      · rw [q2, if_pos rfl] at h
        have hj : j1 < ks.length := by simp [ltI] at q2; omega
        obtain ⟨y, hy, hyl⟩ := hkm _ (szAt_mem hj)
        have hy2 : ks[j1] = (y : Int) := by rw [← szAt_lt hj]; exact hy
        rw [hy, Int.toNat_natCast] at h
        obtain ⟨g1, g2⟩ := g.ent hI1 hyl h
        refine ⟨?_, g2⟩
        refine orc_193 1 ?_
        simp (maxSteps := 1000000) +contextual -dsimp [Tryz.f193, gi, q0, hk, hp', hpl, hkp, gk, q1, gx, hw, q2, hj, hy2, g1, List.set]
  · rw [q0, if_pos rfl] at h
    simp only [Option.some.injEq] at h
    subst h
    have gs := f_stop l (by omega) c1 2
    refine ⟨?_, hI1.stop 2⟩
    refine orc_193 1 ?_
    simp (maxSteps := 1000000) +contextual -dsimp [Tryz.f193, gi, q0, gs, List.set]
theorem goC_ok (w:Wf l):∀ f,GoOk l (goC l f)
 | 0,_,_,_,_,_,_,h=>by simp [goC] at h
 | f+1,true,k,c,c',hI,hk,h=>by
  unfold goC at h
  exact f_enter w (goC_ok w f) k hk c c' hI h
 | f+1,false,k,c,c',hI,hk,h=>by
  unfold goC at h
  exact f_over w (goC_ok w f) k hk c c' hI h
end
end Go.TM.Ft
